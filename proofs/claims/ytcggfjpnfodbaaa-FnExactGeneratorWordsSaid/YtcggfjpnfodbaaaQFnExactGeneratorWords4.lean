/- Lemmas for the row FnExactGeneratorWords: the program's functions told as plain functions, and plain mathematics. No conditions. -/
import Derived.Lib.Bytealg
import Derived.Lib.Walk
import Derived.Test.YtcggfjpnfodbaaaQFnExactGeneratorWords3
section
/- Finding the orbit: the program's walk. No conditions. -/
namespace Go.Proofs.Ytcggfjpnfodbaaa.M
set_option linter.unusedVariables false
set_option linter.unusedSimpArgs false
open Go Go.RowKit Go.Proofs.YtcggfjpnfodbaaaW.PrintWords Go.Proofs.YtcggfjpnfodbaaaW.PrintLast Go.Proofs.YtcggfjpnfodbaaaW.PrintMore Go.Proofs.Ytcggfjpnfodbaaa.A
def OrbPost (w w':World) (e:Ending):Option Orb→Prop
 | none=>e = .returned (.tuple #[.pointer none,.bool false])∧Below w.heap.size w w'
 | some s=>∃ gO gM n col vL vW vF vB vT vS,e = .returned (.tuple #[.pointer (some ⟨gO,0,none⟩),.bool true])∧OrbH w.heap.size col w' gO gM n vL vW vF vB vT vS s∧Below w.heap.size w w'
set_option maxHeartbeats 8000000 in
set_option maxRecDepth 100000 in
theorem orbit_no (k:Nat) (A0:Option Addr) (c0:Nat) (l0:List Int) (A1:Option Addr) (c1:Nat) (l1:List Int) (y1 y2:List Int) (w:World) (h0:Kd.C (Kd.int .i64) w A0 l0.length l0) (g0:l0.length≤c0) (h1:Kd.C (Kd.int .i64) w A1 l1.length l1) (g1:l1.length≤c1) (h:Z55.f k l0 l1 = some (y1,y2,false)) :
  Calls Try.prog 59 #[.agg #[.slice A0 l0.length c0,.slice A1 l1.length c1]] w fun e w'=>OrbPost w w' e none:=by
 have hu:=Try.underlying25
 have H0:=Aside0.mk h0;have H1:=Aside0.mk h1;have G0:=Aside0.mk g0;have G1:=Aside0.mk g1;have HA:=Aside0.mk h
 clear h0 h1 g0 g1 h
 have HB:=Aside0.mk (Below.refl w.heap.size w)
 go_enter Try.func59,Try.ntmps59
 go_wp2_with (first | ((with_reducible refine gate_dst (N:=1) rfl ?_);refine bx_ 1 #[.slice A0 l0.length c0,.slice A1 l1.length c1] 25 ?_;intro gs hg w2 hbox hb;have BS:=Aside0.mk hbox;replace HB:=b1_ hb;clear hb hbox hg;obtain ⟨hcz0,hcz1,hfz0,hfz1⟩:=c2_ BS) | ((with_reducible refine gate_callee (f:=28) rfl ?_);refine gL_ (some 15) Try.func28 #[.agg #[.slice A0 l0.length c0,.slice A1 l1.length c1]] rfl qa_ ?_;(with_reducible refine (Z55.calls k _ _ l0 _ _ l1 y1 y2 false _ (cb_ H0) G0.out (cb_ H1) G1.out HA.out).mono ?_);rintro e w3 ⟨v0,v1,rfl,ho0,ho1,hb⟩;refine ⟨_,rfl,?_⟩;replace HB:=b1_ hb;clear hb;obtain ⟨Ay0,cy0,ey0⟩:=Kd.R_slice ho0;subst ey0;obtain ⟨Ay1,cy1,ey1⟩:=Kd.R_slice ho1;subst ey1;clear ho0 ho1) | ((with_reducible refine gate_dst (N:=4) rfl ?_);refine bx_ 4 #[.slice none 0 0,.slice none 0 0] 25 ?_;intro gf hg w4 hbox hb;have GF:=gw_ w hg;have BF:=Aside0.mk hbox;replace HB:=b1_ hb;clear hb hbox hg;obtain ⟨hcf0,hcf1,hff0,hff1⟩:=c2_ BF))
 go_ret2
 exact ⟨qb_,hB_⟩
section
variable {P:Program} {ops:Array Oper} {rest:List Oper} {o:Oper} {a:Act} {Q:Exit→Act→World→Prop}
theorem lit_event {W:World} (N:Tmp) (cs:Array Value) (e:TypeId) (n:Nat) (h:∀ g,g = W.heap.size→∀ w1,w1.heap[g]? = some (.cells cs e (0,0))→Below W.heap.size W w1→wpList P ops Q rest (a.put o.dst (.slice (some ⟨g,0,none⟩) n n)) w1) (hgd:o.guard = none:=by rfl) (hd:o.dst = some N:=by rfl)
  (hrun:(execOp a.eval o).run P W = .ok (.value (.slice (some ⟨W.heap.size,0,none⟩) n n)) (W.alloc (.cells cs e (0,0))):=by first | (go_simp;done) | (go_simp;rfl)):wpList P ops Q (o :: rest) a W :=
 Kd.event_run hgd hrun (h _ rfl _ (blk_new W _) (below_alloc (Below.refl _ _) _))
theorem map_event {W:World} (N:Tmp) (h:∀ g,g = W.heap.size→∀ w1,w1.heap[g]? = some (.map #[] 0)→Below W.heap.size W w1→wpList P ops Q rest (a.put o.dst (.map (some g))) w1) (hgd:o.guard = none:=by rfl) (hd:o.dst = some N:=by rfl)
  (hrun:(execOp a.eval o).run P W = .ok (.value (.map (some W.heap.size))) (W.alloc (.map #[] 0)):=by first | (go_simp;done) | (go_simp;rfl)):wpList P ops Q (o :: rest) a W :=
 Kd.event_run hgd hrun (h _ rfl _ (blk_new W _) (below_alloc (Below.refl _ _) _))
end
theorem R_blk {α:Type} {enc:α→Value} {h1:∀ x:α,(enc x).oneCell' = true} {W:World} {g e base:Nat} {x:α} {ok:Nat→Prop} (hb:W.heap[g]? = some (.cells #[enc x] e (0,0))) (hg:base≤g) (hok:ok g):(Kd.scalar enc h1).R e W base ok (.slice (some ⟨g,0,none⟩) 1 1) [x] :=
 ⟨fun k hk=>(by simpa [Value.ownBlock] using hk:g = k) ▸ hok,[enc x],⟨rfl,.inr ⟨g,1,#[enc x],rfl,hg,hb,Nat.le_refl _,by decide,rfl,rfl⟩⟩,Reps.one rfl (Reps.none _ _)⟩
theorem S_blk {W:World} {g base:Nat} {u0 u1:Value} {x:S25} {ok:Nat→Prop} (hb:W.heap[g]? = some (.cells #[u0,u1] 25 (0,0))) (hg:base≤g) (hok:ok g) (h0:Kd.R (Kd.int .i64) 3 W base (fun k=>ok k∧k≠g) u0 x.f0) (h1:Kd.R (Kd.int .i64) 3 W base (fun k=>ok k∧k≠g) u1 x.f1) (ne:NeRow u0 u1):Kd.S k25 25 W base ok (.slice (some ⟨g,0,none⟩) 1 1) [x]:=by
 refine ⟨fun _=>0,fun k hk=>by
  have:g = k:=by simpa [Value.ownBlock] using hk
  exact this ▸ hok,[u0,u1],⟨rfl,.inr ⟨g,1,#[u0,u1],rfl,hg,hb,Nat.le_refl _,by decide,rfl,rfl⟩⟩,Reps.c2 ?_ (Reps.none _ _)⟩
 exact k25_mkM _ _ _ x (Kd.R_mono h0 (fun k hk=>⟨⟨hk.1,by simpa [Value.ownBlock] using hk.2⟩,rfl⟩)) (Kd.R_mono h1 (fun k hk=>⟨⟨hk.1,by simpa [Value.ownBlock] using hk.2⟩,rfl⟩)) ne
def orb_T21:Bool × List (List Nat × List Nat):=(true,[([],[]),([0],[0]),([1],[1]),([2],[2]),([],[]),([],[]),([5],[5]),([6],[6]),([7],[7]),([],[]),([8,9],[8,9]),([],[]),([11],[11]),([10,12],[10,12]),([3,4,13,13,0,1,2,3,4,5,6,7,8,9,10,11,12,13],[3,4,13])])
def orb_B21:List Nat:=[0,1,3,7,0,0,32,96,224,0,992,0,2048,8160,16383]
theorem orb_tab21:rtab .any (opsOf Try.f59 21) = orb_T21:=by kernel_rfl
theorem orb_bits21:waitsOk orb_T21.2 orb_B21 = true:=by kernel_rfl
def orb_T17:Bool × List (List Nat × List Nat):=(true,[([],[]),([],[]),([1],[1]),([2],[2]),([3],[3]),([],[]),([5],[5]),([4,6],[4,6]),([0,0,1,2,3,4,5,6,7],[0]),([8,0,1,2,3,4,5,6,7],[8]),([9,7,7,0,1,2,3,4,5,6,7],[7,9])])
def orb_B17:List Nat:=[0,0,2,6,14,0,32,126,255,511,1023]
theorem orb_tab17:rtab .any (opsOf Try.f59 17) = orb_T17:=by kernel_rfl
theorem orb_bits17:waitsOk orb_T17.2 orb_B17 = true:=by kernel_rfl
def orb_T18:Bool × List (List Nat × List Nat):=(true,[([],[]),([],[]),([1],[1]),([2],[2]),([3],[3]),([],[]),([5],[5]),([6],[6]),([7],[7]),([],[]),([8,9],[8,9]),([10],[10]),([],[]),([12],[12]),([13],[13]),([11,14],[11,14]),([15],[15]),([4,16],[4,16]),([0,0,1,2,3,4,5,6,7,8,9,10,11,12,13,14,15,16,17],[0]),([18,0,1,2,3,4,5,6,7,8,9,10,11,12,13,14,15,16,17],[18]),([19,17,17,0,1,2,3,4,5,6,7,8,9,10,11,12,13,14,15,16,17],[17,19])])
def orb_B18:List Nat:=[0,0,2,6,14,0,32,96,224,0,992,2016,0,4096,12288,32736,65504,131070,262143,524287,1048575]
theorem orb_tab18:rtab .any (opsOf Try.f59 18) = orb_T18:=by kernel_rfl
theorem orb_bits18:waitsOk orb_T18.2 orb_B18 = true:=by kernel_rfl
set_option maxHeartbeats 8000000 in
set_option maxRecDepth 100000 in
theorem orbit_yes (k:Nat) (A0:Option Addr) (c0:Nat) (l0:List Int) (A1:Option Addr) (c1:Nat) (l1:List Int) (y1 y2:List Int) (R:Option Orb) (w:World) (h0:Kd.C (Kd.int .i64) w A0 l0.length l0) (g0:l0.length≤c0) (h1:Kd.C (Kd.int .i64) w A1 l1.length l1) (g1:l1.length≤c1) (h:Z55.f k l0 l1 = some (y1,y2,true)) (hl:loopO k ⟨[⟨y1,y2⟩],[⟨#[]⟩],[-1],[0],[],[]⟩ 0 = some R) :
  Calls Try.prog 59 #[.agg #[.slice A0 l0.length c0,.slice A1 l1.length c1]] w fun e w'=>OrbPost w w' e R:=by
 have hu:=Try.underlying25
 have H0:=Aside0.mk h0;have H1:=Aside0.mk h1;have G0:=Aside0.mk g0;have G1:=Aside0.mk g1;have HA:=Aside0.mk h;have HL:=Aside0.mk hl
 clear h0 h1 g0 g1 h hl
 have HB:=Aside0.mk (Below.refl w.heap.size w)
 go_enter Try.func59,Try.ntmps59
 go_upto_region 4 with (first | ((with_reducible refine gate_dst (N:=1) rfl ?_);refine bx_ 1 #[.slice A0 l0.length c0,.slice A1 l1.length c1] 25 ?_;intro gs hg w2 hbox hb;have BS:=Aside0.mk hbox;replace HB:=b1_ hb;clear hb hbox hg;obtain ⟨hcz0,hcz1,hfz0,hfz1⟩:=c2_ BS) | ((with_reducible refine gate_callee (f:=28) rfl ?_);refine gL_ (some 15) Try.func28 #[.agg #[.slice A0 l0.length c0,.slice A1 l1.length c1]] rfl qa_ ?_;(with_reducible refine (Z55.calls k _ _ l0 _ _ l1 y1 y2 true _ (cb_ H0) G0.out (cb_ H1) G1.out HA.out).mono ?_);rintro e w3 ⟨v0,v1,rfl,ho0,ho1,hb⟩;refine ⟨_,rfl,?_⟩;have ZB:=Aside0.mk (below_size hB_:w.heap.size≤w2.heap.size);replace HB:=b1_ hb;clear hb;obtain ⟨Ay0,cy0,ey0⟩:=Kd.R_slice ho0;subst ey0;obtain ⟨Ay1,cy1,ey1⟩:=Kd.R_slice ho1;subst ey1;have Y0:=Aside0.mk ho0;have Y1:=Aside0.mk ho1;clear ho0 ho1) | ((with_reducible refine gate_dst (N:=4) rfl ?_);refine bx_ 4 #[.slice none 0 0,.slice none 0 0] 25 ?_;intro gf hg w4 hbox hb;have GF:=gw_ w hg;have GF2:=Aside0.mk (show w3.heap.size≤gf from Nat.le_of_eq hg.symm);have BF:=Aside0.mk hbox;have B3:=Aside0.mk hb;replace HB:=b1_ hb;clear hb hbox hg;obtain ⟨hcf0,hcf1,hff0,hff1⟩:=c2_ BF))
 obtain ⟨hbox,hkp,hB2⟩:=box_store BF.out (.slice Ay0 y1.length cy0) (.slice Ay1 y2.length cy1) HB.out GF.out
 generalize hw:((w4.setCell ⟨gf,0,none⟩ (.slice Ay0 y1.length cy0)).setCell ⟨gf,1,none⟩ (.slice Ay1 y2.length cy1)) = w5 at hbox hkp hB2 ⊢
 clear hw hcf0 hcf1 hff0 hff1 hcz0 hcz1 hfz0 hfz1 HB
 have NE:=Aside0.mk (show NeRow (.slice Ay0 y1.length cy0) (.slice Ay1 y2.length cy1) from fun k_ e1_ e2_=>(Y0.out.1 k_ e1_) e2_.symm)
 replace Y0:=Aside0.mk (Kd.R_kept (Kd.R_below (Kd.R_bound Y0.out) B3.out) hkp (fun k_ hk hs=>by have h2:=hk.2.2.1;have h3:=GF2.out;omega))
 replace Y1:=Aside0.mk (Kd.R_kept (Kd.R_below (Kd.R_bound Y1.out) B3.out) hkp (fun k_ hk hs=>by have h2:=hk.2.2.1;have h3:=GF2.out;omega))
 have HB:=Aside0.mk hB2
 replace BF:=Aside0.mk (show w5.heap[gf]? = some (.cells #[.slice Ay0 y1.length cy0,.slice Ay1 y2.length cy1] 25 (0,0)) from hbox)
 have Z5:=Aside0.mk hkp.1
 have HB5:=HB
 clear hbox hkp hB2
 obtain ⟨hcf0,hcf1,hff0,hff1⟩:=c2_ BF
 replace Y0:=Aside0.mk (Kd.R_bound Y0.out)
 replace Y1:=Aside0.mk (Kd.R_bound Y1.out)
 go_wp2_with (first | ((with_reducible refine gate_dst (N:=21) rfl ?_);refine lit_event 21 #[.slice Ay0 y1.length cy0,.slice Ay1 y2.length cy1] 25 1 ?_;intro g1 hg w6 hbox hb;have Kg1:=Aside0.mk hbox;have Sg1:=Aside0.mk (show w5.heap.size≤g1∧g1 < w6.heap.size from ⟨Nat.le_of_eq hg.symm,(Array.getElem?_eq_some_iff.1 hbox).1⟩);replace Y0:=Aside0.mk (Kd.R_below Y0.out hb);replace Y1:=Aside0.mk (Kd.R_below Y1.out hb);replace HB:=b1_ hb;clear hb hbox hg) | ((with_reducible refine gate_dst (N:=22) rfl ?_);refine lit_event 22 #[.string ⟨#[]⟩] 9 1 ?_;intro g2 hg w7 hbox hb;have Kg2:=Aside0.mk hbox;have Sg2:=Aside0.mk (show w6.heap.size≤g2∧g2 < w7.heap.size from ⟨Nat.le_of_eq hg.symm,(Array.getElem?_eq_some_iff.1 hbox).1⟩);replace Kg1:=bb_ Kg1 hb;replace Y0:=Aside0.mk (Kd.R_below Y0.out hb);replace Y1:=Aside0.mk (Kd.R_below Y1.out hb);replace HB:=b1_ hb;clear hb hbox hg) | ((with_reducible refine gate_dst (N:=23) rfl ?_);refine lit_event 23 #[.int .i64 (-1)] 3 1 ?_;intro g3 hg w8 hbox hb;have Kg3:=Aside0.mk hbox;have Sg3:=Aside0.mk (show w7.heap.size≤g3∧g3 < w8.heap.size from ⟨Nat.le_of_eq hg.symm,(Array.getElem?_eq_some_iff.1 hbox).1⟩);replace Kg1:=bb_ Kg1 hb;replace Kg2:=bb_ Kg2 hb;replace Y0:=Aside0.mk (Kd.R_below Y0.out hb);replace Y1:=Aside0.mk (Kd.R_below Y1.out hb);replace HB:=b1_ hb;clear hb hbox hg) | ((with_reducible refine gate_dst (N:=24) rfl ?_);refine lit_event 24 #[.int .u8 0] 5 1 ?_;intro g4 hg w9 hbox hb;have Kg4:=Aside0.mk hbox;have Sg4:=Aside0.mk (show w8.heap.size≤g4∧g4 < w9.heap.size from ⟨Nat.le_of_eq hg.symm,(Array.getElem?_eq_some_iff.1 hbox).1⟩);replace Kg1:=bb_ Kg1 hb;replace Kg2:=bb_ Kg2 hb;replace Kg3:=bb_ Kg3 hb;replace Y0:=Aside0.mk (Kd.R_below Y0.out hb);replace Y1:=Aside0.mk (Kd.R_below Y1.out hb);replace HB:=b1_ hb;clear hb hbox hg) | ((with_reducible refine gate_dst (N:=25) rfl ?_);refine map_event 25 ?_;intro gM hg w10 hbox hb;have KgM:=Aside0.mk hbox;have SgM:=Aside0.mk (show w9.heap.size≤gM∧gM < w10.heap.size from ⟨Nat.le_of_eq hg.symm,(Array.getElem?_eq_some_iff.1 hbox).1⟩);replace Kg1:=bb_ Kg1 hb;replace Kg2:=bb_ Kg2 hb;replace Kg3:=bb_ Kg3 hb;replace Kg4:=bb_ Kg4 hb;replace Y0:=Aside0.mk (Kd.R_below Y0.out hb);replace Y1:=Aside0.mk (Kd.R_below Y1.out hb);replace HB:=b1_ hb;clear hb hbox hg) | ((with_reducible refine gate_dst (N:=27) rfl ?_);refine bx_ 27 #[.slice (some ⟨g1,0,none⟩) 1 1,.slice (some ⟨g2,0,none⟩) 1 1,.slice (some ⟨g3,0,none⟩) 1 1,.slice (some ⟨g4,0,none⟩) 1 1,.map (some gM)] 69 ?_;intro gO hg w11 hbox hb;have KgO:=Aside0.mk hbox;have SgO:=Aside0.mk (show w10.heap.size≤gO∧gO < w11.heap.size from ⟨Nat.le_of_eq hg.symm,(Array.getElem?_eq_some_iff.1 hbox).1⟩);replace Kg1:=bb_ Kg1 hb;replace Kg2:=bb_ Kg2 hb;replace Kg3:=bb_ Kg3 hb;replace Kg4:=bb_ Kg4 hb;replace KgM:=bb_ KgM hb;replace Y0:=Aside0.mk (Kd.R_below Y0.out hb);replace Y1:=Aside0.mk (Kd.R_below Y1.out hb);replace HB:=b1_ hb;clear hb hbox hg))
 have HH:Aside0 (OrbH w.heap.size (fun k=>if k = g2 then 1 else if k = g3 then 2 else if k = g4 then 3 else if k = gO then 6 else if k = gM then 7 else 0) w11 gO gM 0 (.slice (some ⟨g1,0,none⟩) 1 1) (.slice (some ⟨g2,0,none⟩) 1 1) (.slice (some ⟨g3,0,none⟩) 1 1) (.slice (some ⟨g4,0,none⟩) 1 1) (.slice none 0 0) (.slice none 0 0) ⟨[⟨y1,y2⟩],[⟨#[]⟩],[-1],[0],[],[]⟩):=by
  have q1:=Sg1.out;have q2:=Sg2.out;have q3:=Sg3.out;have q4:=Sg4.out;have q5:=SgM.out;have q6:=SgO.out
  have z5:=Z5.out;have z2:=ZB.out;have zf:=GF.out;have zg:=GF2.out
  have bz:w.heap.size≤w5.heap.size:=HB5.out.size
  refine ⟨⟨KgO.out,KgM.out,?_,?_,by omega,by omega,fun _=>rfl,fun _=>rfl,?_,?_,?_,?_,Kd.R_nil _ _ _ _ _,Kd.R_nil _ _ _ _ _⟩⟩
  ·show (if gO = g2 then 1 else if gO = g3 then 2 else if gO = g4 then 3 else if gO = gO then 6 else if gO = gM then 7 else 0) = 6
   rw [if_neg (by omega),if_neg (by omega),if_neg (by omega),if_pos rfl]
  ·show (if gM = g2 then 1 else if gM = g3 then 2 else if gM = g4 then 3 else if gM = gO then 6 else if gM = gM then 7 else 0) = 7
   rw [if_neg (by omega),if_neg (by omega),if_neg (by omega),if_neg (by omega),if_pos rfl]
  ·refine S_blk (x:=⟨y1,y2⟩) Kg1.out (by omega) ?_ ?_ ?_ NE.out
   ·show (if g1 = g2 then 1 else if g1 = g3 then 2 else if g1 = g4 then 3 else if g1 = gO then 6 else if g1 = gM then 7 else 0) = 0
    rw [if_neg (by omega),if_neg (by omega),if_neg (by omega),if_neg (by omega),if_neg (by omega)]
   ·refine Kd.R_mono (Kd.R_lower Y0.out (by omega)) (fun k hk=>?_)
    have hk2:=hk.2.2.1
    show (if k = g2 then 1 else if k = g3 then 2 else if k = g4 then 3 else if k = gO then 6 else if k = gM then 7 else 0) = 0∧k≠g1
    rw [if_neg (by omega),if_neg (by omega),if_neg (by omega),if_neg (by omega),if_neg (by omega)]
    exact ⟨rfl,by omega⟩
   ·refine Kd.R_mono (Kd.R_lower Y1.out (by omega)) (fun k hk=>?_)
    have hk2:=hk.2.2.1
    show (if k = g2 then 1 else if k = g3 then 2 else if k = g4 then 3 else if k = gO then 6 else if k = gM then 7 else 0) = 0∧k≠g1
    rw [if_neg (by omega),if_neg (by omega),if_neg (by omega),if_neg (by omega),if_neg (by omega)]
    exact ⟨rfl,by omega⟩
  ·exact R_blk Kg2.out (by omega) (if_pos rfl)
  ·refine R_blk Kg3.out (by omega) ?_
   show (if g3 = g2 then 1 else if g3 = g3 then 2 else if g3 = g4 then 3 else if g3 = gO then 6 else if g3 = gM then 7 else 0) = 2
   rw [if_neg (by omega),if_pos rfl]
  ·refine R_blk Kg4.out (by omega) ?_
   show (if g4 = g2 then 1 else if g4 = g3 then 2 else if g4 = g4 then 3 else if g4 = gO then 6 else if g4 = gM then 7 else 0) = 3
   rw [if_neg (by omega),if_neg (by omega),if_pos rfl]
 clear Kg1 Kg2 Kg3 Kg4 KgM KgO Sg1 Sg2 Sg3 Sg4 SgM SgO Y0 Y1 NE BF GF GF2 Z5 ZB B3 BS H0 H1 G0 G1 HA hcf0 hcf1 hff0 hff1 HB5
 go_loopg [7] k (fun kq v7 w'=>∃ (x7:Int) (n:Nat) (col:Nat→Nat) (vL vW vF vB vT vS:Value) (s:Orb),v7 = .int .i64 x7∧Aside0 (loopO kq s x7 = some R)∧Aside0 (kq≤k)∧Aside0 (n = 0 ∨ n = 2)∧Aside0 (OrbH w.heap.size col w' gO gM n vL vW vF vB vT vS s)∧Aside0 (Below w.heap.size w w'))
 case atStart=>exact ⟨0,0,_,_,_,_,_,_,_,_,rfl,HL,⟨Nat.le_refl _⟩,⟨.inl rfl⟩,HH,HB⟩
 case round =>
  clear HL HH HB
  obtain ⟨x7,n,col,vL,vW,vF,vB,vT,vS,s,rfl,HA,HK,HN,HH,HB⟩:=hrel
  cases gk with
  | zero=>exact absurd HA.out (by simp [loopO])
  | succ k1 =>
   have H:=HA.out
   clear HA
   simp only [loopO] at H
   obtain ⟨AL,cL,eL⟩:=Kd.S_slice HH.out.hL
   subst eL
   have hco0:wr.cell? ⟨gO,0,none⟩ = some (.slice AL s.L.length cL):=(blk_cell HH.out.hO 0).trans rfl
   have hfo0:=blk_frozen HH.out.hO 0
   by_cases hq1:x7 < (s.L.length:Int)
   ·rw [if_pos hq1] at H
    have c1b:=decide_eq_true hq1
    obtain ⟨z,AZ,H⟩:=bi_ H
    have HR:=Aside0.mk H
    clear H
    obtain ⟨wo,hwo⟩:∃ wo:World,wo = wr:=⟨_,rfl⟩
    subst hwo
    go_wp2_with (first | ((with_reducible refine gate_dst (N:=37) rfl ?_);refine lit_event 37 #[.int .u8 84,.int .u8 83] 5 2 ?_;intro gl hg w12 hbox hb;have SL:=Aside0.mk (show wo.heap.size≤gl from Nat.le_of_eq hg.symm);have BL:=Aside0.mk hbox;have HH2:=Aside0.mk ((HH.out.recol (col':=fun k=>if k = gl then 8 else col k) (fun k hk=>if_neg (by have:=SL.out;omega))).below hb);replace HB:=b1_ hb;clear hb hbox hg))
    clear hco0 hfo0 c1b HH
    have SLG:=SL
    go_loopg [39] 2 (fun gi v39 w'=>∃ (jj n':Nat) (col':Nat→Nat) (vL vW vF vB vT vS:Value) (s':Orb),v39 = .int .i64 (jj:Int)∧Aside0 (jj≤2)∧Aside0 (2 - jj≤gi)∧Aside0 (innerO k1 x7 (([84,83]:List Int).drop jj) s' = some z)∧Aside0 ((jj = 0→n' = 0 ∨ n' = 2)∧(jj = 1→n' = 1 ∨ n' = 2)∧(jj = 2→n' = 2))∧Aside0 (col' gl = 8)∧Aside0 (w'.heap[gl]? = some (.cells #[.int .u8 84,.int .u8 83] 5 (0,0)))∧Aside0 (OrbH w.heap.size col' w' gO gM n' vL vW vF vB vT vS s')∧Aside0 (Below w.heap.size w w'))
    case atStart=>exact ⟨0,n,(fun k=>if k = gl then 8 else col k),_,_,_,_,_,_,s,rfl,⟨by omega⟩,⟨by omega⟩,AZ,⟨⟨fun _=>HN.out,fun e=>absurd e (by decide),fun e=>absurd e (by decide)⟩⟩,⟨if_pos rfl⟩,BL,HH2,HB⟩
    case round =>
     clear AZ HH2 HB BL SL HN
     obtain ⟨jj,n',col',vL',vW',vF',vB',vT',vS',s',rfl,HJ,HG,AZ,HN,HC,BL,HH,HB⟩:=hrel
     have hj:=HJ.out
     obtain ⟨AL',cL',eL'⟩:=Kd.S_slice HH.out.hL
     subst eL'
     have hcl0:wr.cell? ⟨gl,0,none⟩ = some (.int .u8 84):=(blk_cell BL.out 0).trans rfl
     have hcl1:wr.cell? ⟨gl,1,none⟩ = some (.int .u8 83):=(blk_cell BL.out 1).trans rfl
     have hfl0:=blk_frozen BL.out 0
     have hfl1:=blk_frozen BL.out 1
     have hco0:wr.cell? ⟨gO,0,none⟩ = some (.slice AL' s'.L.length cL'):=(blk_cell HH.out.hO 0).trans rfl
     have hfo0:=blk_frozen HH.out.hO 0
     rcases Nat.lt_or_ge jj 2 with hj2 | hj2
     ·have hq3:jj = 0 ∨ jj = 1:=by omega
      rcases hq3 with rfl | rfl
      ·skip
       have hn0:=Aside0.mk (HN.out.1 rfl)
       have H:=AZ.out
       clear AZ
       change innerO k1 x7 (84 :: [83]) s' = some z at H
       simp only [innerO] at H
       obtain ⟨zz,AS,H⟩:=bi_ H
       have HT:=Aside0.mk H
       have H:=AS.out
       clear AS
       unfold stpO at H
       have hi0:=cp_ H
       replace H:=ca_ H
       have hi1:=cp_ H
       replace H:=ca_ H
       obtain ⟨⟨x1,x2⟩,AX,H⟩:=bi_ H
       obtain ⟨⟨y1',y2',yb⟩,AY,H⟩:=bi_ H
       obtain ⟨j,AJ,H⟩:=bi_ H
       dsimp only at H AY AJ
       have HS:=Aside0.mk H
       clear H
       obtain ⟨adx,Ax0,cx0,Ax1,cx1,ex,hx0,hx1,hlx0,hix0,hlx1,hix1⟩:=at_T25 (Kd.S_reads' HH.out.hL).2.2 x7 hi0 hi1
       cases ex
       have X0:=Aside0.mk hix0;have X1:=Aside0.mk hix1;have LX0:=Aside0.mk hlx0;have LX1:=Aside0.mk hlx1
       clear hix0 hix1 hlx0 hlx1
       have ti0:=eq_true hi0
       have ti1:=eq_true hi1
       have td1:=decide_eq_true hi1
       go_upto_region 12 with (first | ((with_reducible refine gate_callee (f:=63) rfl ?_);refine gL_ (some 52) Try.func63 #[.agg #[.slice Ax0 (rd_T25 s'.L x7).f0.length cx0,.slice Ax1 (rd_T25 s'.L x7).f1.length cx1],.int .u8 84] rfl qa_ ?_;(with_reducible refine (Z10.calls k1 _ _ (rd_T25 s'.L x7).f0 _ _ (rd_T25 s'.L x7).f1 84 x1 x2 _ X0.out LX0.out X1.out LX1.out AX.out).mono ?_);rintro e w13 ⟨v0,v1,rfl,ho0,ho1,hb⟩;refine ⟨_,rfl,?_⟩;replace HH:=Aside0.mk (HH.out.below hb);replace BL:=bb_ BL hb;replace HB:=b1_ hb;clear hb;obtain ⟨Al0,cl0,el0⟩:=Kd.R_slice ho0;subst el0;obtain ⟨Al1,cl1,el1⟩:=Kd.R_slice ho1;subst el1;have LT0:=Aside0.mk (Kd.R_reads' ho0).2;have LT1:=Aside0.mk (Kd.R_reads' ho1).2;clear ho0 ho1) | ((with_reducible refine gate_callee (f:=28) rfl ?_);refine gL_ (some 53) Try.func28 #[.agg #[.slice Al0 x1.length cl0,.slice Al1 x2.length cl1]] rfl qa_ ?_;(with_reducible refine (Z55.calls k1 _ _ x1 _ _ x2 y1' y2' yb _ LT0.out.2 LT0.out.1 LT1.out.2 LT1.out.1 AY.out).mono ?_);rintro e w14 ⟨v0,v1,rfl,ho0,ho1,hb⟩;refine ⟨_,rfl,?_⟩;have ZC:=Aside0.mk (below_size hB_:w.heap.size≤w13.heap.size);have ZD:=Aside0.mk hb.size;have SL13:=Aside0.mk (Kd.S_below (Kd.S_mono (ok':=fun k_=>col' k_ = 0∧k_ < w13.heap.size) (Kd.S_bound HH.out.hL) (fun k_ hk_=>⟨hk_.1,hk_.2.2.1⟩)) hb);replace HH:=Aside0.mk ((HH.out.recol (col':=rcl w13.heap.size col' 0) (fun k hk=>rcl_old hk)).below hb);replace HC:=Aside0.mk ((rcl_old (blk_lt BL.out)).trans HC.out:rcl w13.heap.size col' 0 gl = 8);replace BL:=bb_ BL hb;replace HB:=b1_ hb;clear hb;obtain ⟨Ay0,cy0,ey0⟩:=Kd.R_slice ho0;subst ey0;obtain ⟨Ay1,cy1,ey1⟩:=Kd.R_slice ho1;subst ey1;have Y0:=Aside0.mk ho0;have Y1:=Aside0.mk ho1;clear ho0 ho1) | ((with_reducible refine gate_dst (N:=10) rfl ?_);refine bx_ 10 #[.slice none 0 0,.slice none 0 0] 25 ?_;intro gx hg w15 hbox hb;have GX:=Aside0.mk (show w14.heap.size≤gx from Nat.le_of_eq hg.symm);have BX:=Aside0.mk hbox;have B3:=Aside0.mk hb;clear hb hbox hg;obtain ⟨hcf0,hcf1,hff0,hff1⟩:=c2_ BX))
       obtain ⟨hbox,hkp,hB2⟩:=box_store (w0:=w14) BX.out (.slice Ay0 y1'.length cy0) (.slice Ay1 y2'.length cy1) B3.out GX.out
       generalize hw:((w15.setCell ⟨gx,0,none⟩ (.slice Ay0 y1'.length cy0)).setCell ⟨gx,1,none⟩ (.slice Ay1 y2'.length cy1)) = w16 at hbox hkp hB2 ⊢
       clear hw hcf0 hcf1 hff0 hff1 hcl0 hcl1 hfl0 hfl1 hco0 hfo0 hx0 hx1 X0 X1 LX0 LX1 LT0 LT1
       have NE:=Aside0.mk (show NeRow (.slice Ay0 y1'.length cy0) (.slice Ay1 y2'.length cy1) from fun k_ e1_ e2_=>(Y0.out.1 k_ e1_) e2_.symm)
       replace HH:=Aside0.mk (HH.out.below hB2)
       replace BL:=Aside0.mk (blk_below BL.out hB2)
       replace Y0:=Aside0.mk (Kd.R_below (Kd.R_bound Y0.out) hB2)
       replace Y1:=Aside0.mk (Kd.R_below (Kd.R_bound Y1.out) hB2)
       replace SL13:=Aside0.mk (Kd.S_below SL13.out hB2)
       replace HB:=Aside0.mk (below_step HB.out hB2)
       replace BX:=Aside0.mk (show w16.heap[gx]? = some (.cells #[.slice Ay0 y1'.length cy0,.slice Ay1 y2'.length cy1] 25 (0,0)) from hbox)
       have ZE:=Aside0.mk hB2.size
       clear hbox hkp hB2 B3
       obtain ⟨hcx0,hcx1,hfx0,hfx1⟩:=c2_ BX
       have hLr:=(Kd.S_reads' HH.out.hL).2
       have RL:=Aside0.mk hLr
       clear hLr
       go_upto_region 13 with (first | ((with_reducible refine gate_callee (f:=72) rfl ?_);refine gL_ (some 58) Try.func72 #[.pointer (some ⟨gO,0,none⟩),.agg #[.slice Ay0 y1'.length cy0,.slice Ay1 y2'.length cy1]] rfl qa_ ?_;(with_reducible refine (index_calls k1 gO _ _ s'.L _ _ _ _ _ _ y1' _ _ y2' j _ RL.out.2 RL.out.1 (Kd.R_reads' Y0.out).2.2 (Kd.R_reads' Y0.out).2.1 (Kd.R_reads' Y1.out).2.2 (Kd.R_reads' Y1.out).2.1 HH.out.hO AJ.out).mono ?_);rintro e w17 ⟨rfl,hb⟩;refine ⟨_,rfl,?_⟩;have ZF:=Aside0.mk hb.size;replace HH:=Aside0.mk (HH.out.below hb);replace BL:=bb_ BL hb;replace BX:=bb_ BX hb;replace Y0:=Aside0.mk (Kd.R_below Y0.out hb);replace Y1:=Aside0.mk (Kd.R_below Y1.out hb);replace SL13:=Aside0.mk (Kd.S_below SL13.out hb);replace HB:=b1_ hb;clear hb))
       clear hcx0 hcx1 hfx0 hfx1 RL
       have ZW:=Aside0.mk (show w13.heap.size≤w17.heap.size from Nat.le_trans ZD.out (Nat.le_trans ZE.out ZF.out))
       clear ZD ZE ZF
       by_cases hj0:j < 0
       ·have H:=HS.out
        clear HS
        rw [if_pos hj0] at H
        have hjb:=decide_eq_true hj0
        have hco0:w17.cell? ⟨gO,0,none⟩ = some (.slice (some adx) s'.L.length cL'):=(blk_cell HH.out.hO 0).trans rfl
        have hfo0:=blk_frozen HH.out.hO 0
        by_cases hq5:(s'.L.length:Int) = 120
        ·rw [if_pos hq5] at H
         obtain rfl:=Option.some.inj H
         clear H
         have hzn:z = none:=(Option.some.inj HT.out).symm
         subst hzn
         have hRn:R = none:=(Option.some.inj HR.out).symm
         subst hRn
         have e5b:((s'.L.length:Int) == 120) = true:=beq_iff_eq.mpr hq5
         clear hq5
         go_wp2
         go_ret2
         exact ⟨qb_,hB_⟩
        ·rw [if_neg hq5] at H
         have e5b:((s'.L.length:Int) == 120) = false:=beq_eq_false_iff_ne.mpr hq5
         clear hq5
         have hlen:=cp_ H
         replace H:=ca_ H
         have hiW:=cp_ H
         replace H:=ca_ H
         have hsz:=cp_ H
         replace H:=Option.some.inj (ca_ H)
         subst H
         rw [if_pos rfl,if_pos rfl] at HT
         have LN:=Aside0.mk hlen
         have LS:=Aside0.mk hsz
         clear hlen hsz
         go_upto_region 17 with (fail)
         clear hco0 hfo0 e5b
         replace HH:=Aside0.mk (HH.out.below (below_drew1 (Below.refl _ _)))
         replace BL:=Aside0.mk (blk_drew BL.out)
         replace BX:=Aside0.mk (blk_drew BX.out)
         replace HB:=Aside0.mk (below_drew1 HB.out)
         replace Y0:=Aside0.mk (Kd.R_bound (Kd.R_drew Y0.out))
         replace Y1:=Aside0.mk (Kd.R_bound (Kd.R_drew Y1.out))
         replace SL13:=Aside0.mk (Kd.S_drew SL13.out)
         replace ZW:=Aside0.mk (show w13.heap.size≤w17.drew.heap.size from ZW.out)
         refine start_ (n:=11) (S:=fun w'=>w'.cell? ⟨gO,0,none⟩ = some (.slice (some adx) s'.L.length cL')∧w'.cell? ⟨gx,0,none⟩ = some (.slice Ay0 y1'.length cy0)∧w'.cell? ⟨gx,1,none⟩ = some (.slice Ay1 y2'.length cy1)) (ds:=[7,10]) (bl_ 11 0) (by kernel_rfl) rfl (by kernel_rfl) ⟨(blk_cell HH.out.hO 0).trans rfl,(blk_cell BX.out 0).trans rfl,(blk_cell BX.out 1).trans rfl⟩ (fun hHeld=>?_)
         refine with_tabW orb_tab17 orb_bits17 (fun HT_ HW_=>?_)
         generalize w17.drew = wa at HH BL BX HB Y0 Y1 SL13 ZW hHeld ⊢
         refine pu_ 0 (some 68) (bl_ 11 1) HT_ ?_
         refine pu_ 1 (some 69) (bl_ 11 3) HT_ ?_
         refine pu_ 2 (some 70) (bl_ 11 7) HT_ ?_
         refine pu_ 3 (some 71) (bl_ 11 15) HT_ ?_
         refine ta_ 4 (some 72) (bl_ 11 31) HT_ HW_ hHeld ?_
         refine ta_ 5 (some 73) (bl_ 11 63) HT_ HW_ hHeld ?_
         refine on_ 6 (some 74) (bl_ 11 127) HT_ (fun K hK=>?_)
         refine value_ (w1:=?_) (v:=?_) (by rfl) rfl ?_ ?_
         rotate_left 2
         ·go_simp
          constructor
          ·rfl
          ·rfl
         refine hK.out _ _ ⟨((below_alloc (Below.refl _ _) _).cell (World.block_lt_of_cell? _ _ hHeld.1)).trans hHeld.1,((below_alloc (Below.refl _ _) _).cell (World.block_lt_of_cell? _ _ hHeld.2.1)).trans hHeld.2.1,((below_alloc (Below.refl _ _) _).cell (World.block_lt_of_cell? _ _ hHeld.2.2)).trans hHeld.2.2⟩ (fun hHeld=>?_)
         clear hK K
         refine no_ (some 74) ?_
         refine last_ (i:=7) (N:=some 75) (bl_ 11 255) rfl rfl (one_of HT_.out (by kernel_rfl)) (by decide) (fun K hK=>?_)
         refine Kd.S_append_step k25 (w0:=w) w.heap.size (by rfl) (.tmp 72) (.tmp 74) 36 25 (.agg #[(.slice none 0 0),(.slice none 0 0)]) 48 rfl Try.underlying36 info25 rfl (by decide) (by omega) (.slice (some adx) s'.L.length cL') s'.L (⟨y1',y2'⟩:S25) [.slice Ay0 y1'.length cy0,.slice Ay1 y2'.length cy1] (fun k_=>rcl wa.heap.size (rcl w13.heap.size col' 0) 0 k_ = 0) (fun k_=>w13.heap.size≤k_∧k_ < wa.heap.size) rfl rfl ?aP ?aQ (fun k_ hk=>rcl_new hk) ?aO HB.out HB.out.size (by have:=LN.out;omega) ?_
         case aP=>exact k25_mkM _ _ _ (⟨y1',y2'⟩:S25) (Kd.R_mono (Kd.R_lower Y0.out ZC.out) (fun k_ hk=>⟨hk.2.1,hk.2.2.1⟩)) (Kd.R_mono (Kd.R_lower Y1.out ZC.out) (fun k_ hk=>⟨hk.2.1,hk.2.2.1⟩)) NE.out
         case aQ=>exact fun k_ hk=>⟨(rcl_old hk.2).trans (rcl_new hk.1),fun e=>by have:=((Kd.S_R SL13.out).1 k_ e.symm).2;have:=hk.1;omega⟩
         case aO=>exact Kd.S_mono SL13.out (fun k_ hk=>⟨(rcl_old (Nat.lt_of_lt_of_le hk.2 ZW.out)).trans ((rcl_old hk.2).trans hk.1),fun h_=>by have:=hk.2;have:=h_.1;omega⟩)
         intro v1 wb ho hb hg hat
         obtain ⟨An1,cn1,en1⟩:=Kd.S_slice ho
         subst en1
         have HO19:=(B_gr HH.out.hO HH.out.cO hg (Kd.S_R HH.out.hL).1 (by decide)).1
         have HC3:=Aside0.mk (B_gr BL.out HC.out hg (Kd.S_R HH.out.hL).1 (by decide))
         have HP:=HH.out.putL hg ho
         have HB2:=Aside0.mk hb
         refine hK.out _ _ ?_
         clear hK K ho hb hg hat SL13 Y0 Y1 BX NE GX
         refine no_ (some 75) ?_
         refine pu_ 8 (some 76) (bl_ 11 511) HT_ ?_
         refine pu_ 9 (some 77) (bl_ 11 1023) HT_ ?_
         refine last_ (i:=10) (N:=none) (bl_ 11 2047) rfl rfl (one_of HT_.out (by kernel_rfl)) (by decide) (fun K hK=>?_)
         have hs19:wb.cell? ⟨gO,0,none⟩ = some (.slice (some adx) s'.L.length cL'):=(blk_cell HO19 0).trans rfl
         have hf19:=blk_frozen HO19 0
         refine skip_ (w1:=wb.setCell ⟨gO,0,none⟩ (.slice An1 (s'.L ++ [(⟨y1',y2'⟩:S25)]).length cn1)) (by rfl) rfl ?_ ?_
         ·go_simp
         refine hK.out _ _ ?_
         clear hK K hs19 hf19
         refine done_ (done_of HT_.out (by kernel_rfl)) ?_
         have hne_:gl≠gO:=fun e=>by have a1:=HC3.out.2;have a2:=HP.cO;rw [e] at a1;omega
         have HB3:=Aside0.mk (below_set (g:=gO) (j:=0) (v:=(.slice An1 (s'.L ++ [(⟨y1',y2'⟩:S25)]).length cn1)) HB2.out HP.bO)
         have BL2:=Aside0.mk (put_far HC3.out.1 hne_ 0 (.slice An1 (s'.L ++ [(⟨y1',y2'⟩:S25)]).length cn1))
         have HCN:=HC3.out.2
         clear HH BL HB HC HC3 HB2 HO19
         generalize hwc:wb.setCell ⟨gO,0,none⟩ (.slice An1 (s'.L ++ [(⟨y1',y2'⟩:S25)]).length cn1) = wc at HP HB3 BL2 ⊢
         clear hwc
         obtain ⟨colwc,hh_,hc_⟩:∃ c_,OrbH w.heap.size c_ wc gO gM n' _ _ _ _ _ _ _∧c_ gl = 8:=⟨_,HP,HCN⟩
         have HH:=Aside0.mk hh_;have HC:=Aside0.mk hc_;have BL:=BL2;have HB:=HB3
         clear hh_ hc_ BL2 HB3 HP HCN hne_
         obtain ⟨AW,cW,eW⟩:=Kd.R_slice HH.out.hW
         subst eW
         go_upto_region 18 with (fail)
         replace HH:=Aside0.mk (HH.out.below (below_drew1 (Below.refl _ _)))
         replace BL:=Aside0.mk (blk_drew BL.out)
         replace HB:=Aside0.mk (below_drew1 HB.out)
         obtain ⟨adw,ew,hxw⟩:=Kd.at_string (Kd.R_reads' HH.out.hW).2.2 x7 hi0 hiW
         cases ew
         have tw1:=eq_true hiW
         have tw2:=decide_eq_true hiW
         refine start_ (n:=21) (S:=fun w'=>w'.cell? ⟨gO,1,none⟩ = some (.slice (some adw) s'.W.length cW)∧w'.cell? (adw.add (x7).toNat) = some (.string (rdOf ByteArray.empty s'.W x7))) (ds:=[17,20]) (bl_ 21 0) (by kernel_rfl) rfl (by kernel_rfl) ⟨(blk_cell HH.out.hO 1).trans rfl,hxw⟩ (fun hHeld=>?_)
         refine with_tabW orb_tab18 orb_bits18 (fun HT_ HW_=>?_)
         clear hxw
         generalize wc.drew = wd at HH BL HB hHeld ⊢
         refine pu_ 0 (some 78) (bl_ 21 1) HT_ ?_
         refine pu_ 1 (some 79) (bl_ 21 3) HT_ ?_
         refine pu_ 2 (some 80) (bl_ 21 7) HT_ ?_
         refine pu_ 3 (some 81) (bl_ 21 15) HT_ ?_
         refine ta_ 4 (some 82) (bl_ 21 31) HT_ HW_ hHeld ?_
         refine pu_ 5 (some 83) (bl_ 21 63) HT_ ?_
         refine pu_ 6 (some 84) (bl_ 21 127) HT_ ?_
         refine pu_ 7 (some 85) (bl_ 21 255) HT_ ?_
         refine ta_ 8 (some 86) (bl_ 21 511) HT_ HW_ hHeld ?_
         refine pu_ 9 (some 87) (bl_ 21 1023) HT_ ?_
         refine pu_ 10 (some 88) (bl_ 21 2047) HT_ ?_
         refine ta_ 11 (some 89) (bl_ 21 4095) HT_ HW_ hHeld ?_
         refine pu_ 12 (some 90) (bl_ 21 8191) HT_ ?_
         refine on_ 13 (some 91) (bl_ 21 16383) HT_ (fun K hK=>?_)
         refine Kd.R_lit_step (Kd.int .u8) _ 5 ?hg (N:=91) ?hd (xs:=([84]:List Int)) (inner:=[.int .u8 84]) (ok:=fun _=>True) (okp:=fun _=>True) ?hr ?hp (fun _ hk=>hk) trivial (Below.refl _ _) (Nat.le_refl _) (by simp) ?_;(case hd=>rfl);(case hg=>rfl);(case hr=>first | (go_simp;done) | (go_simp;rfl));(case hp=>exact (Reps.one (show Kd.M (Kd.int .u8) _ _ _ 84 [.int .u8 84] from rfl) (Reps.none _ _)))
         intro vq we hoq hb hg_ hnew_
         have hS1_:=(hb.cell (World.block_lt_of_cell? _ _ hHeld.1)).trans hHeld.1
         have hS2_:=(hb.cell (World.block_lt_of_cell? _ _ hHeld.2)).trans hHeld.2
         replace HH:=Aside0.mk (HH.out.below hb)
         replace BL:=bb_ BL hb
         replace HB:=b1_ hb
         have HOq:=Aside0.mk hoq
         clear hg_ hnew_ hb hoq
         refine hK.out _ _ ⟨hS1_,hS2_⟩ (fun hHeld=>?_)
         clear hK K hS1_ hS2_
         refine no_ (some 91) ?_
         refine on_ 14 (some 92) (bl_ 21 32767) HT_ (fun K hK=>?_)
         have hcv47:=own_string (P:=Try.prog) Try.underlying22 Try.underlying5 Try.underlying9 (Kd.own_of_R HOq.out)
         refine value_ (w1:=?_) (v:=?_) (by rfl) rfl ?_ ?_
         rotate_left 2
         ·go_simp
          constructor
          ·rfl
          ·rfl
         clear hcv47 HOq
         refine hK.out _ _ hHeld (fun hHeld=>?_)
         clear hK K
         refine no_ (some 92) ?_
         have hs1_:(strOfNums [(84:Int)]).size = 1:=by decide +kernel
         have tw3:(9223372036854775807 < (rdOf ByteArray.empty s'.W x7).size + (strOfNums [(84:Int)]).size) = False:=eq_false (by rw [hs1_];have:=LS.out;omega)
         clear hs1_
         refine pu_ 15 (some 93) (bl_ 21 65535) HT_ ?_
         clear tw3
         refine on_ 16 (some 94) (bl_ 21 131071) HT_ (fun K hK=>?_)
         refine value_ (w1:=?_) (v:=?_) (by rfl) rfl ?_ ?_
         rotate_left 2
         ·go_simp
          constructor
          ·rfl
          ·rfl
         refine hK.out _ _ ⟨((below_alloc (Below.refl _ _) _).cell (World.block_lt_of_cell? _ _ hHeld.1)).trans hHeld.1,((below_alloc (Below.refl _ _) _).cell (World.block_lt_of_cell? _ _ hHeld.2)).trans hHeld.2⟩ (fun hHeld=>?_)
         clear hK K
         refine no_ (some 94) ?_
         refine last_ (i:=17) (N:=some 95) (bl_ 21 262143) rfl rfl (one_of HT_.out (by kernel_rfl)) (by decide) (fun K hK=>?_)
         refine Kd.R_append_step Kd.string (w0:=w) w.heap.size (by rfl) (.tmp 82) (.tmp 94) 53 9 (.string ⟨#[]⟩) 16 rfl Try.underlying53 info9 rfl (by decide) (by omega) (.slice (some adw) s'.W.length cW) s'.W ((rdOf ByteArray.empty s'.W x7) ++ (strOfNums [84])) [.string ((rdOf ByteArray.empty s'.W x7) ++ (strOfNums [84]))] (fun k_=>rcl we.heap.size colwc 1 k_ = 1) (fun _=>False) rfl rfl rfl (fun _ hk=>hk.elim) (fun k_ hk=>rcl_new hk) (R_col HH.out.hW (fun k_ hk=>rcl_old hk)) HB.out HB.out.size (by have:=LN.out;omega) ?_
         intro v2 wf ho hb hg hat
         obtain ⟨An2,cn2,en2⟩:=Kd.R_slice ho
         subst en2
         have HO19:=(B_gr HH.out.hO HH.out.cO hg HH.out.hW.1 (by decide)).1
         have HC3:=Aside0.mk (B_gr BL.out HC.out hg HH.out.hW.1 (by decide))
         have HP:=HH.out.putW hg ho
         have HB2:=Aside0.mk hb
         refine hK.out _ _ ?_
         clear hK K ho hb hg hat
         refine no_ (some 95) ?_
         refine pu_ 18 (some 96) (bl_ 21 524287) HT_ ?_
         refine pu_ 19 (some 97) (bl_ 21 1048575) HT_ ?_
         refine last_ (i:=20) (N:=none) (bl_ 21 2097151) rfl rfl (one_of HT_.out (by kernel_rfl)) (by decide) (fun K hK=>?_)
         have hs19:wf.cell? ⟨gO,1,none⟩ = some (.slice (some adw) s'.W.length cW):=(blk_cell HO19 1).trans rfl
         have hf19:=blk_frozen HO19 1
         refine skip_ (w1:=wf.setCell ⟨gO,1,none⟩ (.slice An2 (s'.W ++ [(rdOf ByteArray.empty s'.W x7) ++ (strOfNums [84])]).length cn2)) (by rfl) rfl ?_ ?_
         ·go_simp
         refine hK.out _ _ ?_
         clear hK K hs19 hf19
         refine done_ (done_of HT_.out (by kernel_rfl)) ?_
         have hne_:gl≠gO:=fun e=>by have a1:=HC3.out.2;have a2:=HP.cO;rw [e] at a1;omega
         have HB3:=Aside0.mk (below_set (g:=gO) (j:=1) (v:=(.slice An2 (s'.W ++ [(rdOf ByteArray.empty s'.W x7) ++ (strOfNums [84])]).length cn2)) HB2.out HP.bO)
         have BL2:=Aside0.mk (put_far HC3.out.1 hne_ 1 (.slice An2 (s'.W ++ [(rdOf ByteArray.empty s'.W x7) ++ (strOfNums [84])]).length cn2))
         have HCN:=HC3.out.2
         clear HH BL HB HC HC3 HB2 HO19
         generalize hwc:wf.setCell ⟨gO,1,none⟩ (.slice An2 (s'.W ++ [(rdOf ByteArray.empty s'.W x7) ++ (strOfNums [84])]).length cn2) = wg at HP HB3 BL2 ⊢
         clear hwc
         obtain ⟨colwg,hh_,hc_⟩:∃ c_,OrbH w.heap.size c_ wg gO gM n' _ _ _ _ _ _ _∧c_ gl = 8:=⟨_,HP,HCN⟩
         have HH:=Aside0.mk hh_;have HC:=Aside0.mk hc_;have BL:=BL2;have HB:=HB3
         clear hh_ hc_ BL2 HB3 HP HCN hne_
         obtain ⟨AF,cF,eF⟩:=Kd.R_slice HH.out.hF
         subst eF
         go_upto_region 19 with (fail)
         have hco_:wg.cell? ⟨gO,2,none⟩ = some (.slice AF s'.F.length cF):=(blk_cell HH.out.hO 2).trans rfl
         have hfo_:=blk_frozen HH.out.hO 2
         go_upto_region 20 with (first | ((with_reducible refine gate_builtin (b:=.append) (xs:=#[.tmp 102,.tmp 104]) rfl ?_);at_builtin;refine Kd.R_append (Kd.int .i64) (w0:=w) w.heap.size rfl (.tmp 102) (.tmp 104) 23 3 (.int .i64 0) 8 rfl Try.underlying23 info3 rfl (by decide) (by omega) (.slice AF s'.F.length cF) s'.F (x7) [.int .i64 (x7)] (fun k_=>rcl wg.heap.size colwg 2 k_ = 2) (fun _=>False) rfl rfl rfl (fun _ hk=>hk.elim) (fun k_ hk=>rcl_new hk) (R_col HH.out.hF (fun k_ hk=>rcl_old hk)) HB.out HB.out.size (by have:=LN.out;omega) ?_;intro v3 wh ho hb hg hat;obtain ⟨Anv3,cnv3,env3⟩:=Kd.R_slice ho;subst env3;rw [List.length_append,List.length_singleton] at ho;have HO19:=(B_gr HH.out.hO HH.out.cO hg HH.out.hF.1 (by decide)).1;have HC3:=Aside0.mk (B_gr BL.out HC.out hg HH.out.hF.1 (by decide));have HP:=HH.out.putF hg ho;have HB2:=Aside0.mk hb;clear ho hb hg hat hco_ hfo_;have hs19:wh.cell? ⟨gO,2,none⟩ = some (.slice AF s'.F.length cF):=(blk_cell HO19 2).trans rfl;have hf19:=blk_frozen HO19 2))
         clear hs19 hf19
         have hne_:gl≠gO:=fun e=>by have a1:=HC3.out.2;have a2:=HP.cO;rw [e] at a1;omega
         have HB3:=Aside0.mk (below_set (g:=gO) (j:=2) (v:=(.slice Anv3 (s'.F.length + 1) cnv3)) HB2.out HP.bO)
         have BL2:=Aside0.mk (put_far HC3.out.1 hne_ 2 (.slice Anv3 (s'.F.length + 1) cnv3))
         have HCN:=HC3.out.2
         clear HH BL HB HC HC3 HB2 HO19
         generalize hwc:wh.setCell ⟨gO,2,none⟩ (.slice Anv3 (s'.F.length + 1) cnv3) = wi at HP HB3 BL2 ⊢
         clear hwc
         obtain ⟨colwi,hh_,hc_⟩:∃ c_,OrbH w.heap.size c_ wi gO gM n' _ _ _ _ _ _ _∧c_ gl = 8:=⟨_,HP,HCN⟩
         have HH:=Aside0.mk hh_;have HC:=Aside0.mk hc_;have BL:=BL2;have HB:=HB3
         clear hh_ hc_ BL2 HB3 HP HCN hne_
         obtain ⟨AB,cB,eB⟩:=Kd.R_slice HH.out.hB
         subst eB
         have hco_:wi.cell? ⟨gO,3,none⟩ = some (.slice AB s'.B.length cB):=(blk_cell HH.out.hO 3).trans rfl
         have hfo_:=blk_frozen HH.out.hO 3
         go_upto_region 21 with (first | ((with_reducible refine gate_builtin (b:=.append) (xs:=#[.tmp 112,.tmp 114]) rfl ?_);at_builtin;refine Kd.R_append (Kd.int .u8) (w0:=w) w.heap.size rfl (.tmp 112) (.tmp 114) 22 5 (.int .u8 0) 1 rfl Try.underlying22 info5 rfl (by decide) (by omega) (.slice AB s'.B.length cB) s'.B (84) [.int .u8 (84)] (fun k_=>rcl wi.heap.size colwi 3 k_ = 3) (fun _=>False) rfl rfl rfl (fun _ hk=>hk.elim) (fun k_ hk=>rcl_new hk) (R_col HH.out.hB (fun k_ hk=>rcl_old hk)) HB.out HB.out.size (by have:=LN.out;omega) ?_;intro v4 wj ho hb hg hat;obtain ⟨Anv4,cnv4,env4⟩:=Kd.R_slice ho;subst env4;rw [List.length_append,List.length_singleton] at ho;have HO19:=(B_gr HH.out.hO HH.out.cO hg HH.out.hB.1 (by decide)).1;have HC3:=Aside0.mk (B_gr BL.out HC.out hg HH.out.hB.1 (by decide));have HP:=HH.out.putB hg ho;have HB2:=Aside0.mk hb;clear ho hb hg hat hco_ hfo_;have hs19:wj.cell? ⟨gO,3,none⟩ = some (.slice AB s'.B.length cB):=(blk_cell HO19 3).trans rfl;have hf19:=blk_frozen HO19 3))
         clear hs19 hf19
         have hne_:gl≠gO:=fun e=>by have a1:=HC3.out.2;have a2:=HP.cO;rw [e] at a1;omega
         have HB3:=Aside0.mk (below_set (g:=gO) (j:=3) (v:=(.slice Anv4 (s'.B.length + 1) cnv4)) HB2.out HP.bO)
         have BL2:=Aside0.mk (put_far HC3.out.1 hne_ 3 (.slice Anv4 (s'.B.length + 1) cnv4))
         have HCN:=HC3.out.2
         clear HH BL HB HC HC3 HB2 HO19
         generalize hwc:wj.setCell ⟨gO,3,none⟩ (.slice Anv4 (s'.B.length + 1) cnv4) = wk at HP HB3 BL2 ⊢
         clear hwc
         obtain ⟨colwk,hh_,hc_⟩:∃ c_,OrbH w.heap.size c_ wk gO gM n' _ _ _ _ _ _ _∧c_ gl = 8:=⟨_,HP,HCN⟩
         have HH:=Aside0.mk hh_;have HC:=Aside0.mk hc_;have BL:=BL2;have HB:=HB3
         clear hh_ hc_ BL2 HB3 HP HCN hne_
         generalize hcc:colwk = colc at HH HC
         clear hcc
         go_upto_region 21 with (fail)
         replace HH:=Aside0.mk (HH.out.below (below_drew1 (Below.refl _ _)))
         replace BL:=Aside0.mk (blk_drew BL.out)
         replace HB:=Aside0.mk (below_drew1 HB.out)
         refine start_ (n:=15) (S:=fun w'=>w'.cell? ⟨gO,4,none⟩ = some (.map (some gM))∧w'.heap[gM]? = some (mapO n' vT' vS')) (ds:=[14]) (bl_ 15 0) (by kernel_rfl) rfl (by kernel_rfl) ⟨(blk_cell HH.out.hO 4).trans rfl,HH.out.hM⟩ (fun hHeld=>?_)
         refine with_tabW orb_tab21 orb_bits21 (fun HT_ HW_=>?_)
         generalize wk.drew = wl at HH BL HB hHeld ⊢
         refine pu_ 0 (some 118) (bl_ 15 1) HT_ ?_
         refine pu_ 1 (some 119) (bl_ 15 3) HT_ ?_
         refine pu_ 2 (some 120) (bl_ 15 7) HT_ ?_
         refine ta_ 3 (some 121) (bl_ 15 15) HT_ HW_ hHeld ?_
         refine pu_ 4 (some 122) (bl_ 15 31) HT_ ?_
         refine pu_ 5 (some 123) (bl_ 15 63) HT_ ?_
         refine pu_ 6 (some 124) (bl_ 15 127) HT_ ?_
         refine pu_ 7 (some 125) (bl_ 15 255) HT_ ?_
         refine ta_ 8 (some 126) (bl_ 15 511) HT_ HW_ hHeld ?_
         refine pu_ 9 (some 127) (bl_ 15 1023) HT_ ?_
         have hlk:∀ w',w'.heap[gM]? = some (mapO n' vT' vS')→(Instr.lookup 67 (.map (some gM)) (.int .u8 84) false).run Try.prog w' = .ok vT' w':=fun w' h_=>by
          have hn:=hn0.out
          have:=look_T h_ (by omega)
          rw [HH.out.look.1] at this
          exact this
         refine ta_ 10 (some 128) (v:=vT') (bl_ 15 2047) HT_ HW_ hHeld ?_ (hy:=Or.inl ⟨by rfl,fun w' hs_=>?_⟩)
         rotate_left
         ·have hq:=hlk w' hs_.2
          go_simp
         clear hlk
         refine pu_ 11 (some 129) (bl_ 15 4095) HT_ ?_
         refine on_ 12 (some 130) (bl_ 15 8191) HT_ (fun K hK=>?_)
         refine value_ (w1:=?_) (v:=?_) (by rfl) rfl ?_ ?_
         rotate_left 2
         ·go_simp
          constructor
          ·rfl
          ·rfl
         refine hK.out _ _ ⟨((below_alloc (Below.refl _ _) _).cell (World.block_lt_of_cell? _ _ hHeld.1)).trans hHeld.1,blk_alloc hHeld.2 _⟩ (fun hHeld=>?_)
         clear hK K
         refine no_ (some 130) ?_
         refine on_ 13 (some 131) (bl_ 15 16383) HT_ (fun K hK=>?_)
         refine Kd.R_append_step (Kd.int .i64) (w0:=w) w.heap.size (by rfl) (.tmp 128) (.tmp 130) 23 3 (.int .i64 0) 8 rfl Try.underlying23 info3 rfl (by decide) (by omega) vT' s'.T ((s'.L.length:Int)) [.int .i64 ((s'.L.length:Int))] (fun k_=>rcl wl.heap.size colc 4 k_ = 4) (fun _=>False) rfl rfl rfl (fun _ hk=>hk.elim) (fun k_ hk=>rcl_new hk) (R_col HH.out.hT (fun k_ hk=>rcl_old hk)) HB.out HB.out.size (by have:=LN.out;omega) ?_
         intro v1 wlb ho hb hg hat
         have HP:=HH.out.putT hg ho
         have HM:=Aside0.mk HP.1
         have HO19:=(B_gr HH.out.hO HH.out.cO hg HH.out.hT.1 (by decide)).1
         have HC3:=Aside0.mk (B_gr BL.out HC.out hg HH.out.hT.1 (by decide))
         replace HH:=Aside0.mk HP.2
         clear HP
         have HB2:=Aside0.mk hb
         refine hK.out _ _ ⟨(blk_cell HO19 4).trans rfl,HM.out⟩ (fun hHeld=>?_)
         clear hK K ho hb hg hat HO19
         refine no_ (some 131) ?_
         refine last_ (i:=14) (N:=none) (bl_ 15 32767) rfl rfl (one_of HT_.out (by kernel_rfl)) (by decide) (fun K hK=>?_)
         have hput:(Instr.mapUpdate 67 (.map (some gM)) (.int .u8 84) v1).run Try.prog wlb = .ok () (setMap wlb gM (max n' 1) v1 vS'):=put_T HM.out hn0.out v1
         refine skip_ (w1:=setMap wlb gM (max n' 1) v1 vS') (by rfl) rfl ?_ ?_
         ·go_simp
         refine hK.out _ _ ?_
         clear hK K hput
         refine done_ (done_of HT_.out (by kernel_rfl)) ?_
         try go_wp2
         have hgm:gl≠gM:=fun e=>by have a1:=HC3.out.2;have a2:=HH.out.cM;rw [e] at a1;omega
         have BL2:=Aside0.mk ((setMap_far (n:=max n' 1) v1 vS' hgm).trans HC3.out.1)
         have HB3:=Aside0.mk (setMap_below (n:=max n' 1) v1 vS' HB2.out HH.out.bM)
         go_roundg 1
         case measure=>have:=HG.out;omega
         case rel=>exact ⟨1,max n' 1,_,_,_,_,_,_,_,_,(by first | rfl | (simp;done) | (simp [*];done)),⟨by omega⟩,⟨by omega⟩,HT,⟨⟨fun e=>absurd e (by decide),fun _=>by have:=hn0.out;omega,fun e=>absurd e (by decide)⟩⟩,⟨HC3.out.2⟩,BL2,HH,HB3⟩
       ·have H:=HS.out
        clear HS
        rw [if_neg hj0] at H
        have hjb:=decide_eq_false hj0
        have hlen:=cp_ H
        replace H:=Option.some.inj (ca_ H)
        subst H
        rw [if_pos rfl,if_pos rfl] at HT
        have LN:=Aside0.mk hlen
        clear hlen SL13 Y0 Y1 BX NE GX
        generalize hcc:rcl w13.heap.size col' 0 = colc at HH HC
        clear hcc
        go_upto_region 21 with (fail)
        replace HH:=Aside0.mk (HH.out.below (below_drew1 (Below.refl _ _)))
        replace BL:=Aside0.mk (blk_drew BL.out)
        replace HB:=Aside0.mk (below_drew1 HB.out)
        refine start_ (n:=15) (S:=fun w'=>w'.cell? ⟨gO,4,none⟩ = some (.map (some gM))∧w'.heap[gM]? = some (mapO n' vT' vS')) (ds:=[14]) (bl_ 15 0) (by kernel_rfl) rfl (by kernel_rfl) ⟨(blk_cell HH.out.hO 4).trans rfl,HH.out.hM⟩ (fun hHeld=>?_)
        refine with_tabW orb_tab21 orb_bits21 (fun HT_ HW_=>?_)
        generalize w17.drew = w18 at HH BL HB hHeld ⊢
        refine pu_ 0 (some 118) (bl_ 15 1) HT_ ?_
        refine pu_ 1 (some 119) (bl_ 15 3) HT_ ?_
        refine pu_ 2 (some 120) (bl_ 15 7) HT_ ?_
        refine ta_ 3 (some 121) (bl_ 15 15) HT_ HW_ hHeld ?_
        refine pu_ 4 (some 122) (bl_ 15 31) HT_ ?_
        refine pu_ 5 (some 123) (bl_ 15 63) HT_ ?_
        refine pu_ 6 (some 124) (bl_ 15 127) HT_ ?_
        refine pu_ 7 (some 125) (bl_ 15 255) HT_ ?_
        refine ta_ 8 (some 126) (bl_ 15 511) HT_ HW_ hHeld ?_
        refine pu_ 9 (some 127) (bl_ 15 1023) HT_ ?_
        have hlk:∀ w',w'.heap[gM]? = some (mapO n' vT' vS')→(Instr.lookup 67 (.map (some gM)) (.int .u8 84) false).run Try.prog w' = .ok vT' w':=fun w' h_=>by
         have hn:=hn0.out
         have:=look_T h_ (by omega)
         rw [HH.out.look.1] at this
         exact this
        refine ta_ 10 (some 128) (v:=vT') (bl_ 15 2047) HT_ HW_ hHeld ?_ (hy:=Or.inl ⟨by rfl,fun w' hs_=>?_⟩)
        rotate_left
        ·have hq:=hlk w' hs_.2
         go_simp
        clear hlk
        refine pu_ 11 (some 129) (bl_ 15 4095) HT_ ?_
        refine on_ 12 (some 130) (bl_ 15 8191) HT_ (fun K hK=>?_)
        refine value_ (w1:=?_) (v:=?_) (by rfl) rfl ?_ ?_
        rotate_left 2
        ·go_simp
         constructor
         ·rfl
         ·rfl
        refine hK.out _ _ ⟨((below_alloc (Below.refl _ _) _).cell (World.block_lt_of_cell? _ _ hHeld.1)).trans hHeld.1,blk_alloc hHeld.2 _⟩ (fun hHeld=>?_)
        clear hK K
        refine no_ (some 130) ?_
        refine on_ 13 (some 131) (bl_ 15 16383) HT_ (fun K hK=>?_)
        refine Kd.R_append_step (Kd.int .i64) (w0:=w) w.heap.size (by rfl) (.tmp 128) (.tmp 130) 23 3 (.int .i64 0) 8 rfl Try.underlying23 info3 rfl (by decide) (by omega) vT' s'.T (j) [.int .i64 (j)] (fun k_=>rcl w18.heap.size colc 4 k_ = 4) (fun _=>False) rfl rfl rfl (fun _ hk=>hk.elim) (fun k_ hk=>rcl_new hk) (R_col HH.out.hT (fun k_ hk=>rcl_old hk)) HB.out HB.out.size (by have:=LN.out;omega) ?_
        intro v1 w18b ho hb hg hat
        have HP:=HH.out.putT hg ho
        have HM:=Aside0.mk HP.1
        have HO19:=(B_gr HH.out.hO HH.out.cO hg HH.out.hT.1 (by decide)).1
        have HC3:=Aside0.mk (B_gr BL.out HC.out hg HH.out.hT.1 (by decide))
        replace HH:=Aside0.mk HP.2
        clear HP
        have HB2:=Aside0.mk hb
        refine hK.out _ _ ⟨(blk_cell HO19 4).trans rfl,HM.out⟩ (fun hHeld=>?_)
        clear hK K ho hb hg hat HO19
        refine no_ (some 131) ?_
        refine last_ (i:=14) (N:=none) (bl_ 15 32767) rfl rfl (one_of HT_.out (by kernel_rfl)) (by decide) (fun K hK=>?_)
        have hput:(Instr.mapUpdate 67 (.map (some gM)) (.int .u8 84) v1).run Try.prog w18b = .ok () (setMap w18b gM (max n' 1) v1 vS'):=put_T HM.out hn0.out v1
        refine skip_ (w1:=setMap w18b gM (max n' 1) v1 vS') (by rfl) rfl ?_ ?_
        ·go_simp
        refine hK.out _ _ ?_
        clear hK K hput
        refine done_ (done_of HT_.out (by kernel_rfl)) ?_
        try go_wp2
        have hgm:gl≠gM:=fun e=>by have a1:=HC3.out.2;have a2:=HH.out.cM;rw [e] at a1;omega
        have BL2:=Aside0.mk ((setMap_far (n:=max n' 1) v1 vS' hgm).trans HC3.out.1)
        have HB3:=Aside0.mk (setMap_below (n:=max n' 1) v1 vS' HB2.out HH.out.bM)
        go_roundg 1
        case measure=>have:=HG.out;omega
        case rel=>exact ⟨1,max n' 1,_,_,_,_,_,_,_,_,(by first | rfl | (simp;done) | (simp [*];done)),⟨by omega⟩,⟨by omega⟩,HT,⟨⟨fun e=>absurd e (by decide),fun _=>by have:=hn0.out;omega,fun e=>absurd e (by decide)⟩⟩,⟨HC3.out.2⟩,BL2,HH,HB3⟩
      ·skip
       have hn0:=Aside0.mk (HN.out.2.1 rfl)
       have H:=AZ.out
       clear AZ
       change innerO k1 x7 (83 :: []) s' = some z at H
       simp only [innerO] at H
       obtain ⟨zz,AS,H⟩:=bi_ H
       have HT:=Aside0.mk H
       have H:=AS.out
       clear AS
       unfold stpO at H
       have hi0:=cp_ H
       replace H:=ca_ H
       have hi1:=cp_ H
       replace H:=ca_ H
       obtain ⟨⟨x1,x2⟩,AX,H⟩:=bi_ H
       obtain ⟨⟨y1',y2',yb⟩,AY,H⟩:=bi_ H
       obtain ⟨j,AJ,H⟩:=bi_ H
       dsimp only at H AY AJ
       have HS:=Aside0.mk H
       clear H
       obtain ⟨adx,Ax0,cx0,Ax1,cx1,ex,hx0,hx1,hlx0,hix0,hlx1,hix1⟩:=at_T25 (Kd.S_reads' HH.out.hL).2.2 x7 hi0 hi1
       cases ex
       have X0:=Aside0.mk hix0;have X1:=Aside0.mk hix1;have LX0:=Aside0.mk hlx0;have LX1:=Aside0.mk hlx1
       clear hix0 hix1 hlx0 hlx1
       have ti0:=eq_true hi0
       have ti1:=eq_true hi1
       have td1:=decide_eq_true hi1
       go_upto_region 12 with (first | ((with_reducible refine gate_callee (f:=63) rfl ?_);refine gL_ (some 52) Try.func63 #[.agg #[.slice Ax0 (rd_T25 s'.L x7).f0.length cx0,.slice Ax1 (rd_T25 s'.L x7).f1.length cx1],.int .u8 83] rfl qa_ ?_;(with_reducible refine (Z10.calls k1 _ _ (rd_T25 s'.L x7).f0 _ _ (rd_T25 s'.L x7).f1 83 x1 x2 _ X0.out LX0.out X1.out LX1.out AX.out).mono ?_);rintro e w13 ⟨v0,v1,rfl,ho0,ho1,hb⟩;refine ⟨_,rfl,?_⟩;replace HH:=Aside0.mk (HH.out.below hb);replace BL:=bb_ BL hb;replace HB:=b1_ hb;clear hb;obtain ⟨Al0,cl0,el0⟩:=Kd.R_slice ho0;subst el0;obtain ⟨Al1,cl1,el1⟩:=Kd.R_slice ho1;subst el1;have LT0:=Aside0.mk (Kd.R_reads' ho0).2;have LT1:=Aside0.mk (Kd.R_reads' ho1).2;clear ho0 ho1) | ((with_reducible refine gate_callee (f:=28) rfl ?_);refine gL_ (some 53) Try.func28 #[.agg #[.slice Al0 x1.length cl0,.slice Al1 x2.length cl1]] rfl qa_ ?_;(with_reducible refine (Z55.calls k1 _ _ x1 _ _ x2 y1' y2' yb _ LT0.out.2 LT0.out.1 LT1.out.2 LT1.out.1 AY.out).mono ?_);rintro e w14 ⟨v0,v1,rfl,ho0,ho1,hb⟩;refine ⟨_,rfl,?_⟩;have ZC:=Aside0.mk (below_size hB_:w.heap.size≤w13.heap.size);have ZD:=Aside0.mk hb.size;have SL13:=Aside0.mk (Kd.S_below (Kd.S_mono (ok':=fun k_=>col' k_ = 0∧k_ < w13.heap.size) (Kd.S_bound HH.out.hL) (fun k_ hk_=>⟨hk_.1,hk_.2.2.1⟩)) hb);replace HH:=Aside0.mk ((HH.out.recol (col':=rcl w13.heap.size col' 0) (fun k hk=>rcl_old hk)).below hb);replace HC:=Aside0.mk ((rcl_old (blk_lt BL.out)).trans HC.out:rcl w13.heap.size col' 0 gl = 8);replace BL:=bb_ BL hb;replace HB:=b1_ hb;clear hb;obtain ⟨Ay0,cy0,ey0⟩:=Kd.R_slice ho0;subst ey0;obtain ⟨Ay1,cy1,ey1⟩:=Kd.R_slice ho1;subst ey1;have Y0:=Aside0.mk ho0;have Y1:=Aside0.mk ho1;clear ho0 ho1) | ((with_reducible refine gate_dst (N:=10) rfl ?_);refine bx_ 10 #[.slice none 0 0,.slice none 0 0] 25 ?_;intro gx hg w15 hbox hb;have GX:=Aside0.mk (show w14.heap.size≤gx from Nat.le_of_eq hg.symm);have BX:=Aside0.mk hbox;have B3:=Aside0.mk hb;clear hb hbox hg;obtain ⟨hcf0,hcf1,hff0,hff1⟩:=c2_ BX))
       obtain ⟨hbox,hkp,hB2⟩:=box_store (w0:=w14) BX.out (.slice Ay0 y1'.length cy0) (.slice Ay1 y2'.length cy1) B3.out GX.out
       generalize hw:((w15.setCell ⟨gx,0,none⟩ (.slice Ay0 y1'.length cy0)).setCell ⟨gx,1,none⟩ (.slice Ay1 y2'.length cy1)) = w16 at hbox hkp hB2 ⊢
       clear hw hcf0 hcf1 hff0 hff1 hcl0 hcl1 hfl0 hfl1 hco0 hfo0 hx0 hx1 X0 X1 LX0 LX1 LT0 LT1
       have NE:=Aside0.mk (show NeRow (.slice Ay0 y1'.length cy0) (.slice Ay1 y2'.length cy1) from fun k_ e1_ e2_=>(Y0.out.1 k_ e1_) e2_.symm)
       replace HH:=Aside0.mk (HH.out.below hB2)
       replace BL:=Aside0.mk (blk_below BL.out hB2)
       replace Y0:=Aside0.mk (Kd.R_below (Kd.R_bound Y0.out) hB2)
       replace Y1:=Aside0.mk (Kd.R_below (Kd.R_bound Y1.out) hB2)
       replace SL13:=Aside0.mk (Kd.S_below SL13.out hB2)
       replace HB:=Aside0.mk (below_step HB.out hB2)
       replace BX:=Aside0.mk (show w16.heap[gx]? = some (.cells #[.slice Ay0 y1'.length cy0,.slice Ay1 y2'.length cy1] 25 (0,0)) from hbox)
       have ZE:=Aside0.mk hB2.size
       clear hbox hkp hB2 B3
       obtain ⟨hcx0,hcx1,hfx0,hfx1⟩:=c2_ BX
       have hLr:=(Kd.S_reads' HH.out.hL).2
       have RL:=Aside0.mk hLr
       clear hLr
       go_upto_region 13 with (first | ((with_reducible refine gate_callee (f:=72) rfl ?_);refine gL_ (some 58) Try.func72 #[.pointer (some ⟨gO,0,none⟩),.agg #[.slice Ay0 y1'.length cy0,.slice Ay1 y2'.length cy1]] rfl qa_ ?_;(with_reducible refine (index_calls k1 gO _ _ s'.L _ _ _ _ _ _ y1' _ _ y2' j _ RL.out.2 RL.out.1 (Kd.R_reads' Y0.out).2.2 (Kd.R_reads' Y0.out).2.1 (Kd.R_reads' Y1.out).2.2 (Kd.R_reads' Y1.out).2.1 HH.out.hO AJ.out).mono ?_);rintro e w17 ⟨rfl,hb⟩;refine ⟨_,rfl,?_⟩;have ZF:=Aside0.mk hb.size;replace HH:=Aside0.mk (HH.out.below hb);replace BL:=bb_ BL hb;replace BX:=bb_ BX hb;replace Y0:=Aside0.mk (Kd.R_below Y0.out hb);replace Y1:=Aside0.mk (Kd.R_below Y1.out hb);replace SL13:=Aside0.mk (Kd.S_below SL13.out hb);replace HB:=b1_ hb;clear hb))
       clear hcx0 hcx1 hfx0 hfx1 RL
       have ZW:=Aside0.mk (show w13.heap.size≤w17.heap.size from Nat.le_trans ZD.out (Nat.le_trans ZE.out ZF.out))
       clear ZD ZE ZF
       by_cases hj0:j < 0
       ·have H:=HS.out
        clear HS
        rw [if_pos hj0] at H
        have hjb:=decide_eq_true hj0
        have hco0:w17.cell? ⟨gO,0,none⟩ = some (.slice (some adx) s'.L.length cL'):=(blk_cell HH.out.hO 0).trans rfl
        have hfo0:=blk_frozen HH.out.hO 0
        by_cases hq5:(s'.L.length:Int) = 120
        ·rw [if_pos hq5] at H
         obtain rfl:=Option.some.inj H
         clear H
         have hzn:z = none:=(Option.some.inj HT.out).symm
         subst hzn
         have hRn:R = none:=(Option.some.inj HR.out).symm
         subst hRn
         have e5b:((s'.L.length:Int) == 120) = true:=beq_iff_eq.mpr hq5
         clear hq5
         go_wp2
         go_ret2
         exact ⟨qb_,hB_⟩
        ·rw [if_neg hq5] at H
         have e5b:((s'.L.length:Int) == 120) = false:=beq_eq_false_iff_ne.mpr hq5
         clear hq5
         have hlen:=cp_ H
         replace H:=ca_ H
         have hiW:=cp_ H
         replace H:=ca_ H
         have hsz:=cp_ H
         replace H:=Option.some.inj (ca_ H)
         subst H
         rw [if_neg (by decide),if_neg (by decide)] at HT
         have LN:=Aside0.mk hlen
         have LS:=Aside0.mk hsz
         clear hlen hsz
         go_upto_region 17 with (fail)
         clear hco0 hfo0 e5b
         replace HH:=Aside0.mk (HH.out.below (below_drew1 (Below.refl _ _)))
         replace BL:=Aside0.mk (blk_drew BL.out)
         replace BX:=Aside0.mk (blk_drew BX.out)
         replace HB:=Aside0.mk (below_drew1 HB.out)
         replace Y0:=Aside0.mk (Kd.R_bound (Kd.R_drew Y0.out))
         replace Y1:=Aside0.mk (Kd.R_bound (Kd.R_drew Y1.out))
         replace SL13:=Aside0.mk (Kd.S_drew SL13.out)
         replace ZW:=Aside0.mk (show w13.heap.size≤w17.drew.heap.size from ZW.out)
         refine start_ (n:=11) (S:=fun w'=>w'.cell? ⟨gO,0,none⟩ = some (.slice (some adx) s'.L.length cL')∧w'.cell? ⟨gx,0,none⟩ = some (.slice Ay0 y1'.length cy0)∧w'.cell? ⟨gx,1,none⟩ = some (.slice Ay1 y2'.length cy1)) (ds:=[7,10]) (bl_ 11 0) (by kernel_rfl) rfl (by kernel_rfl) ⟨(blk_cell HH.out.hO 0).trans rfl,(blk_cell BX.out 0).trans rfl,(blk_cell BX.out 1).trans rfl⟩ (fun hHeld=>?_)
         refine with_tabW orb_tab17 orb_bits17 (fun HT_ HW_=>?_)
         generalize w17.drew = wa at HH BL BX HB Y0 Y1 SL13 ZW hHeld ⊢
         refine pu_ 0 (some 68) (bl_ 11 1) HT_ ?_
         refine pu_ 1 (some 69) (bl_ 11 3) HT_ ?_
         refine pu_ 2 (some 70) (bl_ 11 7) HT_ ?_
         refine pu_ 3 (some 71) (bl_ 11 15) HT_ ?_
         refine ta_ 4 (some 72) (bl_ 11 31) HT_ HW_ hHeld ?_
         refine ta_ 5 (some 73) (bl_ 11 63) HT_ HW_ hHeld ?_
         refine on_ 6 (some 74) (bl_ 11 127) HT_ (fun K hK=>?_)
         refine value_ (w1:=?_) (v:=?_) (by rfl) rfl ?_ ?_
         rotate_left 2
         ·go_simp
          constructor
          ·rfl
          ·rfl
         refine hK.out _ _ ⟨((below_alloc (Below.refl _ _) _).cell (World.block_lt_of_cell? _ _ hHeld.1)).trans hHeld.1,((below_alloc (Below.refl _ _) _).cell (World.block_lt_of_cell? _ _ hHeld.2.1)).trans hHeld.2.1,((below_alloc (Below.refl _ _) _).cell (World.block_lt_of_cell? _ _ hHeld.2.2)).trans hHeld.2.2⟩ (fun hHeld=>?_)
         clear hK K
         refine no_ (some 74) ?_
         refine last_ (i:=7) (N:=some 75) (bl_ 11 255) rfl rfl (one_of HT_.out (by kernel_rfl)) (by decide) (fun K hK=>?_)
         refine Kd.S_append_step k25 (w0:=w) w.heap.size (by rfl) (.tmp 72) (.tmp 74) 36 25 (.agg #[(.slice none 0 0),(.slice none 0 0)]) 48 rfl Try.underlying36 info25 rfl (by decide) (by omega) (.slice (some adx) s'.L.length cL') s'.L (⟨y1',y2'⟩:S25) [.slice Ay0 y1'.length cy0,.slice Ay1 y2'.length cy1] (fun k_=>rcl wa.heap.size (rcl w13.heap.size col' 0) 0 k_ = 0) (fun k_=>w13.heap.size≤k_∧k_ < wa.heap.size) rfl rfl ?aP ?aQ (fun k_ hk=>rcl_new hk) ?aO HB.out HB.out.size (by have:=LN.out;omega) ?_
         case aP=>exact k25_mkM _ _ _ (⟨y1',y2'⟩:S25) (Kd.R_mono (Kd.R_lower Y0.out ZC.out) (fun k_ hk=>⟨hk.2.1,hk.2.2.1⟩)) (Kd.R_mono (Kd.R_lower Y1.out ZC.out) (fun k_ hk=>⟨hk.2.1,hk.2.2.1⟩)) NE.out
         case aQ=>exact fun k_ hk=>⟨(rcl_old hk.2).trans (rcl_new hk.1),fun e=>by have:=((Kd.S_R SL13.out).1 k_ e.symm).2;have:=hk.1;omega⟩
         case aO=>exact Kd.S_mono SL13.out (fun k_ hk=>⟨(rcl_old (Nat.lt_of_lt_of_le hk.2 ZW.out)).trans ((rcl_old hk.2).trans hk.1),fun h_=>by have:=hk.2;have:=h_.1;omega⟩)
         intro v1 wb ho hb hg hat
         obtain ⟨An1,cn1,en1⟩:=Kd.S_slice ho
         subst en1
         have HO19:=(B_gr HH.out.hO HH.out.cO hg (Kd.S_R HH.out.hL).1 (by decide)).1
         have HC3:=Aside0.mk (B_gr BL.out HC.out hg (Kd.S_R HH.out.hL).1 (by decide))
         have HP:=HH.out.putL hg ho
         have HB2:=Aside0.mk hb
         refine hK.out _ _ ?_
         clear hK K ho hb hg hat SL13 Y0 Y1 BX NE GX
         refine no_ (some 75) ?_
         refine pu_ 8 (some 76) (bl_ 11 511) HT_ ?_
         refine pu_ 9 (some 77) (bl_ 11 1023) HT_ ?_
         refine last_ (i:=10) (N:=none) (bl_ 11 2047) rfl rfl (one_of HT_.out (by kernel_rfl)) (by decide) (fun K hK=>?_)
         have hs19:wb.cell? ⟨gO,0,none⟩ = some (.slice (some adx) s'.L.length cL'):=(blk_cell HO19 0).trans rfl
         have hf19:=blk_frozen HO19 0
         refine skip_ (w1:=wb.setCell ⟨gO,0,none⟩ (.slice An1 (s'.L ++ [(⟨y1',y2'⟩:S25)]).length cn1)) (by rfl) rfl ?_ ?_
         ·go_simp
         refine hK.out _ _ ?_
         clear hK K hs19 hf19
         refine done_ (done_of HT_.out (by kernel_rfl)) ?_
         have hne_:gl≠gO:=fun e=>by have a1:=HC3.out.2;have a2:=HP.cO;rw [e] at a1;omega
         have HB3:=Aside0.mk (below_set (g:=gO) (j:=0) (v:=(.slice An1 (s'.L ++ [(⟨y1',y2'⟩:S25)]).length cn1)) HB2.out HP.bO)
         have BL2:=Aside0.mk (put_far HC3.out.1 hne_ 0 (.slice An1 (s'.L ++ [(⟨y1',y2'⟩:S25)]).length cn1))
         have HCN:=HC3.out.2
         clear HH BL HB HC HC3 HB2 HO19
         generalize hwc:wb.setCell ⟨gO,0,none⟩ (.slice An1 (s'.L ++ [(⟨y1',y2'⟩:S25)]).length cn1) = wc at HP HB3 BL2 ⊢
         clear hwc
         obtain ⟨colwc,hh_,hc_⟩:∃ c_,OrbH w.heap.size c_ wc gO gM n' _ _ _ _ _ _ _∧c_ gl = 8:=⟨_,HP,HCN⟩
         have HH:=Aside0.mk hh_;have HC:=Aside0.mk hc_;have BL:=BL2;have HB:=HB3
         clear hh_ hc_ BL2 HB3 HP HCN hne_
         obtain ⟨AW,cW,eW⟩:=Kd.R_slice HH.out.hW
         subst eW
         go_upto_region 18 with (fail)
         replace HH:=Aside0.mk (HH.out.below (below_drew1 (Below.refl _ _)))
         replace BL:=Aside0.mk (blk_drew BL.out)
         replace HB:=Aside0.mk (below_drew1 HB.out)
         obtain ⟨adw,ew,hxw⟩:=Kd.at_string (Kd.R_reads' HH.out.hW).2.2 x7 hi0 hiW
         cases ew
         have tw1:=eq_true hiW
         have tw2:=decide_eq_true hiW
         refine start_ (n:=21) (S:=fun w'=>w'.cell? ⟨gO,1,none⟩ = some (.slice (some adw) s'.W.length cW)∧w'.cell? (adw.add (x7).toNat) = some (.string (rdOf ByteArray.empty s'.W x7))) (ds:=[17,20]) (bl_ 21 0) (by kernel_rfl) rfl (by kernel_rfl) ⟨(blk_cell HH.out.hO 1).trans rfl,hxw⟩ (fun hHeld=>?_)
         refine with_tabW orb_tab18 orb_bits18 (fun HT_ HW_=>?_)
         clear hxw
         generalize wc.drew = wd at HH BL HB hHeld ⊢
         refine pu_ 0 (some 78) (bl_ 21 1) HT_ ?_
         refine pu_ 1 (some 79) (bl_ 21 3) HT_ ?_
         refine pu_ 2 (some 80) (bl_ 21 7) HT_ ?_
         refine pu_ 3 (some 81) (bl_ 21 15) HT_ ?_
         refine ta_ 4 (some 82) (bl_ 21 31) HT_ HW_ hHeld ?_
         refine pu_ 5 (some 83) (bl_ 21 63) HT_ ?_
         refine pu_ 6 (some 84) (bl_ 21 127) HT_ ?_
         refine pu_ 7 (some 85) (bl_ 21 255) HT_ ?_
         refine ta_ 8 (some 86) (bl_ 21 511) HT_ HW_ hHeld ?_
         refine pu_ 9 (some 87) (bl_ 21 1023) HT_ ?_
         refine pu_ 10 (some 88) (bl_ 21 2047) HT_ ?_
         refine ta_ 11 (some 89) (bl_ 21 4095) HT_ HW_ hHeld ?_
         refine pu_ 12 (some 90) (bl_ 21 8191) HT_ ?_
         refine on_ 13 (some 91) (bl_ 21 16383) HT_ (fun K hK=>?_)
         refine Kd.R_lit_step (Kd.int .u8) _ 5 ?hg (N:=91) ?hd (xs:=([83]:List Int)) (inner:=[.int .u8 83]) (ok:=fun _=>True) (okp:=fun _=>True) ?hr ?hp (fun _ hk=>hk) trivial (Below.refl _ _) (Nat.le_refl _) (by simp) ?_;(case hd=>rfl);(case hg=>rfl);(case hr=>first | (go_simp;done) | (go_simp;rfl));(case hp=>exact (Reps.one (show Kd.M (Kd.int .u8) _ _ _ 83 [.int .u8 83] from rfl) (Reps.none _ _)))
         intro vq we hoq hb hg_ hnew_
         have hS1_:=(hb.cell (World.block_lt_of_cell? _ _ hHeld.1)).trans hHeld.1
         have hS2_:=(hb.cell (World.block_lt_of_cell? _ _ hHeld.2)).trans hHeld.2
         replace HH:=Aside0.mk (HH.out.below hb)
         replace BL:=bb_ BL hb
         replace HB:=b1_ hb
         have HOq:=Aside0.mk hoq
         clear hg_ hnew_ hb hoq
         refine hK.out _ _ ⟨hS1_,hS2_⟩ (fun hHeld=>?_)
         clear hK K hS1_ hS2_
         refine no_ (some 91) ?_
         refine on_ 14 (some 92) (bl_ 21 32767) HT_ (fun K hK=>?_)
         have hcv47:=own_string (P:=Try.prog) Try.underlying22 Try.underlying5 Try.underlying9 (Kd.own_of_R HOq.out)
         refine value_ (w1:=?_) (v:=?_) (by rfl) rfl ?_ ?_
         rotate_left 2
         ·go_simp
          constructor
          ·rfl
          ·rfl
         clear hcv47 HOq
         refine hK.out _ _ hHeld (fun hHeld=>?_)
         clear hK K
         refine no_ (some 92) ?_
         have hs1_:(strOfNums [(83:Int)]).size = 1:=by decide +kernel
         have tw3:(9223372036854775807 < (rdOf ByteArray.empty s'.W x7).size + (strOfNums [(83:Int)]).size) = False:=eq_false (by rw [hs1_];have:=LS.out;omega)
         clear hs1_
         refine pu_ 15 (some 93) (bl_ 21 65535) HT_ ?_
         clear tw3
         refine on_ 16 (some 94) (bl_ 21 131071) HT_ (fun K hK=>?_)
         refine value_ (w1:=?_) (v:=?_) (by rfl) rfl ?_ ?_
         rotate_left 2
         ·go_simp
          constructor
          ·rfl
          ·rfl
         refine hK.out _ _ ⟨((below_alloc (Below.refl _ _) _).cell (World.block_lt_of_cell? _ _ hHeld.1)).trans hHeld.1,((below_alloc (Below.refl _ _) _).cell (World.block_lt_of_cell? _ _ hHeld.2)).trans hHeld.2⟩ (fun hHeld=>?_)
         clear hK K
         refine no_ (some 94) ?_
         refine last_ (i:=17) (N:=some 95) (bl_ 21 262143) rfl rfl (one_of HT_.out (by kernel_rfl)) (by decide) (fun K hK=>?_)
         refine Kd.R_append_step Kd.string (w0:=w) w.heap.size (by rfl) (.tmp 82) (.tmp 94) 53 9 (.string ⟨#[]⟩) 16 rfl Try.underlying53 info9 rfl (by decide) (by omega) (.slice (some adw) s'.W.length cW) s'.W ((rdOf ByteArray.empty s'.W x7) ++ (strOfNums [83])) [.string ((rdOf ByteArray.empty s'.W x7) ++ (strOfNums [83]))] (fun k_=>rcl we.heap.size colwc 1 k_ = 1) (fun _=>False) rfl rfl rfl (fun _ hk=>hk.elim) (fun k_ hk=>rcl_new hk) (R_col HH.out.hW (fun k_ hk=>rcl_old hk)) HB.out HB.out.size (by have:=LN.out;omega) ?_
         intro v2 wf ho hb hg hat
         obtain ⟨An2,cn2,en2⟩:=Kd.R_slice ho
         subst en2
         have HO19:=(B_gr HH.out.hO HH.out.cO hg HH.out.hW.1 (by decide)).1
         have HC3:=Aside0.mk (B_gr BL.out HC.out hg HH.out.hW.1 (by decide))
         have HP:=HH.out.putW hg ho
         have HB2:=Aside0.mk hb
         refine hK.out _ _ ?_
         clear hK K ho hb hg hat
         refine no_ (some 95) ?_
         refine pu_ 18 (some 96) (bl_ 21 524287) HT_ ?_
         refine pu_ 19 (some 97) (bl_ 21 1048575) HT_ ?_
         refine last_ (i:=20) (N:=none) (bl_ 21 2097151) rfl rfl (one_of HT_.out (by kernel_rfl)) (by decide) (fun K hK=>?_)
         have hs19:wf.cell? ⟨gO,1,none⟩ = some (.slice (some adw) s'.W.length cW):=(blk_cell HO19 1).trans rfl
         have hf19:=blk_frozen HO19 1
         refine skip_ (w1:=wf.setCell ⟨gO,1,none⟩ (.slice An2 (s'.W ++ [(rdOf ByteArray.empty s'.W x7) ++ (strOfNums [83])]).length cn2)) (by rfl) rfl ?_ ?_
         ·go_simp
         refine hK.out _ _ ?_
         clear hK K hs19 hf19
         refine done_ (done_of HT_.out (by kernel_rfl)) ?_
         have hne_:gl≠gO:=fun e=>by have a1:=HC3.out.2;have a2:=HP.cO;rw [e] at a1;omega
         have HB3:=Aside0.mk (below_set (g:=gO) (j:=1) (v:=(.slice An2 (s'.W ++ [(rdOf ByteArray.empty s'.W x7) ++ (strOfNums [83])]).length cn2)) HB2.out HP.bO)
         have BL2:=Aside0.mk (put_far HC3.out.1 hne_ 1 (.slice An2 (s'.W ++ [(rdOf ByteArray.empty s'.W x7) ++ (strOfNums [83])]).length cn2))
         have HCN:=HC3.out.2
         clear HH BL HB HC HC3 HB2 HO19
         generalize hwc:wf.setCell ⟨gO,1,none⟩ (.slice An2 (s'.W ++ [(rdOf ByteArray.empty s'.W x7) ++ (strOfNums [83])]).length cn2) = wg at HP HB3 BL2 ⊢
         clear hwc
         obtain ⟨colwg,hh_,hc_⟩:∃ c_,OrbH w.heap.size c_ wg gO gM n' _ _ _ _ _ _ _∧c_ gl = 8:=⟨_,HP,HCN⟩
         have HH:=Aside0.mk hh_;have HC:=Aside0.mk hc_;have BL:=BL2;have HB:=HB3
         clear hh_ hc_ BL2 HB3 HP HCN hne_
         obtain ⟨AF,cF,eF⟩:=Kd.R_slice HH.out.hF
         subst eF
         go_upto_region 19 with (fail)
         have hco_:wg.cell? ⟨gO,2,none⟩ = some (.slice AF s'.F.length cF):=(blk_cell HH.out.hO 2).trans rfl
         have hfo_:=blk_frozen HH.out.hO 2
         go_upto_region 20 with (first | ((with_reducible refine gate_builtin (b:=.append) (xs:=#[.tmp 102,.tmp 104]) rfl ?_);at_builtin;refine Kd.R_append (Kd.int .i64) (w0:=w) w.heap.size rfl (.tmp 102) (.tmp 104) 23 3 (.int .i64 0) 8 rfl Try.underlying23 info3 rfl (by decide) (by omega) (.slice AF s'.F.length cF) s'.F (x7) [.int .i64 (x7)] (fun k_=>rcl wg.heap.size colwg 2 k_ = 2) (fun _=>False) rfl rfl rfl (fun _ hk=>hk.elim) (fun k_ hk=>rcl_new hk) (R_col HH.out.hF (fun k_ hk=>rcl_old hk)) HB.out HB.out.size (by have:=LN.out;omega) ?_;intro v3 wh ho hb hg hat;obtain ⟨Anv3,cnv3,env3⟩:=Kd.R_slice ho;subst env3;rw [List.length_append,List.length_singleton] at ho;have HO19:=(B_gr HH.out.hO HH.out.cO hg HH.out.hF.1 (by decide)).1;have HC3:=Aside0.mk (B_gr BL.out HC.out hg HH.out.hF.1 (by decide));have HP:=HH.out.putF hg ho;have HB2:=Aside0.mk hb;clear ho hb hg hat hco_ hfo_;have hs19:wh.cell? ⟨gO,2,none⟩ = some (.slice AF s'.F.length cF):=(blk_cell HO19 2).trans rfl;have hf19:=blk_frozen HO19 2))
         clear hs19 hf19
         have hne_:gl≠gO:=fun e=>by have a1:=HC3.out.2;have a2:=HP.cO;rw [e] at a1;omega
         have HB3:=Aside0.mk (below_set (g:=gO) (j:=2) (v:=(.slice Anv3 (s'.F.length + 1) cnv3)) HB2.out HP.bO)
         have BL2:=Aside0.mk (put_far HC3.out.1 hne_ 2 (.slice Anv3 (s'.F.length + 1) cnv3))
         have HCN:=HC3.out.2
         clear HH BL HB HC HC3 HB2 HO19
         generalize hwc:wh.setCell ⟨gO,2,none⟩ (.slice Anv3 (s'.F.length + 1) cnv3) = wi at HP HB3 BL2 ⊢
         clear hwc
         obtain ⟨colwi,hh_,hc_⟩:∃ c_,OrbH w.heap.size c_ wi gO gM n' _ _ _ _ _ _ _∧c_ gl = 8:=⟨_,HP,HCN⟩
         have HH:=Aside0.mk hh_;have HC:=Aside0.mk hc_;have BL:=BL2;have HB:=HB3
         clear hh_ hc_ BL2 HB3 HP HCN hne_
         obtain ⟨AB,cB,eB⟩:=Kd.R_slice HH.out.hB
         subst eB
         have hco_:wi.cell? ⟨gO,3,none⟩ = some (.slice AB s'.B.length cB):=(blk_cell HH.out.hO 3).trans rfl
         have hfo_:=blk_frozen HH.out.hO 3
         go_upto_region 21 with (first | ((with_reducible refine gate_builtin (b:=.append) (xs:=#[.tmp 112,.tmp 114]) rfl ?_);at_builtin;refine Kd.R_append (Kd.int .u8) (w0:=w) w.heap.size rfl (.tmp 112) (.tmp 114) 22 5 (.int .u8 0) 1 rfl Try.underlying22 info5 rfl (by decide) (by omega) (.slice AB s'.B.length cB) s'.B (83) [.int .u8 (83)] (fun k_=>rcl wi.heap.size colwi 3 k_ = 3) (fun _=>False) rfl rfl rfl (fun _ hk=>hk.elim) (fun k_ hk=>rcl_new hk) (R_col HH.out.hB (fun k_ hk=>rcl_old hk)) HB.out HB.out.size (by have:=LN.out;omega) ?_;intro v4 wj ho hb hg hat;obtain ⟨Anv4,cnv4,env4⟩:=Kd.R_slice ho;subst env4;rw [List.length_append,List.length_singleton] at ho;have HO19:=(B_gr HH.out.hO HH.out.cO hg HH.out.hB.1 (by decide)).1;have HC3:=Aside0.mk (B_gr BL.out HC.out hg HH.out.hB.1 (by decide));have HP:=HH.out.putB hg ho;have HB2:=Aside0.mk hb;clear ho hb hg hat hco_ hfo_;have hs19:wj.cell? ⟨gO,3,none⟩ = some (.slice AB s'.B.length cB):=(blk_cell HO19 3).trans rfl;have hf19:=blk_frozen HO19 3))
         clear hs19 hf19
         have hne_:gl≠gO:=fun e=>by have a1:=HC3.out.2;have a2:=HP.cO;rw [e] at a1;omega
         have HB3:=Aside0.mk (below_set (g:=gO) (j:=3) (v:=(.slice Anv4 (s'.B.length + 1) cnv4)) HB2.out HP.bO)
         have BL2:=Aside0.mk (put_far HC3.out.1 hne_ 3 (.slice Anv4 (s'.B.length + 1) cnv4))
         have HCN:=HC3.out.2
         clear HH BL HB HC HC3 HB2 HO19
         generalize hwc:wj.setCell ⟨gO,3,none⟩ (.slice Anv4 (s'.B.length + 1) cnv4) = wk at HP HB3 BL2 ⊢
         clear hwc
         obtain ⟨colwk,hh_,hc_⟩:∃ c_,OrbH w.heap.size c_ wk gO gM n' _ _ _ _ _ _ _∧c_ gl = 8:=⟨_,HP,HCN⟩
         have HH:=Aside0.mk hh_;have HC:=Aside0.mk hc_;have BL:=BL2;have HB:=HB3
         clear hh_ hc_ BL2 HB3 HP HCN hne_
         generalize hcc:colwk = colc at HH HC
         clear hcc
         go_upto_region 21 with (fail)
         replace HH:=Aside0.mk (HH.out.below (below_drew1 (Below.refl _ _)))
         replace BL:=Aside0.mk (blk_drew BL.out)
         replace HB:=Aside0.mk (below_drew1 HB.out)
         refine start_ (n:=15) (S:=fun w'=>w'.cell? ⟨gO,4,none⟩ = some (.map (some gM))∧w'.heap[gM]? = some (mapO n' vT' vS')) (ds:=[14]) (bl_ 15 0) (by kernel_rfl) rfl (by kernel_rfl) ⟨(blk_cell HH.out.hO 4).trans rfl,HH.out.hM⟩ (fun hHeld=>?_)
         refine with_tabW orb_tab21 orb_bits21 (fun HT_ HW_=>?_)
         generalize wk.drew = wl at HH BL HB hHeld ⊢
         refine pu_ 0 (some 118) (bl_ 15 1) HT_ ?_
         refine pu_ 1 (some 119) (bl_ 15 3) HT_ ?_
         refine pu_ 2 (some 120) (bl_ 15 7) HT_ ?_
         refine ta_ 3 (some 121) (bl_ 15 15) HT_ HW_ hHeld ?_
         refine pu_ 4 (some 122) (bl_ 15 31) HT_ ?_
         refine pu_ 5 (some 123) (bl_ 15 63) HT_ ?_
         refine pu_ 6 (some 124) (bl_ 15 127) HT_ ?_
         refine pu_ 7 (some 125) (bl_ 15 255) HT_ ?_
         refine ta_ 8 (some 126) (bl_ 15 511) HT_ HW_ hHeld ?_
         refine pu_ 9 (some 127) (bl_ 15 1023) HT_ ?_
         have hlk:∀ w',w'.heap[gM]? = some (mapO n' vT' vS')→(Instr.lookup 67 (.map (some gM)) (.int .u8 83) false).run Try.prog w' = .ok vS' w':=fun w' h_=>by
          have hn:=hn0.out
          have:=look_S h_ (by omega)
          rw [HH.out.look.2] at this
          exact this
         refine ta_ 10 (some 128) (v:=vS') (bl_ 15 2047) HT_ HW_ hHeld ?_ (hy:=Or.inl ⟨by rfl,fun w' hs_=>?_⟩)
         rotate_left
         ·have hq:=hlk w' hs_.2
          go_simp
         clear hlk
         refine pu_ 11 (some 129) (bl_ 15 4095) HT_ ?_
         refine on_ 12 (some 130) (bl_ 15 8191) HT_ (fun K hK=>?_)
         refine value_ (w1:=?_) (v:=?_) (by rfl) rfl ?_ ?_
         rotate_left 2
         ·go_simp
          constructor
          ·rfl
          ·rfl
         refine hK.out _ _ ⟨((below_alloc (Below.refl _ _) _).cell (World.block_lt_of_cell? _ _ hHeld.1)).trans hHeld.1,blk_alloc hHeld.2 _⟩ (fun hHeld=>?_)
         clear hK K
         refine no_ (some 130) ?_
         refine on_ 13 (some 131) (bl_ 15 16383) HT_ (fun K hK=>?_)
         refine Kd.R_append_step (Kd.int .i64) (w0:=w) w.heap.size (by rfl) (.tmp 128) (.tmp 130) 23 3 (.int .i64 0) 8 rfl Try.underlying23 info3 rfl (by decide) (by omega) vS' s'.S ((s'.L.length:Int)) [.int .i64 ((s'.L.length:Int))] (fun k_=>rcl wl.heap.size colc 5 k_ = 5) (fun _=>False) rfl rfl rfl (fun _ hk=>hk.elim) (fun k_ hk=>rcl_new hk) (R_col HH.out.hS (fun k_ hk=>rcl_old hk)) HB.out HB.out.size (by have:=LN.out;omega) ?_
         intro v1 wlb ho hb hg hat
         have HP:=HH.out.putS hn0.out hg ho
         have HM:=Aside0.mk HP.1
         have HO19:=(B_gr HH.out.hO HH.out.cO hg HH.out.hS.1 (by decide)).1
         have HC3:=Aside0.mk (B_gr BL.out HC.out hg HH.out.hS.1 (by decide))
         replace HH:=Aside0.mk HP.2
         clear HP
         have HB2:=Aside0.mk hb
         refine hK.out _ _ ⟨(blk_cell HO19 4).trans rfl,HM.out⟩ (fun hHeld=>?_)
         clear hK K ho hb hg hat HO19
         refine no_ (some 131) ?_
         refine last_ (i:=14) (N:=none) (bl_ 15 32767) rfl rfl (one_of HT_.out (by kernel_rfl)) (by decide) (fun K hK=>?_)
         have hput:(Instr.mapUpdate 67 (.map (some gM)) (.int .u8 83) v1).run Try.prog wlb = .ok () (setMap wlb gM 2 vT' v1):=put_S HM.out hn0.out v1
         refine skip_ (w1:=setMap wlb gM 2 vT' v1) (by rfl) rfl ?_ ?_
         ·go_simp
         refine hK.out _ _ ?_
         clear hK K hput
         refine done_ (done_of HT_.out (by kernel_rfl)) ?_
         try go_wp2
         have hgm:gl≠gM:=fun e=>by have a1:=HC3.out.2;have a2:=HH.out.cM;rw [e] at a1;omega
         have BL2:=Aside0.mk ((setMap_far (n:=2) vT' v1 hgm).trans HC3.out.1)
         have HB3:=Aside0.mk (setMap_below (n:=2) vT' v1 HB2.out HH.out.bM)
         go_roundg 0
         case measure=>have:=HG.out;omega
         case rel=>exact ⟨2,2,_,_,_,_,_,_,_,_,(by first | rfl | (simp;done) | (simp [*];done)),⟨by omega⟩,⟨by omega⟩,HT,⟨⟨fun e=>absurd e (by decide),fun e=>absurd e (by decide),fun _=>rfl⟩⟩,⟨HC3.out.2⟩,BL2,HH,HB3⟩
       ·have H:=HS.out
        clear HS
        rw [if_neg hj0] at H
        have hjb:=decide_eq_false hj0
        have hlen:=cp_ H
        replace H:=Option.some.inj (ca_ H)
        subst H
        rw [if_neg (by decide),if_neg (by decide)] at HT
        have LN:=Aside0.mk hlen
        clear hlen SL13 Y0 Y1 BX NE GX
        generalize hcc:rcl w13.heap.size col' 0 = colc at HH HC
        clear hcc
        go_upto_region 21 with (fail)
        replace HH:=Aside0.mk (HH.out.below (below_drew1 (Below.refl _ _)))
        replace BL:=Aside0.mk (blk_drew BL.out)
        replace HB:=Aside0.mk (below_drew1 HB.out)
        refine start_ (n:=15) (S:=fun w'=>w'.cell? ⟨gO,4,none⟩ = some (.map (some gM))∧w'.heap[gM]? = some (mapO n' vT' vS')) (ds:=[14]) (bl_ 15 0) (by kernel_rfl) rfl (by kernel_rfl) ⟨(blk_cell HH.out.hO 4).trans rfl,HH.out.hM⟩ (fun hHeld=>?_)
        refine with_tabW orb_tab21 orb_bits21 (fun HT_ HW_=>?_)
        generalize w17.drew = w18 at HH BL HB hHeld ⊢
        refine pu_ 0 (some 118) (bl_ 15 1) HT_ ?_
        refine pu_ 1 (some 119) (bl_ 15 3) HT_ ?_
        refine pu_ 2 (some 120) (bl_ 15 7) HT_ ?_
        refine ta_ 3 (some 121) (bl_ 15 15) HT_ HW_ hHeld ?_
        refine pu_ 4 (some 122) (bl_ 15 31) HT_ ?_
        refine pu_ 5 (some 123) (bl_ 15 63) HT_ ?_
        refine pu_ 6 (some 124) (bl_ 15 127) HT_ ?_
        refine pu_ 7 (some 125) (bl_ 15 255) HT_ ?_
        refine ta_ 8 (some 126) (bl_ 15 511) HT_ HW_ hHeld ?_
        refine pu_ 9 (some 127) (bl_ 15 1023) HT_ ?_
        have hlk:∀ w',w'.heap[gM]? = some (mapO n' vT' vS')→(Instr.lookup 67 (.map (some gM)) (.int .u8 83) false).run Try.prog w' = .ok vS' w':=fun w' h_=>by
         have hn:=hn0.out
         have:=look_S h_ (by omega)
         rw [HH.out.look.2] at this
         exact this
        refine ta_ 10 (some 128) (v:=vS') (bl_ 15 2047) HT_ HW_ hHeld ?_ (hy:=Or.inl ⟨by rfl,fun w' hs_=>?_⟩)
        rotate_left
        ·have hq:=hlk w' hs_.2
         go_simp
        clear hlk
        refine pu_ 11 (some 129) (bl_ 15 4095) HT_ ?_
        refine on_ 12 (some 130) (bl_ 15 8191) HT_ (fun K hK=>?_)
        refine value_ (w1:=?_) (v:=?_) (by rfl) rfl ?_ ?_
        rotate_left 2
        ·go_simp
         constructor
         ·rfl
         ·rfl
        refine hK.out _ _ ⟨((below_alloc (Below.refl _ _) _).cell (World.block_lt_of_cell? _ _ hHeld.1)).trans hHeld.1,blk_alloc hHeld.2 _⟩ (fun hHeld=>?_)
        clear hK K
        refine no_ (some 130) ?_
        refine on_ 13 (some 131) (bl_ 15 16383) HT_ (fun K hK=>?_)
        refine Kd.R_append_step (Kd.int .i64) (w0:=w) w.heap.size (by rfl) (.tmp 128) (.tmp 130) 23 3 (.int .i64 0) 8 rfl Try.underlying23 info3 rfl (by decide) (by omega) vS' s'.S (j) [.int .i64 (j)] (fun k_=>rcl w18.heap.size colc 5 k_ = 5) (fun _=>False) rfl rfl rfl (fun _ hk=>hk.elim) (fun k_ hk=>rcl_new hk) (R_col HH.out.hS (fun k_ hk=>rcl_old hk)) HB.out HB.out.size (by have:=LN.out;omega) ?_
        intro v1 w18b ho hb hg hat
        have HP:=HH.out.putS hn0.out hg ho
        have HM:=Aside0.mk HP.1
        have HO19:=(B_gr HH.out.hO HH.out.cO hg HH.out.hS.1 (by decide)).1
        have HC3:=Aside0.mk (B_gr BL.out HC.out hg HH.out.hS.1 (by decide))
        replace HH:=Aside0.mk HP.2
        clear HP
        have HB2:=Aside0.mk hb
        refine hK.out _ _ ⟨(blk_cell HO19 4).trans rfl,HM.out⟩ (fun hHeld=>?_)
        clear hK K ho hb hg hat HO19
        refine no_ (some 131) ?_
        refine last_ (i:=14) (N:=none) (bl_ 15 32767) rfl rfl (one_of HT_.out (by kernel_rfl)) (by decide) (fun K hK=>?_)
        have hput:(Instr.mapUpdate 67 (.map (some gM)) (.int .u8 83) v1).run Try.prog w18b = .ok () (setMap w18b gM 2 vT' v1):=put_S HM.out hn0.out v1
        refine skip_ (w1:=setMap w18b gM 2 vT' v1) (by rfl) rfl ?_ ?_
        ·go_simp
        refine hK.out _ _ ?_
        clear hK K hput
        refine done_ (done_of HT_.out (by kernel_rfl)) ?_
        try go_wp2
        have hgm:gl≠gM:=fun e=>by have a1:=HC3.out.2;have a2:=HH.out.cM;rw [e] at a1;omega
        have BL2:=Aside0.mk ((setMap_far (n:=2) vT' v1 hgm).trans HC3.out.1)
        have HB3:=Aside0.mk (setMap_below (n:=2) vT' v1 HB2.out HH.out.bM)
        go_roundg 0
        case measure=>have:=HG.out;omega
        case rel=>exact ⟨2,2,_,_,_,_,_,_,_,_,(by first | rfl | (simp;done) | (simp [*];done)),⟨by omega⟩,⟨by omega⟩,HT,⟨⟨fun e=>absurd e (by decide),fun e=>absurd e (by decide),fun _=>rfl⟩⟩,⟨HC3.out.2⟩,BL2,HH,HB3⟩
     ·have hj2':jj = 2:=by omega
      subst hj2'
      have hn2:=Aside0.mk (HN.out.2.2 rfl)
      have H:=AZ.out
      clear AZ
      change innerO k1 x7 [] s' = some z at H
      simp only [innerO] at H
      obtain rfl:=Option.some.inj H
      clear H
      clear hcl0 hcl1 hfl0 hfl1 hco0 hfo0
      go_wp2
      go_roundg k1
      case measure=>have:=HK.out;omega
      case rel=>exact ⟨wrap64 (x7 + 1),n',_,_,_,_,_,_,_,s',(by first | rfl | (simp;done) | (simp [*];done)),HR,⟨by have:=HK.out;omega⟩,⟨.inr hn2.out⟩,HH,HB⟩
   ·rw [if_neg hq1] at H
    have c1b:=decide_eq_false hq1
    obtain rfl:=Option.some.inj H
    clear H hq1
    go_wp2
    go_ret2
    exact ⟨gO,gM,n,col,_,_,_,_,_,_,rfl,HH.out,HB.out⟩
theorem orbit_calls (k:Nat) (A0:Option Addr) (c0:Nat) (l0:List Int) (A1:Option Addr) (c1:Nat) (l1:List Int) (R:Option Orb) (w:World) (h0:Kd.C (Kd.int .i64) w A0 l0.length l0) (g0:l0.length≤c0) (h1:Kd.C (Kd.int .i64) w A1 l1.length l1) (g1:l1.length≤c1) (h:orbitO k l0 l1 = some R) :
  Calls Try.prog 59 #[.agg #[.slice A0 l0.length c0,.slice A1 l1.length c1]] w fun e w'=>OrbPost w w' e R:=by
 unfold orbitO at h
 obtain ⟨⟨y1,y2,yb⟩,a,h⟩:=Option.bind_eq_some_iff.mp h
 cases yb with
 | false =>
  have e:none = R:=Option.some.inj h
  subst e
  exact orbit_no k A0 c0 l0 A1 c1 l1 y1 y2 w h0 g0 h1 g1 a
 | true=>exact orbit_yes k A0 c0 l0 A1 c1 l1 y1 y2 R w h0 g0 h1 g1 a h
end Go.Proofs.Ytcggfjpnfodbaaa.M
end
section
/- Finding the orbit: more rounds give the same answer. No conditions. -/
namespace Go.Proofs.Ytcggfjpnfodbaaa.M
set_option linter.unusedVariables false
set_option linter.unusedSimpArgs false
open Go Go.RowKit Go.Proofs.YtcggfjpnfodbaaaW.PrintWords Go.Proofs.YtcggfjpnfodbaaaW.PrintLast Go.Proofs.YtcggfjpnfodbaaaW.PrintMore Go.Proofs.Ytcggfjpnfodbaaa.A
theorem idxS_mono (k:Nat) (r u:List Int):∀ (l:List S25) (i:Nat),LeO (idxS k r u l i) (idxS (k + 1) r u l i):=by
 intro l
 induction l with
 | nil=>intro i;exact LeO.refl _
 | cons x l ih =>
  intro i
  unfold idxS
  refine LeO.bind (Z18.mono _ _ _ _ _) (fun b=>LeO.ite (LeO.refl _) (ih _))
theorem indexO_mono (k:Nat) (l:List S25) (r u:List Int):LeO (indexO k l r u) (indexO (k + 1) l r u):=by
 unfold indexO
 exact LeO.ite (idxS_mono _ _ _ _ _) (LeO.refl _)
theorem stpO_mono (k:Nat) (i c:Int) (s:Orb):LeO (stpO k i c s) (stpO (k + 1) i c s):=by
 unfold stpO
 refine LeO.ite (LeO.ite (LeO.bind (Z10.mono _ _ _ _) (fun x=>LeO.bind (Z55.mono _ _ _) (fun y=>LeO.bind (indexO_mono _ _ _ _) (fun j=>LeO.refl _)))) (LeO.refl _)) (LeO.refl _)
theorem innerO_mono (k:Nat) (i:Int):∀ (cs:List Int) (s:Orb),LeO (innerO k i cs s) (innerO (k + 1) i cs s):=by
 intro cs
 induction cs with
 | nil=>intro s;exact LeO.refl _
 | cons c cs ih =>
  intro s
  unfold innerO
  refine LeO.bind (stpO_mono _ _ _ _) (fun z=>?_)
  cases z with
  | none=>exact LeO.refl _
  | some s'=>exact ih s'
theorem loopO_mono:∀ (k:Nat) (s:Orb) (i:Int),LeO (loopO k s i) (loopO (k + 1) s i):=by
 intro k
 induction k with
 | zero=>intro s i;exact LeO.none _
 | succ k ih =>
  intro s i
  rw [loopO,loopO]
  refine LeO.ite (LeO.bind (innerO_mono _ _ _ _) (fun z=>?_)) (LeO.refl _)
  cases z with
  | none=>exact LeO.refl _
  | some s'=>exact ih s' _
theorem orbitO_mono (k:Nat) (r u:List Int):LeO (orbitO k r u) (orbitO (k + 1) r u):=by
 unfold orbitO
 exact LeO.bind (Z55.mono _ _ _) (fun y=>LeO.ite (loopO_mono _ _ _) (LeO.refl _))
end Go.Proofs.Ytcggfjpnfodbaaa.M
end
section
namespace Go.Proofs.Ytcggfjpnfodbaaa.A
open Go.RowKit Go.Proofs.YtcggfjpnfodbaaaW.PrintWords Go.Proofs.YtcggfjpnfodbaaaW.PrintLast Go.Proofs.YtcggfjpnfodbaaaW.PrintMore
attribute [local go_sem] max2_int min2_int max_two min_two max_three min_three max_four min_four
set_option linter.unusedVariables false
set_option linter.unusedSimpArgs false
def Z2.f (s:ByteArray) (c:Int):Option Int:=some (Lib.indexByte s.data.toList c.toNat.toUInt8)
set_option maxHeartbeats 8000000 in
set_option maxRecDepth 100000 in
theorem Z2.calls (a0:ByteArray) (a1:Int) (r:Int) (w:World) (h:Z2.f a0 a1 = some r) :
  Calls Try.prog 143 #[.string a0,.int .u8 a1] w fun e w'=>e = .returned (.int .i64 r)∧Below w.heap.size w w':=by
 unfold Z2.f at h
 obtain rfl:=Option.some.inj h
 clear h
 go_enter Try.func143,Try.ntmps143
 go_wp2
 rw [run_callFunc_extern Try.func161 (by kernel_rfl) (by kernel_rfl) (by kernel_rfl) (e:=Extern.BytealgIndexByte.indexByte) (by kernel_rfl),Lib.run_indexByteString]
 simp only [Result.andThen]
 rw [Oper.upon_value]
 go_wp2
 go_ret
 exact ⟨rfl,by repeat (first | (with_reducible first | exact Below.refl _ _ | apply bA_ | apply bB_ | apply bC_) | exact Below.refl _ _)⟩
def Z15.f (a0:ByteArray) (a1:Int):Option (Int):=(Z2.f a0 a1).bind fun t622=>(some t622)
set_option maxHeartbeats 8000000 in
set_option maxRecDepth 100000 in
theorem Z15.calls (a0:ByteArray) (a1:Int) (r:Int) (w:World) (h:Z15.f a0 a1 = some r) :
  Calls Try.prog 110 #[.string a0,.int .u8 a1] w fun e w'=>e = .returned (.int .i64 r)∧Below w.heap.size w w':=by
 have HB:=A_ (Below.refl w.heap.size w)
 have H:=h
 unfold Z15.f at H
 clear h
 obtain ⟨t622,A3,H⟩:=bi_ H
 obtain rfl:=Option.some.inj H
 go_enter Try.func110,Try.ntmps110
 go_wp2_with (first | ((with_reducible refine gA_ (f:=143) rfl ?_);refine gL_ (some 7) Try.func143 #[.string a0,.int .u8 a1] rfl qa_ ?_;(with_reducible refine (Z2.calls a0 a1 t622 _ A3.out).mono ?_);rintro e w4 ⟨rfl,hb⟩;refine ⟨_,rfl,?_⟩;replace HB:=b1_ hb;clear hb))
 go_ret
 exact ⟨qb_,hB_⟩
def Z61.l0:Nat→ByteArray→Int→Option (Bool)
 | 0,_,_=>none
 | k + 1,x0,x3=>if x3 < (x0.size:Int) then (if 0≤x3 then ((Z15.f (⟨#[84,116,83,115]⟩:ByteArray) (bt x0 x3)).bind fun t623=>(if t623 < 0 then (some false) else (Z61.l0 k x0 (wrap64 (x3 + 1))))) else (none)) else (some (decide ((x0.size:Int)≤40)))
def Z61.f (k:Nat) (a0:ByteArray):Option (Bool):=Z61.l0 k a0 0
theorem Z61.mono_l:∀ k,(∀ y0 y1,LeO (Z61.l0 k y0 y1) (Z61.l0 (k + 1) y0 y1))
 | 0=>fun _ _ r h=>by simp [Z61.l0] at h
 | k + 1=>by
  have ih0:=Z61.mono_l k
  ·intro y0 y1
   unfold Z61.l0
   repeat' first|exact ih0 _ _|exact lo_|refine LeO.ite ?_ ?_|refine LeO.bind ?_ (fun _=>?_)
theorem Z61.mono:∀ a0 k,LeO (Z61.f k a0) (Z61.f (k + 1) a0):=by
 intro a0 k
 have ih0:=Z61.mono_l k
 unfold Z61.f
 repeat' first|exact ih0 _ _|exact lo_|refine LeO.ite ?_ ?_|refine LeO.bind ?_ (fun _=>?_)
set_option maxHeartbeats 8000000 in
set_option maxRecDepth 100000 in
theorem Z61.calls (k:Nat) (a0:ByteArray) (r:Bool) (w:World) (h:Z61.f k a0 = some r) :
  Calls Try.prog 73 #[.string a0] w fun e w'=>e = .returned (.bool r)∧Below w.heap.size w w':=by
 have HB:=A_ (Below.refl w.heap.size w)
 have H:=h
 unfold Z61.f at H
 clear h
 have H':=A_ H
 clear H
 go_enter Try.func73,Try.ntmps73
 go_wp2
 go_loopg [3] k (fun kq v3 w'=>∃ (x3_1:Int),v3 = .int .i64 x3_1∧Aside0 (Z61.l0 kq a0 x3_1 = some r)∧Aside0 (kq≤k)∧Aside0 (Below w.heap.size w w'))
 case atStart=>exact ⟨(0),qc_,H',⟨nA_ _⟩,⟨hB_⟩⟩
 case round =>
  clear H'
  obtain ⟨x3_1,rfl,HA,HK1,HB⟩:=hrel
  cases gk with
  | zero=>exact absurd HA.out (by simp [Z61.l0])
  | succ k1 =>
   have H:=HA.out
   clear HA
   simp only [Z61.l0] at H
   by_cases c2:x3_1 < (a0.size:Int)
   ·rw [if_pos c2] at H
    have c2b0:=oC_ c2
    clear c2
    replace H:=cx_ H;obtain ⟨c3b0,H⟩:=H
    obtain ⟨t623,A5,H⟩:=bi_ H
    by_cases c6:t623 < 0
    ·rw [if_pos c6] at H
     have c6b0:=oC_ c6
     clear c6
     obtain rfl:=Option.some.inj H
     have p4:0≤(x3_1:Int):=oB_ qe_
     have q4:x3_1 < (a0.size:Int):=oB_ qe_
     have hx4:=bt_at a0 x3_1
     replace p4:=eq_true p4
     replace q4:=eq_true q4
     go_wp2_with (first | ((with_reducible refine gA_ (f:=110) rfl ?_);refine gL_ (some 13) Try.func110 #[.string (⟨#[84,116,83,115]⟩:ByteArray),.int .u8 (bt a0 x3_1)] rfl qa_ ?_;(with_reducible refine (Z15.calls (⟨#[84,116,83,115]⟩:ByteArray) (bt a0 x3_1) t623 _ A5.out).mono ?_);rintro e w7 ⟨rfl,hb⟩;refine ⟨_,rfl,?_⟩;replace HB:=b1_ hb;clear hb))
     go_ret
     exact ⟨qb_,hB_⟩
    ·rw [if_neg c6] at H
     have c6b0:=oD_ c6
     clear c6
     have H':=A_ H
     clear H
     have p4:0≤(x3_1:Int):=oB_ qe_
     have q4:x3_1 < (a0.size:Int):=oB_ qe_
     have hx4:=bt_at a0 x3_1
     replace p4:=eq_true p4
     replace q4:=eq_true q4
     go_wp2_with (first | ((with_reducible refine gA_ (f:=110) rfl ?_);refine gL_ (some 13) Try.func110 #[.string (⟨#[84,116,83,115]⟩:ByteArray),.int .u8 (bt a0 x3_1)] rfl qa_ ?_;(with_reducible refine (Z15.calls (⟨#[84,116,83,115]⟩:ByteArray) (bt a0 x3_1) t623 _ A5.out).mono ?_);rintro e w8 ⟨rfl,hb⟩;refine ⟨_,rfl,?_⟩;replace HB:=b1_ hb;clear hb))
     go_roundg k1
     case measure=>have:=HK1.out;omega
     case rel=>exact ⟨(wrap64 (x3_1 + 1)),qc_,H',⟨by have:=HK1.out;omega⟩,⟨hB_⟩⟩
   ·rw [if_neg c2] at H
    have c2b0:=oD_ c2
    clear c2
    obtain rfl:=Option.some.inj H
    go_wp2
    go_ret
    exact ⟨qb_,hB_⟩
def Z17.l0:Nat→ByteArray→List Int→Int→Option (ByteArray)
 | 0,_,_,_=>none
 | k + 1,x0,x3,x4=>if x4 ≥ 0 then (if 0≤x4 then (if x4 < (x0.size:Int) then (if x3.length < 140737488355328 then (Z17.l0 k x0 (x3 ++ [Go.bits .xor .u8 (bt x0 x4) 32]) (wrap64 (x4 - 1))) else (none)) else (none)) else (none)) else (some (strOfNums x3))
def Z17.f (k:Nat) (a0:ByteArray):Option (ByteArray):=(Z61.f k a0).bind fun t1364=>(if t1364 = true then (Z17.l0 k a0 (([]:List Int)) (wrap64 ((a0.size:Int) - 1))) else (some (⟨#[]⟩:ByteArray)))
theorem Z17.mono_l:∀ k,(∀ y0 y1 y2,LeO (Z17.l0 k y0 y1 y2) (Z17.l0 (k + 1) y0 y1 y2))
 | 0=>fun _ _ _ r h=>by simp [Z17.l0] at h
 | k + 1=>by
  have ih0:=Z17.mono_l k
  ·intro y0 y1 y2
   unfold Z17.l0
   repeat' first|exact ih0 _ _ _|exact Z61.mono _ _|exact lo_|refine LeO.ite ?_ ?_|refine LeO.bind ?_ (fun _=>?_)
theorem Z17.mono:∀ a0 k,LeO (Z17.f k a0) (Z17.f (k + 1) a0):=by
 intro a0 k
 have ih0:=Z17.mono_l k
 unfold Z17.f
 repeat' first|exact ih0 _ _ _|exact Z61.mono _ _|exact lo_|refine LeO.ite ?_ ?_|refine LeO.bind ?_ (fun _=>?_)
set_option maxHeartbeats 8000000 in
set_option maxRecDepth 100000 in
theorem Z17.calls (k:Nat) (a0:ByteArray) (r:ByteArray) (w:World) (h:Z17.f k a0 = some r) :
  Calls Try.prog 90 #[.string a0] w fun e w'=>e = .returned (.string r)∧Below w.heap.size w w':=by
 have HB:=A_ (Below.refl w.heap.size w)
 have H:=h
 unfold Z17.f at H
 clear h
 obtain ⟨t1364,A2,H⟩:=bi_ H
 by_cases c3:t1364 = true
 ·subst c3
  rw [if_pos rfl] at H
  obtain ⟨y1365,hy1365⟩:∃ y_:List Int,y_ = (([]:List Int)):=⟨_,rfl⟩
  replace H:(Z17.l0 k a0 y1365 (wrap64 ((a0.size:Int) - 1))) = some r:=by first | (rw [hy1365];exact H) | exact H
  have Ny1365:=A_ hy1365
  clear hy1365
  have H':=A_ H
  clear H
  go_enter Try.func90,Try.ntmps90
  go_wp2_with (first | ((with_reducible refine gA_ (f:=73) rfl ?_);refine gL_ (some 6) Try.func73 #[.string a0] rfl qa_ ?_;(with_reducible refine (Z61.calls k a0 true _ A2.out).mono ?_);rintro e w4 ⟨rfl,hb⟩;refine ⟨_,rfl,?_⟩;replace HB:=b1_ hb;clear hb) | ((with_reducible refine gB_ (N:=8) rfl ?_);refine Kd.R_lit (Kd.int .u8) _ 5 ?hg (N:=8) ?hd (xs:=([]:List Int)) (inner:=[]) (ok:=fun _=>True) (okp:=fun _=>True) ?hr ?hp (fun _ hk=>hk) trivial (Below.refl _ _) (nA_ _) (by simp) ?_;(case hd=>rfl);(case hg=>rfl);(case hr=>first | (go_simp;done) | (go_simp;rfl));(case hp=>exact (Reps.none _ _));intro v1366 w5 ho6 hb hg_ hnew_;clear hg_ hnew_;(first | rw [← Ny1365.out] at ho6 | (simp only [Int.reduceToNat] at ho6;rw [← Ny1365.out] at ho6));have HO1367:=rl_ w ho6;replace HB:=b1_ hb;clear hb ho6))
  go_loopg [3,4] k (fun kq v3 v4 w'=>∃ (x3_1:List Int) (x4_1:Int),v4 = .int .i64 x4_1∧Aside0 (Z17.l0 kq a0 x3_1 x4_1 = some r)∧Aside0 (kq≤k)∧Aside0 (Kd.R (Kd.int .u8) 5 w' w.heap.size (fun _=>True) v3 x3_1)∧Aside0 (Below w.heap.size w w'))
  case atStart=>exact ⟨(y1365),(wrap64 ((a0.size:Int) - 1)),qc_,H',⟨nA_ _⟩,⟨(rr_ HO1367)⟩,⟨hB_⟩⟩
  case round =>
   clear H'
   obtain ⟨x3_1,x4_1,rfl,HA,HK1,HO_3,HB⟩:=hrel
   cases gk with
   | zero=>exact absurd HA.out (by simp [Z17.l0])
   | succ k1 =>
    have H:=HA.out
    clear HA
    simp only [Z17.l0] at H
    by_cases c7:x4_1 ≥ 0
    ·rw [if_pos c7] at H
     have c7b0:decide (0≤x4_1) = true:=oC_ c7
     clear c7
     replace H:=cx_ H;obtain ⟨c8b0,H⟩:=H
     replace H:=cx_ H;obtain ⟨c9b0,H⟩:=H
     have c11:=cp_ H
     replace H:=ca_ H
     have LMc11:=A_ c11
     clear c11
     obtain ⟨y1368,hy1368⟩:∃ y_:List Int,y_ = (x3_1 ++ [Go.bits .xor .u8 (bt a0 x4_1) 32]):=⟨_,rfl⟩
     replace H:(Z17.l0 k1 a0 y1368 (wrap64 (x4_1 - 1))) = some r:=by first | (rw [hy1368];exact H) | exact H
     have Ny1368:=A_ hy1368
     clear hy1368
     have H':=A_ H
     clear H
     have p10:0≤(x4_1:Int):=oB_ qe_
     have q10:x4_1 < (a0.size:Int):=oB_ qe_
     have hx10:=bt_at a0 x4_1
     replace p10:=eq_true p10
     replace q10:=eq_true q10
     go_wp2_with (first | ((with_reducible refine gate_builtin (b:=.append) (xs:=#[.tmp 16,.tmp 21]) rfl ?_);at_builtin;refine Kd.R_append (Kd.int .u8) (w0:=w) w.heap.size rfl (.tmp 16) (.tmp 21) 22 5 (.int .u8 0) 1 rfl Try.underlying22 info5 rfl (by decide) (by omega) u3 x3_1 (Go.bits .xor .u8 (bt a0 x4_1) 32) [.int .u8 (Go.bits .xor .u8 (bt a0 x4_1) 32)] (fun _=>True) (fun _=>False) rfl rfl ?aP (fun _ hk=>hk.elim) ?aF ?aO ?aB ?aS ?aL ?_;(case aP=>exact rfl);(case aB=>exact hB_);(case aF=>exact (fun _ _=>trivial));(case aO=>exact (rr_ HO_3));(case aS=>exact (bF_ hB_));(case aL=>have:=LMc11.out;omega);intro v1369 w12 ho hb hg hat;rw [← Ny1368.out] at ho;replace HB:=A_ hb;have HO1370:=A_ ho;clear HO_3;clear ho hb hg hat))
     go_roundg k1
     case measure=>have:=HK1.out;omega
     case rel=>exact ⟨(y1368),(wrap64 (x4_1 - 1)),qc_,H',⟨by have:=HK1.out;omega⟩,⟨(rr_ HO1370)⟩,⟨hB_⟩⟩
    ·rw [if_neg c7] at H
     have c7b0:decide (0≤x4_1) = false:=oD_ c7
     clear c7
     obtain rfl:=Option.some.inj H
     have hcv13:=own_string (P:=Try.prog) Try.underlying22 Try.underlying5 Try.underlying9 (Kd.own_of_R HO_3.out)
     go_wp2
     go_ret
     exact ⟨qb_,hB_⟩
 ·replace c3:=Bool.eq_false_iff.mpr c3
  subst c3
  have H1:(some (⟨#[]⟩:ByteArray)) = some r:=by rw [if_neg (show ¬ (false = true) by decide)] at H;exact H
  clear H
  have H:=H1
  clear H1
  obtain rfl:=Option.some.inj H
  go_enter Try.func90,Try.ntmps90
  go_wp2_with (first | ((with_reducible refine gA_ (f:=73) rfl ?_);refine gL_ (some 6) Try.func73 #[.string a0] rfl qa_ ?_;(with_reducible refine (Z61.calls k a0 false _ A2.out).mono ?_);rintro e w14 ⟨rfl,hb⟩;refine ⟨_,rfl,?_⟩;replace HB:=b1_ hb;clear hb))
  go_ret
  exact ⟨qb_,hB_⟩
end Go.Proofs.Ytcggfjpnfodbaaa.A
end
section
namespace Go.Proofs.Ytcggfjpnfodbaaa.A
open Go.RowKit Go.Proofs.YtcggfjpnfodbaaaW.PrintWords Go.Proofs.YtcggfjpnfodbaaaW.PrintLast Go.Proofs.YtcggfjpnfodbaaaW.PrintMore
attribute [local go_sem] max2_int min2_int max_two min_two max_three min_three max_four min_four
set_option linter.unusedVariables false
set_option linter.unusedSimpArgs false
def Z5.row (s:M.Orb) (c:Int):List Int:=if c = 84 then s.T else s.S
def Z5.nx (s:M.Orb) (i c:Int):Int:=rd (Z5.row s c) i
def Z5.okk (s:M.Orb) (i c:Int):Bool:=decide (0≤i∧i < ((Z5.row s c).length:Int)∧0≤Z5.nx s i c∧Z5.nx s i c < (s.F.length:Int)∧Z5.nx s i c < (s.B.length:Int))
def Z5.skp (s:M.Orb) (i c:Int):Bool:=(rd s.F (Z5.nx s i c) == i) && (rd s.B (Z5.nx s i c) == c)
theorem Z5.okk_out {s:M.Orb} {i c:Int} (h:Z5.okk s i c = true):0≤i∧i < ((Z5.row s c).length:Int)∧0≤Z5.nx s i c∧Z5.nx s i c < (s.F.length:Int)∧Z5.nx s i c < (s.B.length:Int):=oB_ h
theorem Z5.skp_yes {s:M.Orb} {i c:Int} (h:Z5.skp s i c = true):(rd s.F (Z5.nx s i c) == i) = true∧(rd s.B (Z5.nx s i c) == c) = true:=Bool.and_eq_true_iff.1 h
theorem Z5.skp_no {s:M.Orb} {i c:Int} (h:¬ Z5.skp s i c = true):(rd s.F (Z5.nx s i c) == i) = false ∨ ((rd s.F (Z5.nx s i c) == i) = true∧(rd s.B (Z5.nx s i c) == c) = false):=by
 unfold Z5.skp at h
 generalize (rd s.F (Z5.nx s i c) == i) = a at h ⊢
 generalize (rd s.B (Z5.nx s i c) == c) = b at h ⊢
 revert h
 cases a <;> cases b <;> decide
theorem Z5.let2 {y:List Int} {x:Int} (hy:y = [84,83]) (h0:0≤x) (h1:x < (y.length:Int)):rd y x = 84 ∨ rd y x = 83:=by
 subst hy
 have h2:x < 2:=h1
 have h3:x = 0 ∨ x = 1:=by omega
 rcases h3 with rfl | rfl
 ·exact .inl rfl
 ·exact .inr rfl
theorem Z5.lookT {w:World} {b n:Nat} {vT vS:Value} (hb:w.heap[b]? = some (M.mapO n vT vS)):(Instr.lookup 67 (.map (some b)) (.int .u8 84) false).run Try.prog w = .ok (M.mapV n 84 vT vS) w:=by
 by_cases hn:n = 0 ∨ n = 1 ∨ n = 2
 ·exact M.look_T hb hn
 ·obtain ⟨m,rfl⟩:∃ m,n = m + 2:=⟨n - 2,by omega⟩
  have e:M.mapO (m + 2) vT vS = .map #[⟨.int .u8 84,vT,0⟩,⟨.int .u8 83,vS,1⟩] (m + 2):=by
   unfold M.mapO
   congr 1
   exact Array.extract_eq_self_of_le (Nat.le_add_left 2 m)
  have e2:M.mapV (m + 2) 84 vT vS = vT:=by
   unfold M.mapV
   rw [if_pos rfl,if_pos (by omega)]
  rw [e] at hb
  rw [e2]
  exact M.map_look hb 84 (some (0,vT)) rfl
theorem Z5.lookS {w:World} {b n:Nat} {vT vS:Value} (hb:w.heap[b]? = some (M.mapO n vT vS)):(Instr.lookup 67 (.map (some b)) (.int .u8 83) false).run Try.prog w = .ok (M.mapV n 83 vT vS) w:=by
 by_cases hn:n = 0 ∨ n = 1 ∨ n = 2
 ·exact M.look_S hb hn
 ·obtain ⟨m,rfl⟩:∃ m,n = m + 2:=⟨n - 2,by omega⟩
  have e:M.mapO (m + 2) vT vS = .map #[⟨.int .u8 84,vT,0⟩,⟨.int .u8 83,vS,1⟩] (m + 2):=by
   unfold M.mapO
   congr 1
   exact Array.extract_eq_self_of_le (Nat.le_add_left 2 m)
  have e2:M.mapV (m + 2) 83 vT vS = vS:=by
   unfold M.mapV
   rw [if_neg (by decide),if_pos (by omega)]
  rw [e] at hb
  rw [e2]
  exact M.map_look hb 83 (some (1,vS)) rfl
theorem Z5.look {base:Nat} {col:Nat→Nat} {w:World} {gO gM n:Nat} {vL vW vF vB vT vS:Value} {s:M.Orb} (h:M.OrbH base col w gO gM n vL vW vF vB vT vS s) {c:Int} (hc:c = 84 ∨ c = 83) :
  ∃ A cc,Kd.R (Kd.int .i64) 3 w base (fun _=>True) (.slice A (Z5.row s c).length cc) (Z5.row s c)∧(Instr.lookup 67 (.map (some gM)) (.int .u8 c) false).run Try.prog w = .ok (.slice A (Z5.row s c).length cc) w:=by
 rcases hc with rfl | rfl
 ·obtain ⟨A,cc,e⟩:=Kd.R_slice h.hT
  subst e
  refine ⟨A,cc,Kd.R_mono h.hT (fun _ _=>trivial),?_⟩
  have:=Z5.lookT h.hM
  rw [h.look.1] at this
  exact this
 ·obtain ⟨A,cc,e⟩:=Kd.R_slice h.hS
  subst e
  refine ⟨A,cc,Kd.R_mono h.hS (fun _ _=>trivial),?_⟩
  have:=Z5.lookS h.hM
  rw [h.look.2] at this
  exact this
mutual
def Z5.l0:Nat→List ByteArray→M.Orb→Int→Int→Option (List ByteArray × Bool)
 | 0,_,_,_,_=>none
 | k + 1,x6,x8,x25,x26=>if x26 < x25 then ((some (([84,83]:List Int):List Int)).bind fun y1382=>(Z5.l1 k x6 x26 x8 x25 x26 y1382 (y1382.length:Int) 0)) else (some (x6,true))
def Z5.l1:Nat→List ByteArray→Int→M.Orb→Int→Int→List Int→Int→Int→Option (List ByteArray × Bool)
 | 0,_,_,_,_,_,_,_,_=>none
 | k + 1,x6,x7,x8,x25,x26,x29,x30,x31=>if x31 < x30 then (if 0≤x31∧Z5.okk x8 x7 (rd x29 x31) = true then (if x31 < (x29.length:Int) then (if Z5.skp x8 x7 (rd x29 x31) = true then (Z5.l1 k x6 x7 x8 x25 x26 x29 x30 (wrap64 (x31 + 1))) else (if 0≤(Z5.nx x8 x7 (rd x29 x31)) then (if (Z5.nx x8 x7 (rd x29 x31)) < (x8.W.length:Int) then (if 0≤x7 then (if x7 < (x8.W.length:Int) then ((some (([rd x29 x31]:List Int):List Int)).bind fun y1388=>(if (rdOf ByteArray.empty x8.W x7).size + (strOfNums y1388).size≤9223372036854775807 then ((Z17.f k (rdOf ByteArray.empty x8.W (Z5.nx x8 x7 (rd x29 x31)))).bind fun t1391=>(if ((rdOf ByteArray.empty x8.W x7) ++ (strOfNums y1388)).size + t1391.size≤9223372036854775807 then ((Z61.f k (rdOf ByteArray.empty x8.W (Z5.nx x8 x7 (rd x29 x31)))).bind fun t1392=>(if t1392 = true then ((Z61.f k (rdOf ByteArray.empty x8.W x7)).bind fun t1394=>(if t1394 = true then ((Z61.f k (((rdOf ByteArray.empty x8.W x7) ++ (strOfNums y1388)) ++ t1391)).bind fun t1395=>(if t1395 = true then (if x6.length < 8796093022208 then (Z5.l1 k (x6 ++ [((rdOf ByteArray.empty x8.W x7) ++ (strOfNums y1388)) ++ t1391]) x7 x8 x25 x26 x29 x30 (wrap64 (x31 + 1))) else (none)) else (some (([]:List ByteArray),false)))) else (some (([]:List ByteArray),false)))) else (some (([]:List ByteArray),false)))) else (none))) else (none))) else (none)) else (none)) else (none)) else (none))) else (none)) else (none)) else (Z5.l0 k x6 x8 x25 (wrap64 (x26 + 1)))
end
def Z5.f (k:Nat) (l0_0:List Int) (l0_1:List Int):Option (List ByteArray × Bool):=(M.orbitO k l0_0 l0_1).bind fun z=>match z with | none=>some (([]:List ByteArray),false) | some s=>Z5.l0 k (([]:List ByteArray)) s (s.L.length:Int) 0
theorem Z5.mono_l:∀ k,(∀ y0 y1 y2 y3,LeO (Z5.l0 k y0 y1 y2 y3) (Z5.l0 (k + 1) y0 y1 y2 y3))∧(∀ y0 y1 y2 y3 y4 y5 y6 y7,LeO (Z5.l1 k y0 y1 y2 y3 y4 y5 y6 y7) (Z5.l1 (k + 1) y0 y1 y2 y3 y4 y5 y6 y7))
 | 0=>⟨fun _ _ _ _ r h=>by simp [Z5.l0] at h,fun _ _ _ _ _ _ _ _ r h=>by simp [Z5.l1] at h⟩
 | k + 1=>by
  obtain ⟨ih0,ih1⟩:=Z5.mono_l k
  refine ⟨?_,?_⟩
  ·intro y0 y1 y2 y3
   unfold Z5.l0
   repeat' first|exact ih0 _ _ _ _|exact ih1 _ _ _ _ _ _ _ _|exact Z17.mono _ _|exact Z61.mono _ _|exact Z54.mono _ _ _|exact lo_|refine LeO.ite ?_ ?_|refine LeO.bind ?_ (fun _=>?_)
  ·intro y0 y1 y2 y3 y4 y5 y6 y7
   unfold Z5.l1
   repeat' first|exact ih0 _ _ _ _|exact ih1 _ _ _ _ _ _ _ _|exact Z17.mono _ _|exact Z61.mono _ _|exact Z54.mono _ _ _|exact lo_|refine LeO.ite ?_ ?_|refine LeO.bind ?_ (fun _=>?_)
theorem Z5.mono:∀ a0 a1 k,LeO (Z5.f k a0 a1) (Z5.f (k + 1) a0 a1):=by
 intro a0 a1 k
 unfold Z5.f
 refine LeO.bind (M.orbitO_mono _ _ _) (fun z=>?_)
 cases z with
 | none=>exact LeO.refl _
 | some s=>exact (Z5.mono_l k).1 _ _ _ _
def Z5.T14:Bool × List (List Nat × List Nat):=(true,[([],[]),([0],[0]),([1],[1]),([2],[2]),([],[]),([3,4],[3,4]),([5],[5]),([],[]),([7],[7]),([8],[8]),([6,9],[6,9]),([],[]),([11],[11]),([10,12],[10,12]),([13,12,0,1,2,3,4,5,6,7,8,9,10,11,12,13],[13])])
def Z5.B14:List Nat:=[0,1,3,7,0,31,63,0,128,384,1023,0,2048,8191,16383]
theorem Z5.tab14:rtab .any (opsOf Try.f49 14) = Z5.T14:=by kernel_rfl
theorem Z5.bits14:waitsOk Z5.T14.2 Z5.B14 = true:=by kernel_rfl
set_option maxHeartbeats 8000000 in
set_option maxRecDepth 100000 in
theorem Z5.calls (k:Nat) (A0_0:Option Addr) (c0_0:Nat) (l0_0:List Int) (A0_1:Option Addr) (c0_1:Nat) (l0_1:List Int) (r1:List ByteArray) (r2:Bool) (w:World) (hr0_0:Kd.C (Kd.int .i64) w A0_0 l0_0.length l0_0) (hc0_0:l0_0.length≤c0_0) (hr0_1:Kd.C (Kd.int .i64) w A0_1 l0_1.length l0_1) (hc0_1:l0_1.length≤c0_1) (h:Z5.f k l0_0 l0_1 = some (r1,r2)) :
  Calls Try.prog 49 #[.agg #[.slice A0_0 l0_0.length c0_0,.slice A0_1 l0_1.length c0_1]] w fun e w'=>∃ v0_:Value,e = .returned (.tuple #[v0_,.bool r2])∧Kd.R Kd.string 9 w' w.heap.size (fun _=>True) v0_ r1∧Below w.heap.size w w':=by
 have hu25:=Try.underlying25
 have HR0_0:=A_ hr0_0
 have HC0_0:=A_ hc0_0
 clear hr0_0 hc0_0
 have HR0_1:=A_ hr0_1
 have HC0_1:=A_ hc0_1
 clear hr0_1 hc0_1
 have HB:=A_ (Below.refl w.heap.size w)
 have H:=h
 unfold Z5.f at H
 clear h
 obtain ⟨z,AZ,H⟩:=bi_ H
 cases z with
 | none =>
  obtain ⟨rfl,rfl⟩:=Prod.mk.inj (Option.some.inj H)
  go_enter Try.func49,Try.ntmps49
  go_wp2_with (first | ((with_reducible refine gB_ (N:=1) rfl ?_);refine bx_ 1 #[.slice A0_0 l0_0.length c0_0,.slice A0_1 l0_1.length c0_1] 25 ?_;intro gs hg wgs hbox hb;have Bgs:=A_ hbox;replace HB:=b1_ hb;clear hb hbox hg;have hczgs0:=cz0_ Bgs;have hczgs1:=cz1_ Bgs;have hfzgs0:=kD_ Bgs.out 0;have hfzgs1:=kD_ Bgs.out 1) | ((with_reducible refine gA_ (f:=59) rfl ?_);refine gL_ (some 15) Try.func59 #[.agg #[.slice A0_0 l0_0.length c0_0,.slice A0_1 l0_1.length c0_1]] rfl qa_ ?_;(with_reducible refine (M.orbit_calls k _ _ l0_0 _ _ l0_1 none _ (cb_ HR0_0) HC0_0.out (cb_ HR0_1) HC0_1.out AZ.out).mono ?_);rintro e wz ⟨rfl,hb⟩;refine ⟨_,rfl,?_⟩;replace HB:=b1_ hb;clear hb))
  go_ret2
  exact ⟨_,qb_,Kd.R_nil _ _ _ _ _,hB_⟩
 | some s =>
  dsimp only at H
  obtain ⟨y1379,hy1379⟩:∃ y_:List ByteArray,y_ = (([]:List ByteArray)):=⟨_,rfl⟩
  rw [← hy1379] at H
  have Ny1379:=A_ hy1379
  clear hy1379
  have H':=A_ H
  clear H
  go_enter Try.func49,Try.ntmps49
  go_upto_region 4 with (first | ((with_reducible refine gB_ (N:=1) rfl ?_);refine bx_ 1 #[.slice A0_0 l0_0.length c0_0,.slice A0_1 l0_1.length c0_1] 25 ?_;intro gs hg wgs hbox hb;have Bgs:=A_ hbox;replace HB:=b1_ hb;clear hb hbox hg;have hczgs0:=cz0_ Bgs;have hczgs1:=cz1_ Bgs;have hfzgs0:=kD_ Bgs.out 0;have hfzgs1:=kD_ Bgs.out 1) | ((with_reducible refine gA_ (f:=59) rfl ?_);refine gL_ (some 15) Try.func59 #[.agg #[.slice A0_0 l0_0.length c0_0,.slice A0_1 l0_1.length c0_1]] rfl qa_ ?_;(with_reducible refine (M.orbit_calls k _ _ l0_0 _ _ l0_1 (some s) _ (cb_ HR0_0) HC0_0.out (cb_ HR0_1) HC0_1.out AZ.out).mono ?_);rintro e wz ⟨gO,gM,nm_,col,vL,vW,vF,vB,vT,vS,rfl,hh,hb⟩;refine ⟨_,rfl,?_⟩;have ZZ:=A_ (bF_ hB_:w.heap.size≤_);replace Bgs:=bb_ Bgs hb;replace HB:=b1_ hb;have HH:=A_ hh;clear hb hh;obtain ⟨AL,cL,eL⟩:=Kd.S_slice HH.out.hL;subst eL;have hco0:wz.cell? ⟨gO,0,none⟩ = some (.slice AL s.L.length cL):=(blk_cell HH.out.hO 0).trans rfl;have hfo0:=kD_ HH.out.hO 0))
  have HB0:=HB
  replace HB:=A_ (Below.refl wz.heap.size wz)
  have BK1371:=Bgs
  have HO1377:Aside0 (Kd.R Kd.string 9 wz w.heap.size (fun _=>True) vW s.W):=⟨rE_ (Kd.R_mono HH.out.hW (fun _ _=>trivial)) ZZ.out⟩
  clear hco0 hfo0
  go_upto_region 5 with (first | ((with_reducible refine gB_ (N:=20) rfl ?_);refine Kd.R_lit Kd.string _ 9 ?hg (N:=20) ?hd (xs:=([]:List ByteArray)) (inner:=[]) (ok:=fun _=>True) (okp:=fun _=>True) ?hr ?hp (fun _ hk=>hk) trivial (Below.refl _ _) (nA_ _) (by simp) ?_;(case hd=>rfl);(case hg=>rfl);(case hr=>first | (go_simp;done) | (go_simp;rfl));(case hp=>exact (Reps.none _ _));intro v1380 w7 ho8 hb hg_ hnew_;clear hg_ hnew_;(first | rw [← Ny1379.out] at ho8 | (simp only [Int.reduceToNat] at ho8;rw [← Ny1379.out] at ho8));have HO1381:=A_ (rE_ (Kd.R_new' ho8 (Kd.R_lt (rr_ HO1377))) (bF_ hB_));replace HO1377:=A_ (Kd.R_elder' (rr_ HO1377) (Kd.R_base ho8) hb);replace BK1371:=bb_ BK1371 hb;replace HB:=b1_ hb;clear hb ho8))
  have hHr:=HH.out.below HB.out
  have hcp0:w7.cell? ⟨gO,0,none⟩ = some (.slice AL s.L.length cL):=(blk_cell hHr.hO 0).trans rfl
  have hfp0:=kD_ hHr.hO 0
  clear hHr
  go_wp2
  go_loopg [6,26] k (fun kq v6 v26 w'=>∃ (x6_1:List ByteArray) (x26_1:Int),v26 = .int .i64 x26_1∧Aside0 (Z5.l0 kq x6_1 s (s.L.length:Int) x26_1 = some (r1,r2))∧Aside0 (kq≤k)∧Aside0 (Kd.R Kd.string 9 w' wz.heap.size (fun k_=>some k_≠(vW:Value).ownBlock) v6 x6_1)∧Aside0 (Kd.R Kd.string 9 w' w.heap.size (fun k_=>some k_≠(v6:Value).ownBlock) vW s.W)∧Aside0 (w'.heap[gs]? = some (.cells #[(.slice A0_0 l0_0.length c0_0),(.slice A0_1 l0_1.length c0_1)] 25 (0,0)))∧Aside0 (Below wz.heap.size wz w'))
  case atStart=>exact ⟨(y1379),(0),qc_,H',⟨nA_ _⟩,⟨(rw_ (Kd.R_mono HO1381.out (fun _ hk=>hk.2)))⟩,⟨(rw_ (Kd.R_mono HO1377.out (fun _ hk=>hk.2)))⟩,⟨(kk_ BK1371)⟩,⟨hB_⟩⟩
  case round =>
   clear H'
   obtain ⟨x6_1,x26_1,rfl,HA,HK1,HO_6,HO_8,BK1371,HB⟩:=hrel
   cases gk with
   | zero=>exact absurd HA.out (by simp [Z5.l0])
   | succ k1 =>
    have H:=HA.out
    clear HA
    simp only [Z5.l0] at H
    by_cases c10:x26_1 < (s.L.length:Int)
    ·rw [if_pos c10] at H
     have c10b0:=oC_ c10
     clear c10
     obtain ⟨y1382,hy1382⟩:∃ y_:List Int,y_ = (([84,83]:List Int)):=⟨_,rfl⟩
     replace H:(Z5.l1 k1 x6_1 x26_1 s (s.L.length:Int) x26_1 y1382 (y1382.length:Int) 0) = some (r1,r2):=by first | (rw [hy1382];exact H) | exact H
     have Ny1382:=A_ hy1382
     clear hy1382
     have H':=A_ H
     clear H
     go_wp2_with (first | ((with_reducible refine gB_ (N:=29) rfl ?_);refine Kd.R_lit (Kd.int .u8) _ 5 ?hg (N:=29) ?hd (xs:=([84,83]:List Int)) (inner:=[.int .u8 84,.int .u8 83]) (ok:=fun _=>True) (okp:=fun _=>True) ?hr ?hp (fun _ hk=>hk) trivial (Below.refl _ _) (nA_ _) (by simp) ?_;(case hd=>rfl);(case hg=>rfl);(case hr=>first | (go_simp;done) | (go_simp;rfl));(case hp=>exact (Reps.one (show Kd.M (Kd.int .u8) _ _ _ 84 [.int .u8 84] from rfl) (Reps.one (show Kd.M (Kd.int .u8) _ _ _ 83 [.int .u8 83] from rfl) (Reps.none _ _))));intro v1383 w11 ho12 hb hg_ hnew_;clear hg_ hnew_;(first | rw [← Ny1382.out] at ho12 | (simp only [Int.reduceToNat] at ho12;rw [← Ny1382.out] at ho12));replace HO_6:=rb_ HO_6 hb;replace HO_8:=rb_ HO_8 hb;have HO1384:=rl_ wz ho12;replace BK1371:=bb_ BK1371 hb;replace HB:=b1_ hb;clear hb ho12;obtain ⟨Ao13,co13,eo13⟩:=Kd.R_slice HO1384.out;subst eo13))
     go_loopg [6,31] k1 (fun kq v6 v31 w'=>∃ (x6_2:List ByteArray) (x31_2:Int),v31 = .int .i64 x31_2∧Aside0 (Z5.l1 kq x6_2 x26_1 s (s.L.length:Int) x26_1 y1382 (y1382.length:Int) x31_2 = some (r1,r2))∧Aside0 (kq≤k1)∧Aside0 (Kd.R Kd.string 9 w' wz.heap.size (fun k_=>some k_≠(vW:Value).ownBlock) v6 x6_2)∧Aside0 (Kd.R Kd.string 9 w' w.heap.size (fun k_=>some k_≠(v6:Value).ownBlock) vW s.W)∧Aside0 (Kd.R (Kd.int .u8) 5 w' wz.heap.size (fun _=>True) (.slice Ao13 y1382.length co13) y1382)∧Aside0 (w'.heap[gs]? = some (.cells #[(.slice A0_0 l0_0.length c0_0),(.slice A0_1 l0_1.length c0_1)] 25 (0,0)))∧Aside0 (Below wz.heap.size wz w'))
     case atStart=>exact ⟨(x6_1),(0),qc_,H',⟨nA_ _⟩,⟨(rr_ HO_6)⟩,⟨(rr_ HO_8)⟩,⟨(rr_ HO1384)⟩,⟨(kk_ BK1371)⟩,⟨hB_⟩⟩
     case round =>
      clear H'
      obtain ⟨x6_2,x31_2,rfl,HA,HK2,HO_6,HO_8,HO_29,BK1371,HB⟩:=hrel
      cases gk with
      | zero=>exact absurd HA.out (by simp [Z5.l1])
      | succ k2 =>
       have H:=HA.out
       clear HA
       simp only [Z5.l1] at H
       by_cases c14:x31_2 < (y1382.length:Int)
       ·rw [if_pos c14] at H
        have c14b0:=oC_ c14
        clear c14
        have c15:=cp_ H
        replace H:=ca_ H
        have OKC:=A_ c15.2
        have c15b0:=oC_ c15.1
        clear c15
        replace H:=cx_ H;obtain ⟨c16b0,H⟩:=H
        by_cases c17:Z5.skp s x26_1 (rd y1382 x31_2) = true
        ·rw [if_pos c17] at H
         have SKP:=A_ c17
         clear c17
         have H':=A_ H
         clear H
         have p1385:0≤(x31_2:Int):=oB_ qe_
         have q1385:x31_2 < (y1382.length:Int):=oB_ qe_
         have LET:=A_ (Z5.let2 Ny1382.out p1385 q1385)
         obtain ⟨ad1385,e1385,hx1385_0⟩:=Kd.at_int (Kd.R_reads' HO_29.out).2.2 x31_2 p1385 q1385
         cases e1385
         replace p1385:=eq_true p1385
         replace q1385:=eq_true q1385
         obtain ⟨ji18,hji18⟩:∃ j_:Int,(Z5.nx s x26_1 (rd y1382 x31_2)) = j_:=⟨_,rfl⟩
         have hsk:=Z5.skp_yes SKP.out
         rw [hji18] at hsk
         have okv:=Z5.okk_out OKC.out
         rw [hji18] at okv
         obtain ⟨ov0,ov1,ov2,ov3,ov4⟩:=okv
         have HHr:=HH.out.below HB.out
         obtain ⟨AR,cR,hRR,hlk⟩:=Z5.look HHr LET.out
         obtain ⟨adR,eR,hxR⟩:=Kd.at_int (Kd.R_reads' hRR).2.2 x26_1 ov0 ov1
         cases eR
         rw [show rd (Z5.row s (rd y1382 x31_2)) x26_1 = ji18 from hji18] at hxR
         obtain ⟨AF,cF,eF⟩:=Kd.R_slice HHr.hF
         subst eF
         obtain ⟨adF,eF,hxF⟩:=Kd.at_int (Kd.R_reads' HHr.hF).2.2 ji18 ov2 ov3
         cases eF
         obtain ⟨AB,cB,eB⟩:=Kd.R_slice HHr.hB
         subst eB
         obtain ⟨adB,eB,hxB⟩:=Kd.at_int (Kd.R_reads' HHr.hB).2.2 ji18 ov2 ov4
         cases eB
         have hco1:wr.cell? ⟨gO,1,none⟩ = some vW:=(blk_cell HHr.hO 1).trans rfl
         have hfo1:=kD_ HHr.hO 1
         have hco2:wr.cell? ⟨gO,2,none⟩ = some (.slice (some adF) s.F.length cF):=(blk_cell HHr.hO 2).trans rfl
         have hfo2:=kD_ HHr.hO 2
         have hco3:wr.cell? ⟨gO,3,none⟩ = some (.slice (some adB) s.B.length cB):=(blk_cell HHr.hO 3).trans rfl
         have hfo3:=kD_ HHr.hO 3
         have hco4:wr.cell? ⟨gO,4,none⟩ = some (.map (some gM)):=(blk_cell HHr.hO 4).trans rfl
         have hfo4:=kD_ HHr.hO 4
         clear HHr hRR
         have ov1d:=oC_ ov1
         have ov3d:=oC_ ov3
         have ov4d:=oC_ ov4
         replace ov0:=eq_true ov0
         replace ov1:=eq_true ov1
         replace ov2:=eq_true ov2
         replace ov3:=eq_true ov3
         replace ov4:=eq_true ov4
         obtain ⟨s1,s2⟩:=hsk
         go_wp2
         go_roundg k2
         case measure=>have:=HK1.out;have:=HK2.out;omega
         case rel=>exact ⟨(x6_2),(wrap64 (x31_2 + 1)),qc_,H',⟨by have:=HK1.out;have:=HK2.out;omega⟩,⟨(rr_ HO_6)⟩,⟨(rr_ HO_8)⟩,⟨(rr_ HO_29)⟩,⟨(kk_ BK1371)⟩,⟨hB_⟩⟩
        ·rw [if_neg c17] at H
         obtain ⟨ji18,hji18⟩:∃ j_:Int,(Z5.nx s x26_1 (rd y1382 x31_2)) = j_:=⟨_,rfl⟩
         replace H:(if 0≤(ji18) then (if (ji18) < (s.W.length:Int) then (if 0≤x26_1 then (if x26_1 < (s.W.length:Int) then ((some (([rd y1382 x31_2]:List Int):List Int)).bind fun y1388=>(if (rdOf ByteArray.empty s.W x26_1).size + (strOfNums y1388).size≤9223372036854775807 then ((Z17.f k2 (rdOf ByteArray.empty s.W (ji18))).bind fun t1391=>(if ((rdOf ByteArray.empty s.W x26_1) ++ (strOfNums y1388)).size + t1391.size≤9223372036854775807 then ((Z61.f k2 (rdOf ByteArray.empty s.W (ji18))).bind fun t1392=>(if t1392 = true then ((Z61.f k2 (rdOf ByteArray.empty s.W x26_1)).bind fun t1394=>(if t1394 = true then ((Z61.f k2 (((rdOf ByteArray.empty s.W x26_1) ++ (strOfNums y1388)) ++ t1391)).bind fun t1395=>(if t1395 = true then (if x6_2.length < 8796093022208 then (Z5.l1 k2 (x6_2 ++ [((rdOf ByteArray.empty s.W x26_1) ++ (strOfNums y1388)) ++ t1391]) x26_1 s (s.L.length:Int) x26_1 y1382 (y1382.length:Int) (wrap64 (x31_2 + 1))) else (none)) else (some (([]:List ByteArray),false)))) else (some (([]:List ByteArray),false)))) else (some (([]:List ByteArray),false)))) else (none))) else (none))) else (none)) else (none)) else (none)) else (none)) = some (r1,r2):=by first | (rw [hji18] at H;exact H) | (simp only [hji18] at H ⊢;exact H)
         replace H:=cx_ H;obtain ⟨c19b0,H⟩:=H
         replace H:=cx_ H;obtain ⟨c20b0,H⟩:=H
         replace H:=cx_ H;obtain ⟨c21b0,H⟩:=H
         replace H:=cx_ H;obtain ⟨c22b0,H⟩:=H
         obtain ⟨y1388,hy1388⟩:∃ y_:List Int,y_ = (([rd y1382 x31_2]:List Int)):=⟨_,rfl⟩
         replace H:(if (rdOf ByteArray.empty s.W x26_1).size + (strOfNums y1388).size≤9223372036854775807 then ((Z17.f k2 (rdOf ByteArray.empty s.W (ji18))).bind fun t1391=>(if ((rdOf ByteArray.empty s.W x26_1) ++ (strOfNums y1388)).size + t1391.size≤9223372036854775807 then ((Z61.f k2 (rdOf ByteArray.empty s.W (ji18))).bind fun t1392=>(if t1392 = true then ((Z61.f k2 (rdOf ByteArray.empty s.W x26_1)).bind fun t1394=>(if t1394 = true then ((Z61.f k2 (((rdOf ByteArray.empty s.W x26_1) ++ (strOfNums y1388)) ++ t1391)).bind fun t1395=>(if t1395 = true then (if x6_2.length < 8796093022208 then (Z5.l1 k2 (x6_2 ++ [((rdOf ByteArray.empty s.W x26_1) ++ (strOfNums y1388)) ++ t1391]) x26_1 s (s.L.length:Int) x26_1 y1382 (y1382.length:Int) (wrap64 (x31_2 + 1))) else (none)) else (some (([]:List ByteArray),false)))) else (some (([]:List ByteArray),false)))) else (some (([]:List ByteArray),false)))) else (none))) else (none)) = some (r1,r2):=by first | (rw [hy1388];exact H) | exact H
         have Ny1388:=A_ hy1388
         clear hy1388
         have c23:=cp_ H
         replace H:=ca_ H
         have c23b0:=eq_true c23
         have c23b1:=oC_ c23
         try have c23b2:(9223372036854775807 < (rdOf ByteArray.empty s.W x26_1).size + (strOfNums y1388).size) = False:=eq_false (Nat.not_lt.2 c23)
         obtain ⟨t1391,A24,H⟩:=bi_ H
         have c25:=cp_ H
         replace H:=ca_ H
         have c25b0:=eq_true c25
         have c25b1:=oC_ c25
         try have c25b2:(9223372036854775807 < ((rdOf ByteArray.empty s.W x26_1) ++ (strOfNums y1388)).size + t1391.size) = False:=eq_false (Nat.not_lt.2 c25)
         have c25b3:(9223372036854775807 < (rdOf ByteArray.empty s.W x26_1).size + (strOfNums y1388).size + t1391.size) = False:=by rw [← ByteArray.size_append];exact c25b2
         obtain ⟨t1392,A26,H⟩:=bi_ H
         by_cases c27:t1392 = true
         ·subst c27
          rw [if_pos rfl] at H
          obtain ⟨t1394,A28,H⟩:=bi_ H
          by_cases c29:t1394 = true
          ·subst c29
           rw [if_pos rfl] at H
           obtain ⟨t1395,A30,H⟩:=bi_ H
           by_cases c31:t1395 = true
           ·subst c31
            rw [if_pos rfl] at H
            have c32:=cp_ H
            replace H:=ca_ H
            have LMc32:=A_ c32
            clear c32
            obtain ⟨y1396,hy1396⟩:∃ y_:List ByteArray,y_ = (x6_2 ++ [((rdOf ByteArray.empty s.W x26_1) ++ (strOfNums y1388)) ++ t1391]):=⟨_,rfl⟩
            replace H:(Z5.l1 k2 y1396 x26_1 s (s.L.length:Int) x26_1 y1382 (y1382.length:Int) (wrap64 (x31_2 + 1))) = some (r1,r2):=by first | (rw [hy1396];exact H) | exact H
            have Ny1396:=A_ hy1396
            clear hy1396
            have H':=A_ H
            clear H
            have p1385:0≤(x31_2:Int):=oB_ qe_
            have q1385:x31_2 < (y1382.length:Int):=oB_ qe_
            have LET:=A_ (Z5.let2 Ny1382.out p1385 q1385)
            obtain ⟨ad1385,e1385,hx1385_0⟩:=Kd.at_int (Kd.R_reads' HO_29.out).2.2 x31_2 p1385 q1385
            cases e1385
            replace p1385:=eq_true p1385
            replace q1385:=eq_true q1385
            have hsk:=Z5.skp_no c17
            rw [hji18] at hsk
            have okv:=Z5.okk_out OKC.out
            rw [hji18] at okv
            obtain ⟨ov0,ov1,ov2,ov3,ov4⟩:=okv
            have HHr:=HH.out.below HB.out
            obtain ⟨AR,cR,hRR,hlk⟩:=Z5.look HHr LET.out
            obtain ⟨adR,eR,hxR⟩:=Kd.at_int (Kd.R_reads' hRR).2.2 x26_1 ov0 ov1
            cases eR
            rw [show rd (Z5.row s (rd y1382 x31_2)) x26_1 = ji18 from hji18] at hxR
            obtain ⟨AF,cF,eF⟩:=Kd.R_slice HHr.hF
            subst eF
            obtain ⟨adF,eF,hxF⟩:=Kd.at_int (Kd.R_reads' HHr.hF).2.2 ji18 ov2 ov3
            cases eF
            obtain ⟨AB,cB,eB⟩:=Kd.R_slice HHr.hB
            subst eB
            obtain ⟨adB,eB,hxB⟩:=Kd.at_int (Kd.R_reads' HHr.hB).2.2 ji18 ov2 ov4
            cases eB
            have hco1:wr.cell? ⟨gO,1,none⟩ = some vW:=(blk_cell HHr.hO 1).trans rfl
            have hfo1:=kD_ HHr.hO 1
            have hco2:wr.cell? ⟨gO,2,none⟩ = some (.slice (some adF) s.F.length cF):=(blk_cell HHr.hO 2).trans rfl
            have hfo2:=kD_ HHr.hO 2
            have hco3:wr.cell? ⟨gO,3,none⟩ = some (.slice (some adB) s.B.length cB):=(blk_cell HHr.hO 3).trans rfl
            have hfo3:=kD_ HHr.hO 3
            have hco4:wr.cell? ⟨gO,4,none⟩ = some (.map (some gM)):=(blk_cell HHr.hO 4).trans rfl
            have hfo4:=kD_ HHr.hO 4
            clear HHr hRR
            have ov1d:=oC_ ov1
            have ov3d:=oC_ ov3
            have ov4d:=oC_ ov4
            replace ov0:=eq_true ov0
            replace ov1:=eq_true ov1
            replace ov2:=eq_true ov2
            replace ov3:=eq_true ov3
            replace ov4:=eq_true ov4
            obtain ⟨Ao33,co33,eo33⟩:=Kd.R_slice HO_8.out
            subst eo33
            have p1386:0≤((ji18):Int):=oB_ qe_
            have q1386:(ji18) < (s.W.length:Int):=oB_ qe_
            obtain ⟨ad1386,e1386,hx1386_0⟩:=Kd.at_string (Kd.R_reads' HO_8.out).2.2 (ji18) p1386 q1386
            cases e1386
            replace p1386:=eq_true p1386
            replace q1386:=eq_true q1386
            have p1387:0≤(x26_1:Int):=oB_ qe_
            have q1387:x26_1 < (s.W.length:Int):=oB_ qe_
            obtain ⟨ad1387,e1387,hx1387_0⟩:=Kd.at_string (Kd.R_reads' HO_8.out).2.2 x26_1 p1387 q1387
            obtain rfl:ad1386 = ad1387:=(by injection e1387)
            replace p1387:=eq_true p1387
            replace q1387:=eq_true q1387
            rcases hsk with s1 | ⟨s1,s2⟩
            all_goals
             go_wp2
             replace HO_6:=A_ (rC_ HO_6.out)
             replace HO_8:=A_ (rC_ HO_8.out)
             replace HO_29:=A_ (rC_ HO_29.out)
             replace BK1371:=A_ (kB_ BK1371.out)
             replace HB:=A_ (bC_ HB.out)
             refine start_ (n:=15) (S:=fun w'=>w'.cell? ⟨gO,1,none⟩ = some (.slice (some ad1386) s.W.length co33)∧w'.cell? (ad1386.add (x26_1).toNat) = some (.string (rdOf ByteArray.empty s.W x26_1))) (ds:=[]) (bl_ 15 0) (by kernel_rfl) rfl (by kernel_rfl) ⟨hco1,hx1387_0⟩ (fun hHeld=>?_);refine with_tabW Z5.tab14 Z5.bits14 (fun HT_ HW_=>?_)
             generalize wr.drew = w34 at HO_6 HO_8 HO_29 BK1371 HB hHeld ⊢
             refine pu_ 0 (some 71) (bl_ 15 1) HT_ ?_
             refine pu_ 1 (some 72) (bl_ 15 3) HT_ ?_
             refine pu_ 2 (some 73) (bl_ 15 7) HT_ ?_
             refine ta_ 3 (some 74) (bl_ 15 15) HT_ HW_ hHeld ?_
             refine pu_ 4 (some 75) (bl_ 15 31) HT_ ?_
             refine pu_ 5 (some 76) (bl_ 15 63) HT_ ?_
             refine ta_ 6 (some 77) (bl_ 15 127) HT_ HW_ hHeld ?_
             refine pu_ 7 (some 78) (bl_ 15 255) HT_ ?_
             refine pu_ 11 (some 82) (bl_ 15 2303) HT_ ?_
             refine join_ (σ:=Value) 2 (bl_ 15 8191) (fun s_=>[(79,s_),(80,.string (strOfNums y1388)),(83,.string t1391),(81,.string ((rdOf ByteArray.empty s.W x26_1) ++ (strOfNums y1388)))]) (fun s_ w'=>(Kd.R (Kd.int .u8) 5 w' wz.heap.size (fun k_=>some k_≠(.slice (some ad1385) y1382.length co13:Value).ownBlock) s_ y1388)∧(Kd.R (Kd.int .u8) 5 w' wz.heap.size (fun k_=>some k_≠(s_:Value).ownBlock) (.slice (some ad1385) y1382.length co13) y1382)∧(Kd.R Kd.string 9 w' wz.heap.size (fun k_=>some k_≠(.slice (some ad1386) s.W.length co33:Value).ownBlock) u6 x6_2)∧(Kd.R Kd.string 9 w' w.heap.size (fun k_=>some k_≠(u6:Value).ownBlock) (.slice (some ad1386) s.W.length co33) s.W)∧(w'.heap[gs]? = some (.cells #[.slice A0_0 l0_0.length c0_0,.slice A0_1 l0_1.length c0_1] 25 (0,0)))∧(Below wz.heap.size wz w')) ?_ ?_
             rotate_left
             ·intro hCont
              refine two_ (i:=8) (j:=12) (Ni:=some 79) (Nj:=some 83) (bl_ 15 2559) (bl_ 15 6399) rfl rfl rfl rfl (two_of HT_.out (by kernel_rfl)) (by decide) (by decide) (fun K hK=>?_) (fun K hK=>?_)
              ·skip
               refine Kd.R_lit_step (Kd.int .u8) _ 5 ?hg (N:=79) ?hd (xs:=([rd y1382 x31_2]:List Int)) (inner:=[.int .u8 (rd y1382 x31_2)]) (ok:=fun _=>True) (okp:=fun _=>True) ?hr ?hp (fun _ hk=>hk) trivial (Below.refl _ _) (nA_ _) (by simp) ?_;(case hd=>rfl);(case hg=>rfl);(case hr=>first | (go_simp;done) | (go_simp;rfl));(case hp=>exact (Reps.one (show Kd.M (Kd.int .u8) _ _ _ (rd y1382 x31_2) [.int .u8 (rd y1382 x31_2)] from rfl) (Reps.none _ _)))
               intro v1389 w35 ho36 hb hg_ hnew_
               clear hg_ hnew_
               (first | rw [← Ny1388.out] at ho36 | (simp only [Int.reduceToNat] at ho36;rw [← Ny1388.out] at ho36))
               replace HO_6:=rb_ HO_6 hb
               replace HO_8:=rb_ HO_8 hb
               have HO1390:=A_ (rE_ (Kd.R_new' ho36 (Kd.R_lt (rr_ HO_29))) (bF_ hB_))
               replace HO_29:=A_ (Kd.R_elder' (rr_ HO_29) (Kd.R_base ho36) hb)
               replace BK1371:=bb_ BK1371 hb
               replace HB:=b1_ hb
               have hS_:=And.intro ((hb.cell (World.block_lt_of_cell? _ _ hHeld.1)).trans hHeld.1) ((hb.cell (World.block_lt_of_cell? _ _ hHeld.2)).trans hHeld.2)
               clear hb ho36
               refine hK.out _ _ (by first | exact hS_ | exact hHeld) (fun hHeld=>?_)
               clear hK K
               refine no_ (some 79) ?_
               refine two_ (i:=9) (j:=12) (Ni:=some 80) (Nj:=some 83) (bl_ 15 3071) (bl_ 15 6655) rfl rfl rfl rfl (two_of HT_.out (by kernel_rfl)) (by decide) (by decide) (fun K hK=>?_) (fun K hK=>?_)
               ·skip
                have hcv37:=own_string (P:=Try.prog) Try.underlying22 Try.underlying5 Try.underlying9 (Kd.own_of_R HO1390.out)
                refine value_ (w1:=?_) (v:=?_) (by rfl) rfl ?_ ?_
                rotate_left 2
                ·go_simp
                 constructor
                 ·rfl
                 ·rfl
                clear hcv37
                refine hK.out _ _ (by first | exact hS_ | exact hHeld) (fun hHeld=>?_)
                clear hK K
                refine no_ (some 80) ?_
                refine pu_ 10 (some 81) (bl_ 15 4095) HT_ ?_
                refine on_ 12 (some 83) (bl_ 15 8191) HT_ (fun K hK=>?_)
                refine gO_ Try.func90 #[.string (rdOf ByteArray.empty s.W (ji18))] (by rfl) rfl rfl (by (try simp only [mA_,mB_,mC_]);first | done | (simp only [hji18];rfl) | rfl | (simp only [lA_,lB_];rfl)) ?_
                with_reducible refine (Z17.calls k2 (rdOf ByteArray.empty s.W (ji18)) t1391 _ A24.out).mono ?_
                rintro e w38 ⟨rfl,hb⟩
                refine ⟨_,rfl,?_⟩
                replace HO_6:=rb_ HO_6 hb
                replace HO_8:=rb_ HO_8 hb
                replace HO_29:=rb_ HO_29 hb
                replace HO1390:=rb_ HO1390 hb
                replace BK1371:=bb_ BK1371 hb
                replace HB:=b1_ hb
                have hS_:=And.intro ((hb.cell (World.block_lt_of_cell? _ _ hHeld.1)).trans hHeld.1) ((hb.cell (World.block_lt_of_cell? _ _ hHeld.2)).trans hHeld.2)
                clear hb
                refine hK.out _ _ (by first | exact hS_ | exact hHeld) (fun hHeld=>?_)
                clear hK K
                refine no_ (some 83) ?_
                exact norm_ (by simp only [putAll,Act.put,sA_,sB_,sC_]) (hCont (v1389) _ ⟨(rw_ (Kd.R_mono HO1390.out (fun _ hk=>hk.2))),(rw_ (Kd.R_mono HO_29.out (fun _ hk=>hk.2))),(rr_ HO_6),(rr_ HO_8),(kk_ BK1371),hB_⟩)
               ·skip
                refine gO_ Try.func90 #[.string (rdOf ByteArray.empty s.W (ji18))] (by rfl) rfl rfl (by (try simp only [mA_,mB_,mC_]);first | done | (simp only [hji18];rfl) | rfl | (simp only [lA_,lB_];rfl)) ?_
                with_reducible refine (Z17.calls k2 (rdOf ByteArray.empty s.W (ji18)) t1391 _ A24.out).mono ?_
                rintro e w37 ⟨rfl,hb⟩
                refine ⟨_,rfl,?_⟩
                replace HO_6:=rb_ HO_6 hb
                replace HO_8:=rb_ HO_8 hb
                replace HO_29:=rb_ HO_29 hb
                replace HO1390:=rb_ HO1390 hb
                replace BK1371:=bb_ BK1371 hb
                replace HB:=b1_ hb
                have hS_:=And.intro ((hb.cell (World.block_lt_of_cell? _ _ hHeld.1)).trans hHeld.1) ((hb.cell (World.block_lt_of_cell? _ _ hHeld.2)).trans hHeld.2)
                clear hb
                refine hK.out _ _ (by first | exact hS_ | exact hHeld) (fun hHeld=>?_)
                clear hK K
                refine no_ (some 83) ?_
                refine on_ 9 (some 80) (bl_ 15 7167) HT_ (fun K hK=>?_)
                have hcv38:=own_string (P:=Try.prog) Try.underlying22 Try.underlying5 Try.underlying9 (Kd.own_of_R HO1390.out)
                refine value_ (w1:=?_) (v:=?_) (by rfl) rfl ?_ ?_
                rotate_left 2
                ·go_simp
                 constructor
                 ·rfl
                 ·rfl
                clear hcv38
                refine hK.out _ _ (by first | exact hS_ | exact hHeld) (fun hHeld=>?_)
                clear hK K
                refine no_ (some 80) ?_
                refine pu_ 10 (some 81) (bl_ 15 8191) HT_ ?_
                exact norm_ (by simp only [putAll,Act.put,sA_,sB_,sC_]) (hCont (v1389) _ ⟨(rw_ (Kd.R_mono HO1390.out (fun _ hk=>hk.2))),(rw_ (Kd.R_mono HO_29.out (fun _ hk=>hk.2))),(rr_ HO_6),(rr_ HO_8),(kk_ BK1371),hB_⟩)
              ·skip
               refine gO_ Try.func90 #[.string (rdOf ByteArray.empty s.W (ji18))] (by rfl) rfl rfl (by (try simp only [mA_,mB_,mC_]);first | done | (simp only [hji18];rfl) | rfl | (simp only [lA_,lB_];rfl)) ?_
               with_reducible refine (Z17.calls k2 (rdOf ByteArray.empty s.W (ji18)) t1391 _ A24.out).mono ?_
               rintro e w35 ⟨rfl,hb⟩
               refine ⟨_,rfl,?_⟩
               replace HO_6:=rb_ HO_6 hb
               replace HO_8:=rb_ HO_8 hb
               replace HO_29:=rb_ HO_29 hb
               replace BK1371:=bb_ BK1371 hb
               replace HB:=b1_ hb
               have hS_:=And.intro ((hb.cell (World.block_lt_of_cell? _ _ hHeld.1)).trans hHeld.1) ((hb.cell (World.block_lt_of_cell? _ _ hHeld.2)).trans hHeld.2)
               clear hb
               refine hK.out _ _ (by first | exact hS_ | exact hHeld) (fun hHeld=>?_)
               clear hK K
               refine no_ (some 83) ?_
               refine on_ 8 (some 79) (bl_ 15 6655) HT_ (fun K hK=>?_)
               refine Kd.R_lit_step (Kd.int .u8) _ 5 ?hg (N:=79) ?hd (xs:=([rd y1382 x31_2]:List Int)) (inner:=[.int .u8 (rd y1382 x31_2)]) (ok:=fun _=>True) (okp:=fun _=>True) ?hr ?hp (fun _ hk=>hk) trivial (Below.refl _ _) (nA_ _) (by simp) ?_;(case hd=>rfl);(case hg=>rfl);(case hr=>first | (go_simp;done) | (go_simp;rfl));(case hp=>exact (Reps.one (show Kd.M (Kd.int .u8) _ _ _ (rd y1382 x31_2) [.int .u8 (rd y1382 x31_2)] from rfl) (Reps.none _ _)))
               intro v1389 w36 ho37 hb hg_ hnew_
               clear hg_ hnew_
               (first | rw [← Ny1388.out] at ho37 | (simp only [Int.reduceToNat] at ho37;rw [← Ny1388.out] at ho37))
               replace HO_6:=rb_ HO_6 hb
               replace HO_8:=rb_ HO_8 hb
               have HO1390:=A_ (rE_ (Kd.R_new' ho37 (Kd.R_lt (rr_ HO_29))) (bF_ hB_))
               replace HO_29:=A_ (Kd.R_elder' (rr_ HO_29) (Kd.R_base ho37) hb)
               replace BK1371:=bb_ BK1371 hb
               replace HB:=b1_ hb
               have hS_:=And.intro ((hb.cell (World.block_lt_of_cell? _ _ hHeld.1)).trans hHeld.1) ((hb.cell (World.block_lt_of_cell? _ _ hHeld.2)).trans hHeld.2)
               clear hb ho37
               refine hK.out _ _ (by first | exact hS_ | exact hHeld) (fun hHeld=>?_)
               clear hK K
               refine no_ (some 79) ?_
               refine on_ 9 (some 80) (bl_ 15 7167) HT_ (fun K hK=>?_)
               have hcv38:=own_string (P:=Try.prog) Try.underlying22 Try.underlying5 Try.underlying9 (Kd.own_of_R HO1390.out)
               refine value_ (w1:=?_) (v:=?_) (by rfl) rfl ?_ ?_
               rotate_left 2
               ·go_simp
                constructor
                ·rfl
                ·rfl
               clear hcv38
               refine hK.out _ _ (by first | exact hS_ | exact hHeld) (fun hHeld=>?_)
               clear hK K
               refine no_ (some 80) ?_
               refine pu_ 10 (some 81) (bl_ 15 8191) HT_ ?_
               exact norm_ (by simp only [putAll,Act.put,sA_,sB_,sC_]) (hCont (v1389) _ ⟨(rw_ (Kd.R_mono HO1390.out (fun _ hk=>hk.2))),(rw_ (Kd.R_mono HO_29.out (fun _ hk=>hk.2))),(rr_ HO_6),(rr_ HO_8),(kk_ BK1371),hB_⟩)
             rintro v1389 w39 ⟨h0_,h1_,h2_,h3_,h4_,h5_⟩
             have n0_:Aside0 (Kd.R (Kd.int .u8) 5 w39 wz.heap.size (fun k_=>some k_≠(.slice (some ad1385) y1382.length co13:Value).ownBlock) v1389 y1388):=⟨h0_⟩
             have n1_:Aside0 (Kd.R (Kd.int .u8) 5 w39 wz.heap.size (fun k_=>some k_≠(v1389:Value).ownBlock) (.slice (some ad1385) y1382.length co13) y1382):=⟨h1_⟩
             have n2_:Aside0 (Kd.R Kd.string 9 w39 wz.heap.size (fun k_=>some k_≠(.slice (some ad1386) s.W.length co33:Value).ownBlock) u6 x6_2):=⟨h2_⟩
             have n3_:Aside0 (Kd.R Kd.string 9 w39 w.heap.size (fun k_=>some k_≠(u6:Value).ownBlock) (.slice (some ad1386) s.W.length co33) s.W):=⟨h3_⟩
             have n4_:Aside0 (w39.heap[gs]? = some (.cells #[.slice A0_0 l0_0.length c0_0,.slice A0_1 l0_1.length c0_1] 25 (0,0))):=⟨h4_⟩
             have n5_:Aside0 (Below wz.heap.size wz w39):=⟨h5_⟩
             clear HO_6
             clear HO_8
             clear HO_29
             clear BK1371
             clear HB
             clear h0_ h1_ h2_ h3_ h4_ h5_
             have HO1390:=n0_
             have HO_29:=n1_
             have HO_6:=n2_
             have HO_8:=n3_
             have BK1371:=n4_
             have HB:=n5_
             clear n0_ n1_ n2_ n3_ n4_ n5_
             have hHeld:=trivial
             refine norm_ (a':=?_) ?_ ?_
             rotate_left
             ·simp only [putAll,Act.put,sA_,sB_,sC_]
              rfl
             refine pu_ 13 (some 84) (bl_ 15 16383) HT_ ?_
             refine pu_ 14 (some 12) (bl_ 15 32767) HT_ ?_
             refine done_ (done_of HT_.out (by kernel_rfl)) ?_
             try go_wp2_with (first | ((with_reducible refine gA_ (f:=73) rfl ?_);refine gL_ (some 86) Try.func73 #[.string (rdOf ByteArray.empty s.W (ji18))] rfl (by (try simp only [mA_,mB_,mC_]);first | done | (simp only [hji18];rfl) | rfl | (simp only [lA_,lB_];rfl)) ?_;(with_reducible refine (Z61.calls k2 (rdOf ByteArray.empty s.W (ji18)) true _ A26.out).mono ?_);rintro e w40 ⟨rfl,hb⟩;refine ⟨_,rfl,?_⟩;replace HO_6:=rb_ HO_6 hb;replace HO_8:=rb_ HO_8 hb;replace HO_29:=rb_ HO_29 hb;replace HO1390:=rb_ HO1390 hb;replace BK1371:=bb_ BK1371 hb;replace HB:=b1_ hb;clear hb;have hHq:=HH.out.below HB.out;have hco1:w40.cell? ⟨gO,1,none⟩ = some (.slice (some ad1386) s.W.length co33):=(blk_cell hHq.hO 1).trans rfl;have hfo1:=kD_ hHq.hO 1;clear hHq; have p1393:0≤(x26_1:Int):=oB_ qe_;have q1393:x26_1 < (s.W.length:Int):=oB_ qe_;obtain ⟨ad1393,e1393,hx1393_0⟩:=Kd.at_string (Kd.R_reads' HO_8.out).2.2 x26_1 p1393 q1393;obtain rfl:ad1386 = ad1393:=(by injection e1393);replace p1393:=eq_true p1393;replace q1393:=eq_true q1393) | (go_at_call 73;(with_reducible refine (Z61.calls k2 (rdOf ByteArray.empty s.W x26_1) true _ A28.out).mono ?_);rintro e w41 ⟨rfl,hb⟩;replace HO_6:=rb_ HO_6 hb;replace HO_8:=rb_ HO_8 hb;replace HO_29:=rb_ HO_29 hb;replace HO1390:=rb_ HO1390 hb;replace BK1371:=bb_ BK1371 hb;replace HB:=b1_ hb;clear hb) | (go_at_call 73;(with_reducible refine (Z61.calls k2 (((rdOf ByteArray.empty s.W x26_1) ++ (strOfNums y1388)) ++ t1391) true _ A30.out).mono ?_);rintro e w42 ⟨rfl,hb⟩;replace HO_6:=rb_ HO_6 hb;replace HO_8:=rb_ HO_8 hb;replace HO_29:=rb_ HO_29 hb;replace HO1390:=rb_ HO1390 hb;replace BK1371:=bb_ BK1371 hb;replace HB:=b1_ hb;clear hb) | ((with_reducible refine gate_builtin (b:=.append) (xs:=#[.tmp 104,.tmp 106]) rfl ?_);at_builtin;refine Kd.R_append Kd.string (w0:=wz) wz.heap.size rfl (.tmp 104) (.tmp 106) 53 9 (.string ⟨#[]⟩) 16 rfl Try.underlying53 info9 rfl (by decide) (by omega) u6 x6_2 (((rdOf ByteArray.empty s.W x26_1) ++ (strOfNums y1388)) ++ t1391) [.string (((rdOf ByteArray.empty s.W x26_1) ++ (strOfNums y1388)) ++ t1391)] (fun k_=>some k_≠(.slice (some ad1386) s.W.length co33:Value).ownBlock) (fun _=>False) rfl rfl ?aP (fun _ hk=>hk.elim) ?aF ?aO ?aB ?aS ?aL ?_;(case aP=>exact rfl);(case aB=>exact hB_);(case aF=>exact (fun k_ hk=>Kd.fresh' (Kd.R_lt (rr_ HO_8)) k_ hk));(case aO=>exact (rr_ HO_6));(case aS=>exact (bF_ hB_));(case aL=>have:=LMc32.out;omega);intro v1397 w43 ho hb hg hat;rw [← Ny1396.out] at ho;replace HO_8:=A_ (Kd.R_after (ok:=(fun _=>True)) (rw_ (Kd.R_mono HO_8.out (fun _ hk=>⟨trivial,hk⟩))) hg hat);replace HO_29:=A_ (Kd.R_over' (rr_ HO_29) (Kd.R_typed (rr_ HO_6)) (by decide) hg);replace BK1371:=A_ (blk_grown (kk_ BK1371) hg (Kd.R_ne HO_6.out BK1371.out (by decide)));replace HO1390:=A_ (Kd.R_over' (rr_ HO1390) (Kd.R_typed (rr_ HO_6)) (by decide) hg);replace HB:=A_ hb;have HO1398:=A_ ho;clear HO_6;clear ho hb hg hat))
             go_roundg k2
             case measure=>have:=HK1.out;have:=HK2.out;omega
             case rel=>exact ⟨(y1396),(wrap64 (x31_2 + 1)),qc_,H',⟨by have:=HK1.out;have:=HK2.out;omega⟩,⟨(rr_ HO1398)⟩,⟨(rw_ (Kd.R_mono HO_8.out (fun _ hk=>hk.2)))⟩,⟨(rw_ (Kd.R_mono HO_29.out (fun _ hk=>trivial)))⟩,⟨(kk_ BK1371)⟩,⟨hB_⟩⟩
           ·replace c31:=Bool.eq_false_iff.mpr c31
            subst c31
            have H1:(some (([]:List ByteArray),false)) = some (r1,r2):=by rw [if_neg (show ¬ (false = true) by decide)] at H;exact H
            clear H
            have H:=H1
            clear H1
            simp only [Option.some.injEq,Prod.mk.injEq] at H
            obtain ⟨rfl,rfl⟩:=H
            have p1385:0≤(x31_2:Int):=oB_ qe_
            have q1385:x31_2 < (y1382.length:Int):=oB_ qe_
            have LET:=A_ (Z5.let2 Ny1382.out p1385 q1385)
            obtain ⟨ad1385,e1385,hx1385_0⟩:=Kd.at_int (Kd.R_reads' HO_29.out).2.2 x31_2 p1385 q1385
            cases e1385
            replace p1385:=eq_true p1385
            replace q1385:=eq_true q1385
            have hsk:=Z5.skp_no c17
            rw [hji18] at hsk
            have okv:=Z5.okk_out OKC.out
            rw [hji18] at okv
            obtain ⟨ov0,ov1,ov2,ov3,ov4⟩:=okv
            have HHr:=HH.out.below HB.out
            obtain ⟨AR,cR,hRR,hlk⟩:=Z5.look HHr LET.out
            obtain ⟨adR,eR,hxR⟩:=Kd.at_int (Kd.R_reads' hRR).2.2 x26_1 ov0 ov1
            cases eR
            rw [show rd (Z5.row s (rd y1382 x31_2)) x26_1 = ji18 from hji18] at hxR
            obtain ⟨AF,cF,eF⟩:=Kd.R_slice HHr.hF
            subst eF
            obtain ⟨adF,eF,hxF⟩:=Kd.at_int (Kd.R_reads' HHr.hF).2.2 ji18 ov2 ov3
            cases eF
            obtain ⟨AB,cB,eB⟩:=Kd.R_slice HHr.hB
            subst eB
            obtain ⟨adB,eB,hxB⟩:=Kd.at_int (Kd.R_reads' HHr.hB).2.2 ji18 ov2 ov4
            cases eB
            have hco1:wr.cell? ⟨gO,1,none⟩ = some vW:=(blk_cell HHr.hO 1).trans rfl
            have hfo1:=kD_ HHr.hO 1
            have hco2:wr.cell? ⟨gO,2,none⟩ = some (.slice (some adF) s.F.length cF):=(blk_cell HHr.hO 2).trans rfl
            have hfo2:=kD_ HHr.hO 2
            have hco3:wr.cell? ⟨gO,3,none⟩ = some (.slice (some adB) s.B.length cB):=(blk_cell HHr.hO 3).trans rfl
            have hfo3:=kD_ HHr.hO 3
            have hco4:wr.cell? ⟨gO,4,none⟩ = some (.map (some gM)):=(blk_cell HHr.hO 4).trans rfl
            have hfo4:=kD_ HHr.hO 4
            clear HHr hRR
            have ov1d:=oC_ ov1
            have ov3d:=oC_ ov3
            have ov4d:=oC_ ov4
            replace ov0:=eq_true ov0
            replace ov1:=eq_true ov1
            replace ov2:=eq_true ov2
            replace ov3:=eq_true ov3
            replace ov4:=eq_true ov4
            obtain ⟨Ao44,co44,eo44⟩:=Kd.R_slice HO_8.out
            subst eo44
            have p1386:0≤((ji18):Int):=oB_ qe_
            have q1386:(ji18) < (s.W.length:Int):=oB_ qe_
            obtain ⟨ad1386,e1386,hx1386_0⟩:=Kd.at_string (Kd.R_reads' HO_8.out).2.2 (ji18) p1386 q1386
            cases e1386
            replace p1386:=eq_true p1386
            replace q1386:=eq_true q1386
            have p1387:0≤(x26_1:Int):=oB_ qe_
            have q1387:x26_1 < (s.W.length:Int):=oB_ qe_
            obtain ⟨ad1387,e1387,hx1387_0⟩:=Kd.at_string (Kd.R_reads' HO_8.out).2.2 x26_1 p1387 q1387
            obtain rfl:ad1386 = ad1387:=(by injection e1387)
            replace p1387:=eq_true p1387
            replace q1387:=eq_true q1387
            rcases hsk with s1 | ⟨s1,s2⟩
            all_goals
             go_wp2
             replace HO_6:=A_ (rC_ HO_6.out)
             replace HO_8:=A_ (rC_ HO_8.out)
             replace HO_29:=A_ (rC_ HO_29.out)
             replace BK1371:=A_ (kB_ BK1371.out)
             replace HB:=A_ (bC_ HB.out)
             refine start_ (n:=15) (S:=fun w'=>w'.cell? ⟨gO,1,none⟩ = some (.slice (some ad1386) s.W.length co44)∧w'.cell? (ad1386.add (x26_1).toNat) = some (.string (rdOf ByteArray.empty s.W x26_1))) (ds:=[]) (bl_ 15 0) (by kernel_rfl) rfl (by kernel_rfl) ⟨hco1,hx1387_0⟩ (fun hHeld=>?_);refine with_tabW Z5.tab14 Z5.bits14 (fun HT_ HW_=>?_)
             generalize wr.drew = w45 at HO_6 HO_8 HO_29 BK1371 HB hHeld ⊢
             refine pu_ 0 (some 71) (bl_ 15 1) HT_ ?_
             refine pu_ 1 (some 72) (bl_ 15 3) HT_ ?_
             refine pu_ 2 (some 73) (bl_ 15 7) HT_ ?_
             refine ta_ 3 (some 74) (bl_ 15 15) HT_ HW_ hHeld ?_
             refine pu_ 4 (some 75) (bl_ 15 31) HT_ ?_
             refine pu_ 5 (some 76) (bl_ 15 63) HT_ ?_
             refine ta_ 6 (some 77) (bl_ 15 127) HT_ HW_ hHeld ?_
             refine pu_ 7 (some 78) (bl_ 15 255) HT_ ?_
             refine pu_ 11 (some 82) (bl_ 15 2303) HT_ ?_
             refine join_ (σ:=Value) 2 (bl_ 15 8191) (fun s_=>[(79,s_),(80,.string (strOfNums y1388)),(83,.string t1391),(81,.string ((rdOf ByteArray.empty s.W x26_1) ++ (strOfNums y1388)))]) (fun s_ w'=>(Kd.R (Kd.int .u8) 5 w' wz.heap.size (fun k_=>some k_≠(.slice (some ad1385) y1382.length co13:Value).ownBlock) s_ y1388)∧(Kd.R (Kd.int .u8) 5 w' wz.heap.size (fun k_=>some k_≠(s_:Value).ownBlock) (.slice (some ad1385) y1382.length co13) y1382)∧(Kd.R Kd.string 9 w' wz.heap.size (fun k_=>some k_≠(.slice (some ad1386) s.W.length co44:Value).ownBlock) u6 x6_2)∧(Kd.R Kd.string 9 w' w.heap.size (fun k_=>some k_≠(u6:Value).ownBlock) (.slice (some ad1386) s.W.length co44) s.W)∧(w'.heap[gs]? = some (.cells #[.slice A0_0 l0_0.length c0_0,.slice A0_1 l0_1.length c0_1] 25 (0,0)))∧(Below wz.heap.size wz w')) ?_ ?_
             rotate_left
             ·intro hCont
              refine two_ (i:=8) (j:=12) (Ni:=some 79) (Nj:=some 83) (bl_ 15 2559) (bl_ 15 6399) rfl rfl rfl rfl (two_of HT_.out (by kernel_rfl)) (by decide) (by decide) (fun K hK=>?_) (fun K hK=>?_)
              ·skip
               refine Kd.R_lit_step (Kd.int .u8) _ 5 ?hg (N:=79) ?hd (xs:=([rd y1382 x31_2]:List Int)) (inner:=[.int .u8 (rd y1382 x31_2)]) (ok:=fun _=>True) (okp:=fun _=>True) ?hr ?hp (fun _ hk=>hk) trivial (Below.refl _ _) (nA_ _) (by simp) ?_;(case hd=>rfl);(case hg=>rfl);(case hr=>first | (go_simp;done) | (go_simp;rfl));(case hp=>exact (Reps.one (show Kd.M (Kd.int .u8) _ _ _ (rd y1382 x31_2) [.int .u8 (rd y1382 x31_2)] from rfl) (Reps.none _ _)))
               intro v1389 w46 ho47 hb hg_ hnew_
               clear hg_ hnew_
               (first | rw [← Ny1388.out] at ho47 | (simp only [Int.reduceToNat] at ho47;rw [← Ny1388.out] at ho47))
               replace HO_6:=rb_ HO_6 hb
               replace HO_8:=rb_ HO_8 hb
               have HO1390:=A_ (rE_ (Kd.R_new' ho47 (Kd.R_lt (rr_ HO_29))) (bF_ hB_))
               replace HO_29:=A_ (Kd.R_elder' (rr_ HO_29) (Kd.R_base ho47) hb)
               replace BK1371:=bb_ BK1371 hb
               replace HB:=b1_ hb
               have hS_:=And.intro ((hb.cell (World.block_lt_of_cell? _ _ hHeld.1)).trans hHeld.1) ((hb.cell (World.block_lt_of_cell? _ _ hHeld.2)).trans hHeld.2)
               clear hb ho47
               refine hK.out _ _ (by first | exact hS_ | exact hHeld) (fun hHeld=>?_)
               clear hK K
               refine no_ (some 79) ?_
               refine two_ (i:=9) (j:=12) (Ni:=some 80) (Nj:=some 83) (bl_ 15 3071) (bl_ 15 6655) rfl rfl rfl rfl (two_of HT_.out (by kernel_rfl)) (by decide) (by decide) (fun K hK=>?_) (fun K hK=>?_)
               ·skip
                have hcv48:=own_string (P:=Try.prog) Try.underlying22 Try.underlying5 Try.underlying9 (Kd.own_of_R HO1390.out)
                refine value_ (w1:=?_) (v:=?_) (by rfl) rfl ?_ ?_
                rotate_left 2
                ·go_simp
                 constructor
                 ·rfl
                 ·rfl
                clear hcv48
                refine hK.out _ _ (by first | exact hS_ | exact hHeld) (fun hHeld=>?_)
                clear hK K
                refine no_ (some 80) ?_
                refine pu_ 10 (some 81) (bl_ 15 4095) HT_ ?_
                refine on_ 12 (some 83) (bl_ 15 8191) HT_ (fun K hK=>?_)
                refine gO_ Try.func90 #[.string (rdOf ByteArray.empty s.W (ji18))] (by rfl) rfl rfl (by (try simp only [mA_,mB_,mC_]);first | done | (simp only [hji18];rfl) | rfl | (simp only [lA_,lB_];rfl)) ?_
                with_reducible refine (Z17.calls k2 (rdOf ByteArray.empty s.W (ji18)) t1391 _ A24.out).mono ?_
                rintro e w49 ⟨rfl,hb⟩
                refine ⟨_,rfl,?_⟩
                replace HO_6:=rb_ HO_6 hb
                replace HO_8:=rb_ HO_8 hb
                replace HO_29:=rb_ HO_29 hb
                replace HO1390:=rb_ HO1390 hb
                replace BK1371:=bb_ BK1371 hb
                replace HB:=b1_ hb
                have hS_:=And.intro ((hb.cell (World.block_lt_of_cell? _ _ hHeld.1)).trans hHeld.1) ((hb.cell (World.block_lt_of_cell? _ _ hHeld.2)).trans hHeld.2)
                clear hb
                refine hK.out _ _ (by first | exact hS_ | exact hHeld) (fun hHeld=>?_)
                clear hK K
                refine no_ (some 83) ?_
                exact norm_ (by simp only [putAll,Act.put,sA_,sB_,sC_]) (hCont (v1389) _ ⟨(rw_ (Kd.R_mono HO1390.out (fun _ hk=>hk.2))),(rw_ (Kd.R_mono HO_29.out (fun _ hk=>hk.2))),(rr_ HO_6),(rr_ HO_8),(kk_ BK1371),hB_⟩)
               ·skip
                refine gO_ Try.func90 #[.string (rdOf ByteArray.empty s.W (ji18))] (by rfl) rfl rfl (by (try simp only [mA_,mB_,mC_]);first | done | (simp only [hji18];rfl) | rfl | (simp only [lA_,lB_];rfl)) ?_
                with_reducible refine (Z17.calls k2 (rdOf ByteArray.empty s.W (ji18)) t1391 _ A24.out).mono ?_
                rintro e w48 ⟨rfl,hb⟩
                refine ⟨_,rfl,?_⟩
                replace HO_6:=rb_ HO_6 hb
                replace HO_8:=rb_ HO_8 hb
                replace HO_29:=rb_ HO_29 hb
                replace HO1390:=rb_ HO1390 hb
                replace BK1371:=bb_ BK1371 hb
                replace HB:=b1_ hb
                have hS_:=And.intro ((hb.cell (World.block_lt_of_cell? _ _ hHeld.1)).trans hHeld.1) ((hb.cell (World.block_lt_of_cell? _ _ hHeld.2)).trans hHeld.2)
                clear hb
                refine hK.out _ _ (by first | exact hS_ | exact hHeld) (fun hHeld=>?_)
                clear hK K
                refine no_ (some 83) ?_
                refine on_ 9 (some 80) (bl_ 15 7167) HT_ (fun K hK=>?_)
                have hcv49:=own_string (P:=Try.prog) Try.underlying22 Try.underlying5 Try.underlying9 (Kd.own_of_R HO1390.out)
                refine value_ (w1:=?_) (v:=?_) (by rfl) rfl ?_ ?_
                rotate_left 2
                ·go_simp
                 constructor
                 ·rfl
                 ·rfl
                clear hcv49
                refine hK.out _ _ (by first | exact hS_ | exact hHeld) (fun hHeld=>?_)
                clear hK K
                refine no_ (some 80) ?_
                refine pu_ 10 (some 81) (bl_ 15 8191) HT_ ?_
                exact norm_ (by simp only [putAll,Act.put,sA_,sB_,sC_]) (hCont (v1389) _ ⟨(rw_ (Kd.R_mono HO1390.out (fun _ hk=>hk.2))),(rw_ (Kd.R_mono HO_29.out (fun _ hk=>hk.2))),(rr_ HO_6),(rr_ HO_8),(kk_ BK1371),hB_⟩)
              ·skip
               refine gO_ Try.func90 #[.string (rdOf ByteArray.empty s.W (ji18))] (by rfl) rfl rfl (by (try simp only [mA_,mB_,mC_]);first | done | (simp only [hji18];rfl) | rfl | (simp only [lA_,lB_];rfl)) ?_
               with_reducible refine (Z17.calls k2 (rdOf ByteArray.empty s.W (ji18)) t1391 _ A24.out).mono ?_
               rintro e w46 ⟨rfl,hb⟩
               refine ⟨_,rfl,?_⟩
               replace HO_6:=rb_ HO_6 hb
               replace HO_8:=rb_ HO_8 hb
               replace HO_29:=rb_ HO_29 hb
               replace BK1371:=bb_ BK1371 hb
               replace HB:=b1_ hb
               have hS_:=And.intro ((hb.cell (World.block_lt_of_cell? _ _ hHeld.1)).trans hHeld.1) ((hb.cell (World.block_lt_of_cell? _ _ hHeld.2)).trans hHeld.2)
               clear hb
               refine hK.out _ _ (by first | exact hS_ | exact hHeld) (fun hHeld=>?_)
               clear hK K
               refine no_ (some 83) ?_
               refine on_ 8 (some 79) (bl_ 15 6655) HT_ (fun K hK=>?_)
               refine Kd.R_lit_step (Kd.int .u8) _ 5 ?hg (N:=79) ?hd (xs:=([rd y1382 x31_2]:List Int)) (inner:=[.int .u8 (rd y1382 x31_2)]) (ok:=fun _=>True) (okp:=fun _=>True) ?hr ?hp (fun _ hk=>hk) trivial (Below.refl _ _) (nA_ _) (by simp) ?_;(case hd=>rfl);(case hg=>rfl);(case hr=>first | (go_simp;done) | (go_simp;rfl));(case hp=>exact (Reps.one (show Kd.M (Kd.int .u8) _ _ _ (rd y1382 x31_2) [.int .u8 (rd y1382 x31_2)] from rfl) (Reps.none _ _)))
               intro v1389 w47 ho48 hb hg_ hnew_
               clear hg_ hnew_
               (first | rw [← Ny1388.out] at ho48 | (simp only [Int.reduceToNat] at ho48;rw [← Ny1388.out] at ho48))
               replace HO_6:=rb_ HO_6 hb
               replace HO_8:=rb_ HO_8 hb
               have HO1390:=A_ (rE_ (Kd.R_new' ho48 (Kd.R_lt (rr_ HO_29))) (bF_ hB_))
               replace HO_29:=A_ (Kd.R_elder' (rr_ HO_29) (Kd.R_base ho48) hb)
               replace BK1371:=bb_ BK1371 hb
               replace HB:=b1_ hb
               have hS_:=And.intro ((hb.cell (World.block_lt_of_cell? _ _ hHeld.1)).trans hHeld.1) ((hb.cell (World.block_lt_of_cell? _ _ hHeld.2)).trans hHeld.2)
               clear hb ho48
               refine hK.out _ _ (by first | exact hS_ | exact hHeld) (fun hHeld=>?_)
               clear hK K
               refine no_ (some 79) ?_
               refine on_ 9 (some 80) (bl_ 15 7167) HT_ (fun K hK=>?_)
               have hcv49:=own_string (P:=Try.prog) Try.underlying22 Try.underlying5 Try.underlying9 (Kd.own_of_R HO1390.out)
               refine value_ (w1:=?_) (v:=?_) (by rfl) rfl ?_ ?_
               rotate_left 2
               ·go_simp
                constructor
                ·rfl
                ·rfl
               clear hcv49
               refine hK.out _ _ (by first | exact hS_ | exact hHeld) (fun hHeld=>?_)
               clear hK K
               refine no_ (some 80) ?_
               refine pu_ 10 (some 81) (bl_ 15 8191) HT_ ?_
               exact norm_ (by simp only [putAll,Act.put,sA_,sB_,sC_]) (hCont (v1389) _ ⟨(rw_ (Kd.R_mono HO1390.out (fun _ hk=>hk.2))),(rw_ (Kd.R_mono HO_29.out (fun _ hk=>hk.2))),(rr_ HO_6),(rr_ HO_8),(kk_ BK1371),hB_⟩)
             rintro v1389 w50 ⟨h0_,h1_,h2_,h3_,h4_,h5_⟩
             have n0_:Aside0 (Kd.R (Kd.int .u8) 5 w50 wz.heap.size (fun k_=>some k_≠(.slice (some ad1385) y1382.length co13:Value).ownBlock) v1389 y1388):=⟨h0_⟩
             have n1_:Aside0 (Kd.R (Kd.int .u8) 5 w50 wz.heap.size (fun k_=>some k_≠(v1389:Value).ownBlock) (.slice (some ad1385) y1382.length co13) y1382):=⟨h1_⟩
             have n2_:Aside0 (Kd.R Kd.string 9 w50 wz.heap.size (fun k_=>some k_≠(.slice (some ad1386) s.W.length co44:Value).ownBlock) u6 x6_2):=⟨h2_⟩
             have n3_:Aside0 (Kd.R Kd.string 9 w50 w.heap.size (fun k_=>some k_≠(u6:Value).ownBlock) (.slice (some ad1386) s.W.length co44) s.W):=⟨h3_⟩
             have n4_:Aside0 (w50.heap[gs]? = some (.cells #[.slice A0_0 l0_0.length c0_0,.slice A0_1 l0_1.length c0_1] 25 (0,0))):=⟨h4_⟩
             have n5_:Aside0 (Below wz.heap.size wz w50):=⟨h5_⟩
             clear HO_6
             clear HO_8
             clear HO_29
             clear BK1371
             clear HB
             clear h0_ h1_ h2_ h3_ h4_ h5_
             have HO1390:=n0_
             have HO_29:=n1_
             have HO_6:=n2_
             have HO_8:=n3_
             have BK1371:=n4_
             have HB:=n5_
             clear n0_ n1_ n2_ n3_ n4_ n5_
             have hHeld:=trivial
             refine norm_ (a':=?_) ?_ ?_
             rotate_left
             ·simp only [putAll,Act.put,sA_,sB_,sC_]
              rfl
             refine pu_ 13 (some 84) (bl_ 15 16383) HT_ ?_
             refine pu_ 14 (some 12) (bl_ 15 32767) HT_ ?_
             refine done_ (done_of HT_.out (by kernel_rfl)) ?_
             try go_wp2_with (first | ((with_reducible refine gA_ (f:=73) rfl ?_);refine gL_ (some 86) Try.func73 #[.string (rdOf ByteArray.empty s.W (ji18))] rfl (by (try simp only [mA_,mB_,mC_]);first | done | (simp only [hji18];rfl) | rfl | (simp only [lA_,lB_];rfl)) ?_;(with_reducible refine (Z61.calls k2 (rdOf ByteArray.empty s.W (ji18)) true _ A26.out).mono ?_);rintro e w51 ⟨rfl,hb⟩;refine ⟨_,rfl,?_⟩;replace HO_6:=rb_ HO_6 hb;replace HO_8:=rb_ HO_8 hb;replace HO_29:=rb_ HO_29 hb;replace HO1390:=rb_ HO1390 hb;replace BK1371:=bb_ BK1371 hb;replace HB:=b1_ hb;clear hb;have hHq:=HH.out.below HB.out;have hco1:w51.cell? ⟨gO,1,none⟩ = some (.slice (some ad1386) s.W.length co44):=(blk_cell hHq.hO 1).trans rfl;have hfo1:=kD_ hHq.hO 1;clear hHq; have p1393:0≤(x26_1:Int):=oB_ qe_;have q1393:x26_1 < (s.W.length:Int):=oB_ qe_;obtain ⟨ad1393,e1393,hx1393_0⟩:=Kd.at_string (Kd.R_reads' HO_8.out).2.2 x26_1 p1393 q1393;obtain rfl:ad1386 = ad1393:=(by injection e1393);replace p1393:=eq_true p1393;replace q1393:=eq_true q1393) | (go_at_call 73;(with_reducible refine (Z61.calls k2 (rdOf ByteArray.empty s.W x26_1) true _ A28.out).mono ?_);rintro e w52 ⟨rfl,hb⟩;replace HO_6:=rb_ HO_6 hb;replace HO_8:=rb_ HO_8 hb;replace HO_29:=rb_ HO_29 hb;replace HO1390:=rb_ HO1390 hb;replace BK1371:=bb_ BK1371 hb;replace HB:=b1_ hb;clear hb) | (go_at_call 73;(with_reducible refine (Z61.calls k2 (((rdOf ByteArray.empty s.W x26_1) ++ (strOfNums y1388)) ++ t1391) false _ A30.out).mono ?_);rintro e w53 ⟨rfl,hb⟩;replace HO_6:=rb_ HO_6 hb;replace HO_8:=rb_ HO_8 hb;replace HO_29:=rb_ HO_29 hb;replace HO1390:=rb_ HO1390 hb;replace BK1371:=bb_ BK1371 hb;replace HB:=b1_ hb;clear hb))
             go_ret2
             exact ⟨_,by first | rfl | (simp [errW_none,errW_some] <;> rfl) | (simp only [← hji18];first | rfl | (simp [errW_none,errW_some] <;> rfl)) | (simp [*,errW_none,errW_some] <;> rfl),by first | exact Kd.R_nil _ _ _ _ _ | exact Kd.N_nil _ _ _ _ _ | exact Kd.V_nil _ _ _ _ _ | exact Kd.Q_nil _ _ _ _ _ | exact Kd.S_nil _ _ _ _ _,bE_ HB0.out HB.out⟩
          ·replace c29:=Bool.eq_false_iff.mpr c29
           subst c29
           have H1:(some (([]:List ByteArray),false)) = some (r1,r2):=by rw [if_neg (show ¬ (false = true) by decide)] at H;exact H
           clear H
           have H:=H1
           clear H1
           simp only [Option.some.injEq,Prod.mk.injEq] at H
           obtain ⟨rfl,rfl⟩:=H
           have p1385:0≤(x31_2:Int):=oB_ qe_
           have q1385:x31_2 < (y1382.length:Int):=oB_ qe_
           have LET:=A_ (Z5.let2 Ny1382.out p1385 q1385)
           obtain ⟨ad1385,e1385,hx1385_0⟩:=Kd.at_int (Kd.R_reads' HO_29.out).2.2 x31_2 p1385 q1385
           cases e1385
           replace p1385:=eq_true p1385
           replace q1385:=eq_true q1385
           have hsk:=Z5.skp_no c17
           rw [hji18] at hsk
           have okv:=Z5.okk_out OKC.out
           rw [hji18] at okv
           obtain ⟨ov0,ov1,ov2,ov3,ov4⟩:=okv
           have HHr:=HH.out.below HB.out
           obtain ⟨AR,cR,hRR,hlk⟩:=Z5.look HHr LET.out
           obtain ⟨adR,eR,hxR⟩:=Kd.at_int (Kd.R_reads' hRR).2.2 x26_1 ov0 ov1
           cases eR
           rw [show rd (Z5.row s (rd y1382 x31_2)) x26_1 = ji18 from hji18] at hxR
           obtain ⟨AF,cF,eF⟩:=Kd.R_slice HHr.hF
           subst eF
           obtain ⟨adF,eF,hxF⟩:=Kd.at_int (Kd.R_reads' HHr.hF).2.2 ji18 ov2 ov3
           cases eF
           obtain ⟨AB,cB,eB⟩:=Kd.R_slice HHr.hB
           subst eB
           obtain ⟨adB,eB,hxB⟩:=Kd.at_int (Kd.R_reads' HHr.hB).2.2 ji18 ov2 ov4
           cases eB
           have hco1:wr.cell? ⟨gO,1,none⟩ = some vW:=(blk_cell HHr.hO 1).trans rfl
           have hfo1:=kD_ HHr.hO 1
           have hco2:wr.cell? ⟨gO,2,none⟩ = some (.slice (some adF) s.F.length cF):=(blk_cell HHr.hO 2).trans rfl
           have hfo2:=kD_ HHr.hO 2
           have hco3:wr.cell? ⟨gO,3,none⟩ = some (.slice (some adB) s.B.length cB):=(blk_cell HHr.hO 3).trans rfl
           have hfo3:=kD_ HHr.hO 3
           have hco4:wr.cell? ⟨gO,4,none⟩ = some (.map (some gM)):=(blk_cell HHr.hO 4).trans rfl
           have hfo4:=kD_ HHr.hO 4
           clear HHr hRR
           have ov1d:=oC_ ov1
           have ov3d:=oC_ ov3
           have ov4d:=oC_ ov4
           replace ov0:=eq_true ov0
           replace ov1:=eq_true ov1
           replace ov2:=eq_true ov2
           replace ov3:=eq_true ov3
           replace ov4:=eq_true ov4
           obtain ⟨Ao54,co54,eo54⟩:=Kd.R_slice HO_8.out
           subst eo54
           have p1386:0≤((ji18):Int):=oB_ qe_
           have q1386:(ji18) < (s.W.length:Int):=oB_ qe_
           obtain ⟨ad1386,e1386,hx1386_0⟩:=Kd.at_string (Kd.R_reads' HO_8.out).2.2 (ji18) p1386 q1386
           cases e1386
           replace p1386:=eq_true p1386
           replace q1386:=eq_true q1386
           have p1387:0≤(x26_1:Int):=oB_ qe_
           have q1387:x26_1 < (s.W.length:Int):=oB_ qe_
           obtain ⟨ad1387,e1387,hx1387_0⟩:=Kd.at_string (Kd.R_reads' HO_8.out).2.2 x26_1 p1387 q1387
           obtain rfl:ad1386 = ad1387:=(by injection e1387)
           replace p1387:=eq_true p1387
           replace q1387:=eq_true q1387
           rcases hsk with s1 | ⟨s1,s2⟩
           all_goals
            go_wp2
            replace HO_6:=A_ (rC_ HO_6.out)
            replace HO_8:=A_ (rC_ HO_8.out)
            replace HO_29:=A_ (rC_ HO_29.out)
            replace BK1371:=A_ (kB_ BK1371.out)
            replace HB:=A_ (bC_ HB.out)
            refine start_ (n:=15) (S:=fun w'=>w'.cell? ⟨gO,1,none⟩ = some (.slice (some ad1386) s.W.length co54)∧w'.cell? (ad1386.add (x26_1).toNat) = some (.string (rdOf ByteArray.empty s.W x26_1))) (ds:=[]) (bl_ 15 0) (by kernel_rfl) rfl (by kernel_rfl) ⟨hco1,hx1387_0⟩ (fun hHeld=>?_);refine with_tabW Z5.tab14 Z5.bits14 (fun HT_ HW_=>?_)
            generalize wr.drew = w55 at HO_6 HO_8 HO_29 BK1371 HB hHeld ⊢
            refine pu_ 0 (some 71) (bl_ 15 1) HT_ ?_
            refine pu_ 1 (some 72) (bl_ 15 3) HT_ ?_
            refine pu_ 2 (some 73) (bl_ 15 7) HT_ ?_
            refine ta_ 3 (some 74) (bl_ 15 15) HT_ HW_ hHeld ?_
            refine pu_ 4 (some 75) (bl_ 15 31) HT_ ?_
            refine pu_ 5 (some 76) (bl_ 15 63) HT_ ?_
            refine ta_ 6 (some 77) (bl_ 15 127) HT_ HW_ hHeld ?_
            refine pu_ 7 (some 78) (bl_ 15 255) HT_ ?_
            refine pu_ 11 (some 82) (bl_ 15 2303) HT_ ?_
            refine join_ (σ:=Value) 2 (bl_ 15 8191) (fun s_=>[(79,s_),(80,.string (strOfNums y1388)),(83,.string t1391),(81,.string ((rdOf ByteArray.empty s.W x26_1) ++ (strOfNums y1388)))]) (fun s_ w'=>(Kd.R (Kd.int .u8) 5 w' wz.heap.size (fun k_=>some k_≠(.slice (some ad1385) y1382.length co13:Value).ownBlock) s_ y1388)∧(Kd.R (Kd.int .u8) 5 w' wz.heap.size (fun k_=>some k_≠(s_:Value).ownBlock) (.slice (some ad1385) y1382.length co13) y1382)∧(Kd.R Kd.string 9 w' wz.heap.size (fun k_=>some k_≠(.slice (some ad1386) s.W.length co54:Value).ownBlock) u6 x6_2)∧(Kd.R Kd.string 9 w' w.heap.size (fun k_=>some k_≠(u6:Value).ownBlock) (.slice (some ad1386) s.W.length co54) s.W)∧(w'.heap[gs]? = some (.cells #[.slice A0_0 l0_0.length c0_0,.slice A0_1 l0_1.length c0_1] 25 (0,0)))∧(Below wz.heap.size wz w')) ?_ ?_
            rotate_left
            ·intro hCont
             refine two_ (i:=8) (j:=12) (Ni:=some 79) (Nj:=some 83) (bl_ 15 2559) (bl_ 15 6399) rfl rfl rfl rfl (two_of HT_.out (by kernel_rfl)) (by decide) (by decide) (fun K hK=>?_) (fun K hK=>?_)
             ·skip
              refine Kd.R_lit_step (Kd.int .u8) _ 5 ?hg (N:=79) ?hd (xs:=([rd y1382 x31_2]:List Int)) (inner:=[.int .u8 (rd y1382 x31_2)]) (ok:=fun _=>True) (okp:=fun _=>True) ?hr ?hp (fun _ hk=>hk) trivial (Below.refl _ _) (nA_ _) (by simp) ?_;(case hd=>rfl);(case hg=>rfl);(case hr=>first | (go_simp;done) | (go_simp;rfl));(case hp=>exact (Reps.one (show Kd.M (Kd.int .u8) _ _ _ (rd y1382 x31_2) [.int .u8 (rd y1382 x31_2)] from rfl) (Reps.none _ _)))
              intro v1389 w56 ho57 hb hg_ hnew_
              clear hg_ hnew_
              (first | rw [← Ny1388.out] at ho57 | (simp only [Int.reduceToNat] at ho57;rw [← Ny1388.out] at ho57))
              replace HO_6:=rb_ HO_6 hb
              replace HO_8:=rb_ HO_8 hb
              have HO1390:=A_ (rE_ (Kd.R_new' ho57 (Kd.R_lt (rr_ HO_29))) (bF_ hB_))
              replace HO_29:=A_ (Kd.R_elder' (rr_ HO_29) (Kd.R_base ho57) hb)
              replace BK1371:=bb_ BK1371 hb
              replace HB:=b1_ hb
              have hS_:=And.intro ((hb.cell (World.block_lt_of_cell? _ _ hHeld.1)).trans hHeld.1) ((hb.cell (World.block_lt_of_cell? _ _ hHeld.2)).trans hHeld.2)
              clear hb ho57
              refine hK.out _ _ (by first | exact hS_ | exact hHeld) (fun hHeld=>?_)
              clear hK K
              refine no_ (some 79) ?_
              refine two_ (i:=9) (j:=12) (Ni:=some 80) (Nj:=some 83) (bl_ 15 3071) (bl_ 15 6655) rfl rfl rfl rfl (two_of HT_.out (by kernel_rfl)) (by decide) (by decide) (fun K hK=>?_) (fun K hK=>?_)
              ·skip
               have hcv58:=own_string (P:=Try.prog) Try.underlying22 Try.underlying5 Try.underlying9 (Kd.own_of_R HO1390.out)
               refine value_ (w1:=?_) (v:=?_) (by rfl) rfl ?_ ?_
               rotate_left 2
               ·go_simp
                constructor
                ·rfl
                ·rfl
               clear hcv58
               refine hK.out _ _ (by first | exact hS_ | exact hHeld) (fun hHeld=>?_)
               clear hK K
               refine no_ (some 80) ?_
               refine pu_ 10 (some 81) (bl_ 15 4095) HT_ ?_
               refine on_ 12 (some 83) (bl_ 15 8191) HT_ (fun K hK=>?_)
               refine gO_ Try.func90 #[.string (rdOf ByteArray.empty s.W (ji18))] (by rfl) rfl rfl (by (try simp only [mA_,mB_,mC_]);first | done | (simp only [hji18];rfl) | rfl | (simp only [lA_,lB_];rfl)) ?_
               with_reducible refine (Z17.calls k2 (rdOf ByteArray.empty s.W (ji18)) t1391 _ A24.out).mono ?_
               rintro e w59 ⟨rfl,hb⟩
               refine ⟨_,rfl,?_⟩
               replace HO_6:=rb_ HO_6 hb
               replace HO_8:=rb_ HO_8 hb
               replace HO_29:=rb_ HO_29 hb
               replace HO1390:=rb_ HO1390 hb
               replace BK1371:=bb_ BK1371 hb
               replace HB:=b1_ hb
               have hS_:=And.intro ((hb.cell (World.block_lt_of_cell? _ _ hHeld.1)).trans hHeld.1) ((hb.cell (World.block_lt_of_cell? _ _ hHeld.2)).trans hHeld.2)
               clear hb
               refine hK.out _ _ (by first | exact hS_ | exact hHeld) (fun hHeld=>?_)
               clear hK K
               refine no_ (some 83) ?_
               exact norm_ (by simp only [putAll,Act.put,sA_,sB_,sC_]) (hCont (v1389) _ ⟨(rw_ (Kd.R_mono HO1390.out (fun _ hk=>hk.2))),(rw_ (Kd.R_mono HO_29.out (fun _ hk=>hk.2))),(rr_ HO_6),(rr_ HO_8),(kk_ BK1371),hB_⟩)
              ·skip
               refine gO_ Try.func90 #[.string (rdOf ByteArray.empty s.W (ji18))] (by rfl) rfl rfl (by (try simp only [mA_,mB_,mC_]);first | done | (simp only [hji18];rfl) | rfl | (simp only [lA_,lB_];rfl)) ?_
               with_reducible refine (Z17.calls k2 (rdOf ByteArray.empty s.W (ji18)) t1391 _ A24.out).mono ?_
               rintro e w58 ⟨rfl,hb⟩
               refine ⟨_,rfl,?_⟩
               replace HO_6:=rb_ HO_6 hb
               replace HO_8:=rb_ HO_8 hb
               replace HO_29:=rb_ HO_29 hb
               replace HO1390:=rb_ HO1390 hb
               replace BK1371:=bb_ BK1371 hb
               replace HB:=b1_ hb
               have hS_:=And.intro ((hb.cell (World.block_lt_of_cell? _ _ hHeld.1)).trans hHeld.1) ((hb.cell (World.block_lt_of_cell? _ _ hHeld.2)).trans hHeld.2)
               clear hb
               refine hK.out _ _ (by first | exact hS_ | exact hHeld) (fun hHeld=>?_)
               clear hK K
               refine no_ (some 83) ?_
               refine on_ 9 (some 80) (bl_ 15 7167) HT_ (fun K hK=>?_)
               have hcv59:=own_string (P:=Try.prog) Try.underlying22 Try.underlying5 Try.underlying9 (Kd.own_of_R HO1390.out)
               refine value_ (w1:=?_) (v:=?_) (by rfl) rfl ?_ ?_
               rotate_left 2
               ·go_simp
                constructor
                ·rfl
                ·rfl
               clear hcv59
               refine hK.out _ _ (by first | exact hS_ | exact hHeld) (fun hHeld=>?_)
               clear hK K
               refine no_ (some 80) ?_
               refine pu_ 10 (some 81) (bl_ 15 8191) HT_ ?_
               exact norm_ (by simp only [putAll,Act.put,sA_,sB_,sC_]) (hCont (v1389) _ ⟨(rw_ (Kd.R_mono HO1390.out (fun _ hk=>hk.2))),(rw_ (Kd.R_mono HO_29.out (fun _ hk=>hk.2))),(rr_ HO_6),(rr_ HO_8),(kk_ BK1371),hB_⟩)
             ·skip
              refine gO_ Try.func90 #[.string (rdOf ByteArray.empty s.W (ji18))] (by rfl) rfl rfl (by (try simp only [mA_,mB_,mC_]);first | done | (simp only [hji18];rfl) | rfl | (simp only [lA_,lB_];rfl)) ?_
              with_reducible refine (Z17.calls k2 (rdOf ByteArray.empty s.W (ji18)) t1391 _ A24.out).mono ?_
              rintro e w56 ⟨rfl,hb⟩
              refine ⟨_,rfl,?_⟩
              replace HO_6:=rb_ HO_6 hb
              replace HO_8:=rb_ HO_8 hb
              replace HO_29:=rb_ HO_29 hb
              replace BK1371:=bb_ BK1371 hb
              replace HB:=b1_ hb
              have hS_:=And.intro ((hb.cell (World.block_lt_of_cell? _ _ hHeld.1)).trans hHeld.1) ((hb.cell (World.block_lt_of_cell? _ _ hHeld.2)).trans hHeld.2)
              clear hb
              refine hK.out _ _ (by first | exact hS_ | exact hHeld) (fun hHeld=>?_)
              clear hK K
              refine no_ (some 83) ?_
              refine on_ 8 (some 79) (bl_ 15 6655) HT_ (fun K hK=>?_)
              refine Kd.R_lit_step (Kd.int .u8) _ 5 ?hg (N:=79) ?hd (xs:=([rd y1382 x31_2]:List Int)) (inner:=[.int .u8 (rd y1382 x31_2)]) (ok:=fun _=>True) (okp:=fun _=>True) ?hr ?hp (fun _ hk=>hk) trivial (Below.refl _ _) (nA_ _) (by simp) ?_;(case hd=>rfl);(case hg=>rfl);(case hr=>first | (go_simp;done) | (go_simp;rfl));(case hp=>exact (Reps.one (show Kd.M (Kd.int .u8) _ _ _ (rd y1382 x31_2) [.int .u8 (rd y1382 x31_2)] from rfl) (Reps.none _ _)))
              intro v1389 w57 ho58 hb hg_ hnew_
              clear hg_ hnew_
              (first | rw [← Ny1388.out] at ho58 | (simp only [Int.reduceToNat] at ho58;rw [← Ny1388.out] at ho58))
              replace HO_6:=rb_ HO_6 hb
              replace HO_8:=rb_ HO_8 hb
              have HO1390:=A_ (rE_ (Kd.R_new' ho58 (Kd.R_lt (rr_ HO_29))) (bF_ hB_))
              replace HO_29:=A_ (Kd.R_elder' (rr_ HO_29) (Kd.R_base ho58) hb)
              replace BK1371:=bb_ BK1371 hb
              replace HB:=b1_ hb
              have hS_:=And.intro ((hb.cell (World.block_lt_of_cell? _ _ hHeld.1)).trans hHeld.1) ((hb.cell (World.block_lt_of_cell? _ _ hHeld.2)).trans hHeld.2)
              clear hb ho58
              refine hK.out _ _ (by first | exact hS_ | exact hHeld) (fun hHeld=>?_)
              clear hK K
              refine no_ (some 79) ?_
              refine on_ 9 (some 80) (bl_ 15 7167) HT_ (fun K hK=>?_)
              have hcv59:=own_string (P:=Try.prog) Try.underlying22 Try.underlying5 Try.underlying9 (Kd.own_of_R HO1390.out)
              refine value_ (w1:=?_) (v:=?_) (by rfl) rfl ?_ ?_
              rotate_left 2
              ·go_simp
               constructor
               ·rfl
               ·rfl
              clear hcv59
              refine hK.out _ _ (by first | exact hS_ | exact hHeld) (fun hHeld=>?_)
              clear hK K
              refine no_ (some 80) ?_
              refine pu_ 10 (some 81) (bl_ 15 8191) HT_ ?_
              exact norm_ (by simp only [putAll,Act.put,sA_,sB_,sC_]) (hCont (v1389) _ ⟨(rw_ (Kd.R_mono HO1390.out (fun _ hk=>hk.2))),(rw_ (Kd.R_mono HO_29.out (fun _ hk=>hk.2))),(rr_ HO_6),(rr_ HO_8),(kk_ BK1371),hB_⟩)
            rintro v1389 w60 ⟨h0_,h1_,h2_,h3_,h4_,h5_⟩
            have n0_:Aside0 (Kd.R (Kd.int .u8) 5 w60 wz.heap.size (fun k_=>some k_≠(.slice (some ad1385) y1382.length co13:Value).ownBlock) v1389 y1388):=⟨h0_⟩
            have n1_:Aside0 (Kd.R (Kd.int .u8) 5 w60 wz.heap.size (fun k_=>some k_≠(v1389:Value).ownBlock) (.slice (some ad1385) y1382.length co13) y1382):=⟨h1_⟩
            have n2_:Aside0 (Kd.R Kd.string 9 w60 wz.heap.size (fun k_=>some k_≠(.slice (some ad1386) s.W.length co54:Value).ownBlock) u6 x6_2):=⟨h2_⟩
            have n3_:Aside0 (Kd.R Kd.string 9 w60 w.heap.size (fun k_=>some k_≠(u6:Value).ownBlock) (.slice (some ad1386) s.W.length co54) s.W):=⟨h3_⟩
            have n4_:Aside0 (w60.heap[gs]? = some (.cells #[.slice A0_0 l0_0.length c0_0,.slice A0_1 l0_1.length c0_1] 25 (0,0))):=⟨h4_⟩
            have n5_:Aside0 (Below wz.heap.size wz w60):=⟨h5_⟩
            clear HO_6
            clear HO_8
            clear HO_29
            clear BK1371
            clear HB
            clear h0_ h1_ h2_ h3_ h4_ h5_
            have HO1390:=n0_
            have HO_29:=n1_
            have HO_6:=n2_
            have HO_8:=n3_
            have BK1371:=n4_
            have HB:=n5_
            clear n0_ n1_ n2_ n3_ n4_ n5_
            have hHeld:=trivial
            refine norm_ (a':=?_) ?_ ?_
            rotate_left
            ·simp only [putAll,Act.put,sA_,sB_,sC_]
             rfl
            refine pu_ 13 (some 84) (bl_ 15 16383) HT_ ?_
            refine pu_ 14 (some 12) (bl_ 15 32767) HT_ ?_
            refine done_ (done_of HT_.out (by kernel_rfl)) ?_
            try go_wp2_with (first | ((with_reducible refine gA_ (f:=73) rfl ?_);refine gL_ (some 86) Try.func73 #[.string (rdOf ByteArray.empty s.W (ji18))] rfl (by (try simp only [mA_,mB_,mC_]);first | done | (simp only [hji18];rfl) | rfl | (simp only [lA_,lB_];rfl)) ?_;(with_reducible refine (Z61.calls k2 (rdOf ByteArray.empty s.W (ji18)) true _ A26.out).mono ?_);rintro e w61 ⟨rfl,hb⟩;refine ⟨_,rfl,?_⟩;replace HO_6:=rb_ HO_6 hb;replace HO_8:=rb_ HO_8 hb;replace HO_29:=rb_ HO_29 hb;replace HO1390:=rb_ HO1390 hb;replace BK1371:=bb_ BK1371 hb;replace HB:=b1_ hb;clear hb;have hHq:=HH.out.below HB.out;have hco1:w61.cell? ⟨gO,1,none⟩ = some (.slice (some ad1386) s.W.length co54):=(blk_cell hHq.hO 1).trans rfl;have hfo1:=kD_ hHq.hO 1;clear hHq; have p1393:0≤(x26_1:Int):=oB_ qe_;have q1393:x26_1 < (s.W.length:Int):=oB_ qe_;obtain ⟨ad1393,e1393,hx1393_0⟩:=Kd.at_string (Kd.R_reads' HO_8.out).2.2 x26_1 p1393 q1393;obtain rfl:ad1386 = ad1393:=(by injection e1393);replace p1393:=eq_true p1393;replace q1393:=eq_true q1393) | (go_at_call 73;(with_reducible refine (Z61.calls k2 (rdOf ByteArray.empty s.W x26_1) false _ A28.out).mono ?_);rintro e w62 ⟨rfl,hb⟩;replace HO_6:=rb_ HO_6 hb;replace HO_8:=rb_ HO_8 hb;replace HO_29:=rb_ HO_29 hb;replace HO1390:=rb_ HO1390 hb;replace BK1371:=bb_ BK1371 hb;replace HB:=b1_ hb;clear hb))
            go_ret2
            exact ⟨_,by first | rfl | (simp [errW_none,errW_some] <;> rfl) | (simp only [← hji18];first | rfl | (simp [errW_none,errW_some] <;> rfl)) | (simp [*,errW_none,errW_some] <;> rfl),by first | exact Kd.R_nil _ _ _ _ _ | exact Kd.N_nil _ _ _ _ _ | exact Kd.V_nil _ _ _ _ _ | exact Kd.Q_nil _ _ _ _ _ | exact Kd.S_nil _ _ _ _ _,bE_ HB0.out HB.out⟩
         ·replace c27:=Bool.eq_false_iff.mpr c27
          subst c27
          have H1:(some (([]:List ByteArray),false)) = some (r1,r2):=by rw [if_neg (show ¬ (false = true) by decide)] at H;exact H
          clear H
          have H:=H1
          clear H1
          simp only [Option.some.injEq,Prod.mk.injEq] at H
          obtain ⟨rfl,rfl⟩:=H
          have p1385:0≤(x31_2:Int):=oB_ qe_
          have q1385:x31_2 < (y1382.length:Int):=oB_ qe_
          have LET:=A_ (Z5.let2 Ny1382.out p1385 q1385)
          obtain ⟨ad1385,e1385,hx1385_0⟩:=Kd.at_int (Kd.R_reads' HO_29.out).2.2 x31_2 p1385 q1385
          cases e1385
          replace p1385:=eq_true p1385
          replace q1385:=eq_true q1385
          have hsk:=Z5.skp_no c17
          rw [hji18] at hsk
          have okv:=Z5.okk_out OKC.out
          rw [hji18] at okv
          obtain ⟨ov0,ov1,ov2,ov3,ov4⟩:=okv
          have HHr:=HH.out.below HB.out
          obtain ⟨AR,cR,hRR,hlk⟩:=Z5.look HHr LET.out
          obtain ⟨adR,eR,hxR⟩:=Kd.at_int (Kd.R_reads' hRR).2.2 x26_1 ov0 ov1
          cases eR
          rw [show rd (Z5.row s (rd y1382 x31_2)) x26_1 = ji18 from hji18] at hxR
          obtain ⟨AF,cF,eF⟩:=Kd.R_slice HHr.hF
          subst eF
          obtain ⟨adF,eF,hxF⟩:=Kd.at_int (Kd.R_reads' HHr.hF).2.2 ji18 ov2 ov3
          cases eF
          obtain ⟨AB,cB,eB⟩:=Kd.R_slice HHr.hB
          subst eB
          obtain ⟨adB,eB,hxB⟩:=Kd.at_int (Kd.R_reads' HHr.hB).2.2 ji18 ov2 ov4
          cases eB
          have hco1:wr.cell? ⟨gO,1,none⟩ = some vW:=(blk_cell HHr.hO 1).trans rfl
          have hfo1:=kD_ HHr.hO 1
          have hco2:wr.cell? ⟨gO,2,none⟩ = some (.slice (some adF) s.F.length cF):=(blk_cell HHr.hO 2).trans rfl
          have hfo2:=kD_ HHr.hO 2
          have hco3:wr.cell? ⟨gO,3,none⟩ = some (.slice (some adB) s.B.length cB):=(blk_cell HHr.hO 3).trans rfl
          have hfo3:=kD_ HHr.hO 3
          have hco4:wr.cell? ⟨gO,4,none⟩ = some (.map (some gM)):=(blk_cell HHr.hO 4).trans rfl
          have hfo4:=kD_ HHr.hO 4
          clear HHr hRR
          have ov1d:=oC_ ov1
          have ov3d:=oC_ ov3
          have ov4d:=oC_ ov4
          replace ov0:=eq_true ov0
          replace ov1:=eq_true ov1
          replace ov2:=eq_true ov2
          replace ov3:=eq_true ov3
          replace ov4:=eq_true ov4
          obtain ⟨Ao63,co63,eo63⟩:=Kd.R_slice HO_8.out
          subst eo63
          have p1386:0≤((ji18):Int):=oB_ qe_
          have q1386:(ji18) < (s.W.length:Int):=oB_ qe_
          obtain ⟨ad1386,e1386,hx1386_0⟩:=Kd.at_string (Kd.R_reads' HO_8.out).2.2 (ji18) p1386 q1386
          cases e1386
          replace p1386:=eq_true p1386
          replace q1386:=eq_true q1386
          have p1387:0≤(x26_1:Int):=oB_ qe_
          have q1387:x26_1 < (s.W.length:Int):=oB_ qe_
          obtain ⟨ad1387,e1387,hx1387_0⟩:=Kd.at_string (Kd.R_reads' HO_8.out).2.2 x26_1 p1387 q1387
          obtain rfl:ad1386 = ad1387:=(by injection e1387)
          replace p1387:=eq_true p1387
          replace q1387:=eq_true q1387
          rcases hsk with s1 | ⟨s1,s2⟩
          all_goals
           go_wp2
           replace HO_6:=A_ (rC_ HO_6.out)
           replace HO_8:=A_ (rC_ HO_8.out)
           replace HO_29:=A_ (rC_ HO_29.out)
           replace BK1371:=A_ (kB_ BK1371.out)
           replace HB:=A_ (bC_ HB.out)
           refine start_ (n:=15) (S:=fun w'=>w'.cell? ⟨gO,1,none⟩ = some (.slice (some ad1386) s.W.length co63)∧w'.cell? (ad1386.add (x26_1).toNat) = some (.string (rdOf ByteArray.empty s.W x26_1))) (ds:=[]) (bl_ 15 0) (by kernel_rfl) rfl (by kernel_rfl) ⟨hco1,hx1387_0⟩ (fun hHeld=>?_);refine with_tabW Z5.tab14 Z5.bits14 (fun HT_ HW_=>?_)
           generalize wr.drew = w64 at HO_6 HO_8 HO_29 BK1371 HB hHeld ⊢
           refine pu_ 0 (some 71) (bl_ 15 1) HT_ ?_
           refine pu_ 1 (some 72) (bl_ 15 3) HT_ ?_
           refine pu_ 2 (some 73) (bl_ 15 7) HT_ ?_
           refine ta_ 3 (some 74) (bl_ 15 15) HT_ HW_ hHeld ?_
           refine pu_ 4 (some 75) (bl_ 15 31) HT_ ?_
           refine pu_ 5 (some 76) (bl_ 15 63) HT_ ?_
           refine ta_ 6 (some 77) (bl_ 15 127) HT_ HW_ hHeld ?_
           refine pu_ 7 (some 78) (bl_ 15 255) HT_ ?_
           refine pu_ 11 (some 82) (bl_ 15 2303) HT_ ?_
           refine join_ (σ:=Value) 2 (bl_ 15 8191) (fun s_=>[(79,s_),(80,.string (strOfNums y1388)),(83,.string t1391),(81,.string ((rdOf ByteArray.empty s.W x26_1) ++ (strOfNums y1388)))]) (fun s_ w'=>(Kd.R (Kd.int .u8) 5 w' wz.heap.size (fun k_=>some k_≠(.slice (some ad1385) y1382.length co13:Value).ownBlock) s_ y1388)∧(Kd.R (Kd.int .u8) 5 w' wz.heap.size (fun k_=>some k_≠(s_:Value).ownBlock) (.slice (some ad1385) y1382.length co13) y1382)∧(Kd.R Kd.string 9 w' wz.heap.size (fun k_=>some k_≠(.slice (some ad1386) s.W.length co63:Value).ownBlock) u6 x6_2)∧(Kd.R Kd.string 9 w' w.heap.size (fun k_=>some k_≠(u6:Value).ownBlock) (.slice (some ad1386) s.W.length co63) s.W)∧(w'.heap[gs]? = some (.cells #[.slice A0_0 l0_0.length c0_0,.slice A0_1 l0_1.length c0_1] 25 (0,0)))∧(Below wz.heap.size wz w')) ?_ ?_
           rotate_left
           ·intro hCont
            refine two_ (i:=8) (j:=12) (Ni:=some 79) (Nj:=some 83) (bl_ 15 2559) (bl_ 15 6399) rfl rfl rfl rfl (two_of HT_.out (by kernel_rfl)) (by decide) (by decide) (fun K hK=>?_) (fun K hK=>?_)
            ·skip
             refine Kd.R_lit_step (Kd.int .u8) _ 5 ?hg (N:=79) ?hd (xs:=([rd y1382 x31_2]:List Int)) (inner:=[.int .u8 (rd y1382 x31_2)]) (ok:=fun _=>True) (okp:=fun _=>True) ?hr ?hp (fun _ hk=>hk) trivial (Below.refl _ _) (nA_ _) (by simp) ?_;(case hd=>rfl);(case hg=>rfl);(case hr=>first | (go_simp;done) | (go_simp;rfl));(case hp=>exact (Reps.one (show Kd.M (Kd.int .u8) _ _ _ (rd y1382 x31_2) [.int .u8 (rd y1382 x31_2)] from rfl) (Reps.none _ _)))
             intro v1389 w65 ho66 hb hg_ hnew_
             clear hg_ hnew_
             (first | rw [← Ny1388.out] at ho66 | (simp only [Int.reduceToNat] at ho66;rw [← Ny1388.out] at ho66))
             replace HO_6:=rb_ HO_6 hb
             replace HO_8:=rb_ HO_8 hb
             have HO1390:=A_ (rE_ (Kd.R_new' ho66 (Kd.R_lt (rr_ HO_29))) (bF_ hB_))
             replace HO_29:=A_ (Kd.R_elder' (rr_ HO_29) (Kd.R_base ho66) hb)
             replace BK1371:=bb_ BK1371 hb
             replace HB:=b1_ hb
             have hS_:=And.intro ((hb.cell (World.block_lt_of_cell? _ _ hHeld.1)).trans hHeld.1) ((hb.cell (World.block_lt_of_cell? _ _ hHeld.2)).trans hHeld.2)
             clear hb ho66
             refine hK.out _ _ (by first | exact hS_ | exact hHeld) (fun hHeld=>?_)
             clear hK K
             refine no_ (some 79) ?_
             refine two_ (i:=9) (j:=12) (Ni:=some 80) (Nj:=some 83) (bl_ 15 3071) (bl_ 15 6655) rfl rfl rfl rfl (two_of HT_.out (by kernel_rfl)) (by decide) (by decide) (fun K hK=>?_) (fun K hK=>?_)
             ·skip
              have hcv67:=own_string (P:=Try.prog) Try.underlying22 Try.underlying5 Try.underlying9 (Kd.own_of_R HO1390.out)
              refine value_ (w1:=?_) (v:=?_) (by rfl) rfl ?_ ?_
              rotate_left 2
              ·go_simp
               constructor
               ·rfl
               ·rfl
              clear hcv67
              refine hK.out _ _ (by first | exact hS_ | exact hHeld) (fun hHeld=>?_)
              clear hK K
              refine no_ (some 80) ?_
              refine pu_ 10 (some 81) (bl_ 15 4095) HT_ ?_
              refine on_ 12 (some 83) (bl_ 15 8191) HT_ (fun K hK=>?_)
              refine gO_ Try.func90 #[.string (rdOf ByteArray.empty s.W (ji18))] (by rfl) rfl rfl (by (try simp only [mA_,mB_,mC_]);first | done | (simp only [hji18];rfl) | rfl | (simp only [lA_,lB_];rfl)) ?_
              with_reducible refine (Z17.calls k2 (rdOf ByteArray.empty s.W (ji18)) t1391 _ A24.out).mono ?_
              rintro e w68 ⟨rfl,hb⟩
              refine ⟨_,rfl,?_⟩
              replace HO_6:=rb_ HO_6 hb
              replace HO_8:=rb_ HO_8 hb
              replace HO_29:=rb_ HO_29 hb
              replace HO1390:=rb_ HO1390 hb
              replace BK1371:=bb_ BK1371 hb
              replace HB:=b1_ hb
              have hS_:=And.intro ((hb.cell (World.block_lt_of_cell? _ _ hHeld.1)).trans hHeld.1) ((hb.cell (World.block_lt_of_cell? _ _ hHeld.2)).trans hHeld.2)
              clear hb
              refine hK.out _ _ (by first | exact hS_ | exact hHeld) (fun hHeld=>?_)
              clear hK K
              refine no_ (some 83) ?_
              exact norm_ (by simp only [putAll,Act.put,sA_,sB_,sC_]) (hCont (v1389) _ ⟨(rw_ (Kd.R_mono HO1390.out (fun _ hk=>hk.2))),(rw_ (Kd.R_mono HO_29.out (fun _ hk=>hk.2))),(rr_ HO_6),(rr_ HO_8),(kk_ BK1371),hB_⟩)
             ·skip
              refine gO_ Try.func90 #[.string (rdOf ByteArray.empty s.W (ji18))] (by rfl) rfl rfl (by (try simp only [mA_,mB_,mC_]);first | done | (simp only [hji18];rfl) | rfl | (simp only [lA_,lB_];rfl)) ?_
              with_reducible refine (Z17.calls k2 (rdOf ByteArray.empty s.W (ji18)) t1391 _ A24.out).mono ?_
              rintro e w67 ⟨rfl,hb⟩
              refine ⟨_,rfl,?_⟩
              replace HO_6:=rb_ HO_6 hb
              replace HO_8:=rb_ HO_8 hb
              replace HO_29:=rb_ HO_29 hb
              replace HO1390:=rb_ HO1390 hb
              replace BK1371:=bb_ BK1371 hb
              replace HB:=b1_ hb
              have hS_:=And.intro ((hb.cell (World.block_lt_of_cell? _ _ hHeld.1)).trans hHeld.1) ((hb.cell (World.block_lt_of_cell? _ _ hHeld.2)).trans hHeld.2)
              clear hb
              refine hK.out _ _ (by first | exact hS_ | exact hHeld) (fun hHeld=>?_)
              clear hK K
              refine no_ (some 83) ?_
              refine on_ 9 (some 80) (bl_ 15 7167) HT_ (fun K hK=>?_)
              have hcv68:=own_string (P:=Try.prog) Try.underlying22 Try.underlying5 Try.underlying9 (Kd.own_of_R HO1390.out)
              refine value_ (w1:=?_) (v:=?_) (by rfl) rfl ?_ ?_
              rotate_left 2
              ·go_simp
               constructor
               ·rfl
               ·rfl
              clear hcv68
              refine hK.out _ _ (by first | exact hS_ | exact hHeld) (fun hHeld=>?_)
              clear hK K
              refine no_ (some 80) ?_
              refine pu_ 10 (some 81) (bl_ 15 8191) HT_ ?_
              exact norm_ (by simp only [putAll,Act.put,sA_,sB_,sC_]) (hCont (v1389) _ ⟨(rw_ (Kd.R_mono HO1390.out (fun _ hk=>hk.2))),(rw_ (Kd.R_mono HO_29.out (fun _ hk=>hk.2))),(rr_ HO_6),(rr_ HO_8),(kk_ BK1371),hB_⟩)
            ·skip
             refine gO_ Try.func90 #[.string (rdOf ByteArray.empty s.W (ji18))] (by rfl) rfl rfl (by (try simp only [mA_,mB_,mC_]);first | done | (simp only [hji18];rfl) | rfl | (simp only [lA_,lB_];rfl)) ?_
             with_reducible refine (Z17.calls k2 (rdOf ByteArray.empty s.W (ji18)) t1391 _ A24.out).mono ?_
             rintro e w65 ⟨rfl,hb⟩
             refine ⟨_,rfl,?_⟩
             replace HO_6:=rb_ HO_6 hb
             replace HO_8:=rb_ HO_8 hb
             replace HO_29:=rb_ HO_29 hb
             replace BK1371:=bb_ BK1371 hb
             replace HB:=b1_ hb
             have hS_:=And.intro ((hb.cell (World.block_lt_of_cell? _ _ hHeld.1)).trans hHeld.1) ((hb.cell (World.block_lt_of_cell? _ _ hHeld.2)).trans hHeld.2)
             clear hb
             refine hK.out _ _ (by first | exact hS_ | exact hHeld) (fun hHeld=>?_)
             clear hK K
             refine no_ (some 83) ?_
             refine on_ 8 (some 79) (bl_ 15 6655) HT_ (fun K hK=>?_)
             refine Kd.R_lit_step (Kd.int .u8) _ 5 ?hg (N:=79) ?hd (xs:=([rd y1382 x31_2]:List Int)) (inner:=[.int .u8 (rd y1382 x31_2)]) (ok:=fun _=>True) (okp:=fun _=>True) ?hr ?hp (fun _ hk=>hk) trivial (Below.refl _ _) (nA_ _) (by simp) ?_;(case hd=>rfl);(case hg=>rfl);(case hr=>first | (go_simp;done) | (go_simp;rfl));(case hp=>exact (Reps.one (show Kd.M (Kd.int .u8) _ _ _ (rd y1382 x31_2) [.int .u8 (rd y1382 x31_2)] from rfl) (Reps.none _ _)))
             intro v1389 w66 ho67 hb hg_ hnew_
             clear hg_ hnew_
             (first | rw [← Ny1388.out] at ho67 | (simp only [Int.reduceToNat] at ho67;rw [← Ny1388.out] at ho67))
             replace HO_6:=rb_ HO_6 hb
             replace HO_8:=rb_ HO_8 hb
             have HO1390:=A_ (rE_ (Kd.R_new' ho67 (Kd.R_lt (rr_ HO_29))) (bF_ hB_))
             replace HO_29:=A_ (Kd.R_elder' (rr_ HO_29) (Kd.R_base ho67) hb)
             replace BK1371:=bb_ BK1371 hb
             replace HB:=b1_ hb
             have hS_:=And.intro ((hb.cell (World.block_lt_of_cell? _ _ hHeld.1)).trans hHeld.1) ((hb.cell (World.block_lt_of_cell? _ _ hHeld.2)).trans hHeld.2)
             clear hb ho67
             refine hK.out _ _ (by first | exact hS_ | exact hHeld) (fun hHeld=>?_)
             clear hK K
             refine no_ (some 79) ?_
             refine on_ 9 (some 80) (bl_ 15 7167) HT_ (fun K hK=>?_)
             have hcv68:=own_string (P:=Try.prog) Try.underlying22 Try.underlying5 Try.underlying9 (Kd.own_of_R HO1390.out)
             refine value_ (w1:=?_) (v:=?_) (by rfl) rfl ?_ ?_
             rotate_left 2
             ·go_simp
              constructor
              ·rfl
              ·rfl
             clear hcv68
             refine hK.out _ _ (by first | exact hS_ | exact hHeld) (fun hHeld=>?_)
             clear hK K
             refine no_ (some 80) ?_
             refine pu_ 10 (some 81) (bl_ 15 8191) HT_ ?_
             exact norm_ (by simp only [putAll,Act.put,sA_,sB_,sC_]) (hCont (v1389) _ ⟨(rw_ (Kd.R_mono HO1390.out (fun _ hk=>hk.2))),(rw_ (Kd.R_mono HO_29.out (fun _ hk=>hk.2))),(rr_ HO_6),(rr_ HO_8),(kk_ BK1371),hB_⟩)
           rintro v1389 w69 ⟨h0_,h1_,h2_,h3_,h4_,h5_⟩
           have n0_:Aside0 (Kd.R (Kd.int .u8) 5 w69 wz.heap.size (fun k_=>some k_≠(.slice (some ad1385) y1382.length co13:Value).ownBlock) v1389 y1388):=⟨h0_⟩
           have n1_:Aside0 (Kd.R (Kd.int .u8) 5 w69 wz.heap.size (fun k_=>some k_≠(v1389:Value).ownBlock) (.slice (some ad1385) y1382.length co13) y1382):=⟨h1_⟩
           have n2_:Aside0 (Kd.R Kd.string 9 w69 wz.heap.size (fun k_=>some k_≠(.slice (some ad1386) s.W.length co63:Value).ownBlock) u6 x6_2):=⟨h2_⟩
           have n3_:Aside0 (Kd.R Kd.string 9 w69 w.heap.size (fun k_=>some k_≠(u6:Value).ownBlock) (.slice (some ad1386) s.W.length co63) s.W):=⟨h3_⟩
           have n4_:Aside0 (w69.heap[gs]? = some (.cells #[.slice A0_0 l0_0.length c0_0,.slice A0_1 l0_1.length c0_1] 25 (0,0))):=⟨h4_⟩
           have n5_:Aside0 (Below wz.heap.size wz w69):=⟨h5_⟩
           clear HO_6
           clear HO_8
           clear HO_29
           clear BK1371
           clear HB
           clear h0_ h1_ h2_ h3_ h4_ h5_
           have HO1390:=n0_
           have HO_29:=n1_
           have HO_6:=n2_
           have HO_8:=n3_
           have BK1371:=n4_
           have HB:=n5_
           clear n0_ n1_ n2_ n3_ n4_ n5_
           have hHeld:=trivial
           refine norm_ (a':=?_) ?_ ?_
           rotate_left
           ·simp only [putAll,Act.put,sA_,sB_,sC_]
            rfl
           refine pu_ 13 (some 84) (bl_ 15 16383) HT_ ?_
           refine pu_ 14 (some 12) (bl_ 15 32767) HT_ ?_
           refine done_ (done_of HT_.out (by kernel_rfl)) ?_
           try go_wp2_with (first | ((with_reducible refine gA_ (f:=73) rfl ?_);refine gL_ (some 86) Try.func73 #[.string (rdOf ByteArray.empty s.W (ji18))] rfl (by (try simp only [mA_,mB_,mC_]);first | done | (simp only [hji18];rfl) | rfl | (simp only [lA_,lB_];rfl)) ?_;(with_reducible refine (Z61.calls k2 (rdOf ByteArray.empty s.W (ji18)) false _ A26.out).mono ?_);rintro e w70 ⟨rfl,hb⟩;refine ⟨_,rfl,?_⟩;replace HO_6:=rb_ HO_6 hb;replace HO_8:=rb_ HO_8 hb;replace HO_29:=rb_ HO_29 hb;replace HO1390:=rb_ HO1390 hb;replace BK1371:=bb_ BK1371 hb;replace HB:=b1_ hb;clear hb))
           go_ret2
           exact ⟨_,by first | rfl | (simp [errW_none,errW_some] <;> rfl) | (simp only [← hji18];first | rfl | (simp [errW_none,errW_some] <;> rfl)) | (simp [*,errW_none,errW_some] <;> rfl),by first | exact Kd.R_nil _ _ _ _ _ | exact Kd.N_nil _ _ _ _ _ | exact Kd.V_nil _ _ _ _ _ | exact Kd.Q_nil _ _ _ _ _ | exact Kd.S_nil _ _ _ _ _,bE_ HB0.out HB.out⟩
       ·rw [if_neg c14] at H
        have c14b0:=oD_ c14
        clear c14
        have H':=A_ H
        clear H
        go_wp2
        go_roundg k2
        case measure=>have:=HK1.out;have:=HK2.out;omega
        case rel=>exact ⟨(x6_2),(wrap64 (x26_1 + 1)),qc_,H',⟨by have:=HK1.out;have:=HK2.out;omega⟩,⟨(rr_ HO_6)⟩,⟨(rr_ HO_8)⟩,⟨(kk_ BK1371)⟩,⟨hB_⟩⟩
    ·rw [if_neg c10] at H
     have c10b0:=oD_ c10
     clear c10
     simp only [Option.some.injEq,Prod.mk.injEq] at H
     obtain ⟨rfl,rfl⟩:=H
     go_wp2
     go_ret2
     exact ⟨_,qb_,rE_ (Kd.R_mono (rr_ HO_6) (fun _ hk=>trivial)) (bF_ HB0.out),bE_ HB0.out HB.out⟩
end Go.Proofs.Ytcggfjpnfodbaaa.A
end
section
namespace Go.Proofs.Ytcggfjpnfodbaaa.A
open Go.RowKit Go.Proofs.YtcggfjpnfodbaaaW.PrintWords Go.Proofs.YtcggfjpnfodbaaaW.PrintLast Go.Proofs.YtcggfjpnfodbaaaW.PrintMore
attribute [local go_sem] max2_int min2_int max_two min_two max_three min_three max_four min_four
set_option linter.unusedVariables false
set_option linter.unusedSimpArgs false
def Z33.l0:Nat→List ByteArray→List ByteArray→Int→Option (Bool)
 | 0,_,_,_=>none
 | k + 1,x0,x1,x5=>if x5 < (x0.length:Int) then (if 0≤x5 then (if x5 < (x1.length:Int) then (if (rdOf ByteArray.empty x0 x5).toList = (rdOf ByteArray.empty x1 x5).toList then (Z33.l0 k x0 x1 (wrap64 (x5 + 1))) else (some false)) else (none)) else (none)) else (some true)
def Z33.f (k:Nat) (l0:List ByteArray) (l1:List ByteArray):Option (Bool):=if (l0.length:Int) = (l1.length:Int) then (Z33.l0 k l0 l1 0) else (some false)
theorem Z33.mono_l:∀ k,(∀ y0 y1 y2,LeO (Z33.l0 k y0 y1 y2) (Z33.l0 (k + 1) y0 y1 y2))
 | 0=>fun _ _ _ r h=>by simp [Z33.l0] at h
 | k + 1=>by
  have ih0:=Z33.mono_l k
  ·intro y0 y1 y2
   unfold Z33.l0
   repeat' first|exact ih0 _ _ _|exact lo_|refine LeO.ite ?_ ?_|refine LeO.bind ?_ (fun _=>?_)
theorem Z33.mono:∀ a0 a1 k,LeO (Z33.f k a0 a1) (Z33.f (k + 1) a0 a1):=by
 intro a0 a1 k
 have ih0:=Z33.mono_l k
 unfold Z33.f
 repeat' first|exact ih0 _ _ _|exact lo_|refine LeO.ite ?_ ?_|refine LeO.bind ?_ (fun _=>?_)
set_option maxHeartbeats 8000000 in
set_option maxRecDepth 100000 in
theorem Z33.calls (k:Nat) (A0:Option Addr) (c0:Nat) (l0:List ByteArray) (A1:Option Addr) (c1:Nat) (l1:List ByteArray) (r:Bool) (w:World) (hr0:Kd.C Kd.string w A0 l0.length l0) (hc0:l0.length≤c0) (hr1:Kd.C Kd.string w A1 l1.length l1) (hc1:l1.length≤c1) (h:Z33.f k l0 l1 = some r) :
  Calls Try.prog 50 #[.slice A0 l0.length c0,.slice A1 l1.length c1] w fun e w'=>e = .returned (.bool r)∧Drawn0 w w':=by
 have HR0:=A_ hr0
 have HC0:=A_ hc0
 clear hr0 hc0
 have HR1:=A_ hr1
 have HC1:=A_ hc1
 clear hr1 hc1
 have H:=h
 unfold Z33.f at H
 clear h
 by_cases c3:(l0.length:Int) = (l1.length:Int)
 ·rw [if_pos c3] at H
  have c3b0:((l0.length:Int) == (l1.length:Int)) = true:=beq_iff_eq.mpr c3
  have c3b1:((l0.length:Int) != (l1.length:Int)) = false:=bne_eq_false_iff_eq.mpr c3
  have c3b2:(l0.length == l1.length) = true:=by first | simpa using c3 | (simp at c3 ⊢;omega)
  clear c3
  have H':=A_ H
  clear H
  go_enter Try.func50,Try.ntmps50
  go_wp2
  repeat (go_quiet (fail);try go_wp2)
  go_loopg [5] k (fun kq v5 w'=>∃ (x5_1:Int),v5 = .int .i64 x5_1∧Aside0 (Z33.l0 kq l0 l1 x5_1 = some r)∧Aside0 (kq≤k)∧Drawn0 w w')
  case atStart=>exact ⟨(0),qc_,H',⟨nA_ _⟩,by repeat (first | exact Drawn0.refl _ | apply Drawn0.step)⟩
  case round =>
   clear H'
   obtain ⟨x5_1,rfl,HA,HK1,⟨m1,rfl⟩⟩:=hrel
   cases gk with
   | zero=>exact absurd HA.out (by simp [Z33.l0])
   | succ k1 =>
    have H:=HA.out
    clear HA
    simp only [Z33.l0] at H
    by_cases c4:x5_1 < (l0.length:Int)
    ·rw [if_pos c4] at H
     have c4b0:=oC_ c4
     clear c4
     replace H:=cx_ H;obtain ⟨c5b0,H⟩:=H
     replace H:=cx_ H;obtain ⟨c6b0,H⟩:=H
     by_cases c7:(rdOf ByteArray.empty l0 x5_1).toList = (rdOf ByteArray.empty l1 x5_1).toList
     ·rw [if_pos c7] at H
      have c7b0:((rdOf ByteArray.empty l0 x5_1).toList == (rdOf ByteArray.empty l1 x5_1).toList) = true:=beq_iff_eq.mpr c7
      have c7b1:((rdOf ByteArray.empty l0 x5_1).toList != (rdOf ByteArray.empty l1 x5_1).toList) = false:=bne_eq_false_iff_eq.mpr c7
      clear c7
      have H':=A_ H
      clear H
      have p1371:0≤(x5_1:Int):=oB_ qe_
      have q1371:x5_1 < (l0.length:Int):=oB_ qe_
      obtain ⟨ad1371,e1371,hx1371_0⟩:=Kd.at_string HR0.out x5_1 p1371 q1371
      cases e1371
      replace p1371:=eq_true p1371
      replace q1371:=eq_true q1371
      have p1372:0≤(x5_1:Int):=oB_ qe_
      have q1372:x5_1 < (l1.length:Int):=oB_ qe_
      obtain ⟨ad1372,e1372,hx1372_0⟩:=Kd.at_string HR1.out x5_1 p1372 q1372
      cases e1372
      replace p1372:=eq_true p1372
      replace q1372:=eq_true q1372
      go_wp2
      repeat (go_quiet (fail);try go_wp2)
      go_roundg k1
      case measure=>have:=HK1.out;omega
      case rel=>exact ⟨(wrap64 (x5_1 + 1)),qc_,H',⟨by have:=HK1.out;omega⟩,by repeat (first | exact Drawn0.refl _ | apply Drawn0.step)⟩
     ·rw [if_neg c7] at H
      have c7b0:((rdOf ByteArray.empty l0 x5_1).toList == (rdOf ByteArray.empty l1 x5_1).toList) = false:=beq_eq_false_iff_ne.mpr c7
      have c7b1:((rdOf ByteArray.empty l0 x5_1).toList != (rdOf ByteArray.empty l1 x5_1).toList) = true:=bne_iff_ne.mpr c7
      obtain rfl:=Option.some.inj H
      have p1371:0≤(x5_1:Int):=oB_ qe_
      have q1371:x5_1 < (l0.length:Int):=oB_ qe_
      obtain ⟨ad1371,e1371,hx1371_0⟩:=Kd.at_string HR0.out x5_1 p1371 q1371
      cases e1371
      replace p1371:=eq_true p1371
      replace q1371:=eq_true q1371
      have p1372:0≤(x5_1:Int):=oB_ qe_
      have q1372:x5_1 < (l1.length:Int):=oB_ qe_
      obtain ⟨ad1372,e1372,hx1372_0⟩:=Kd.at_string HR1.out x5_1 p1372 q1372
      cases e1372
      replace p1372:=eq_true p1372
      replace q1372:=eq_true q1372
      go_wp2
      repeat (go_quiet (fail);try go_wp2)
      go_ret
      exact ⟨qc_,by repeat (first | exact Drawn0.refl _ | apply Drawn0.step)⟩
    ·rw [if_neg c4] at H
     have c4b0:=oD_ c4
     clear c4
     obtain rfl:=Option.some.inj H
     go_wp2
     repeat (go_quiet (fail);try go_wp2)
     go_ret
     exact ⟨qc_,by repeat (first | exact Drawn0.refl _ | apply Drawn0.step)⟩
 ·rw [if_neg c3] at H
  have c3b0:((l0.length:Int) == (l1.length:Int)) = false:=beq_eq_false_iff_ne.mpr c3
  have c3b1:((l0.length:Int) != (l1.length:Int)) = true:=bne_iff_ne.mpr c3
  have c3b2:(l0.length == l1.length) = false:=by first | simpa using c3 | (simp at c3 ⊢;omega)
  obtain rfl:=Option.some.inj H
  go_enter Try.func50,Try.ntmps50
  go_wp2
  repeat (go_quiet (fail);try go_wp2)
  go_ret
  exact ⟨qc_,by repeat (first | exact Drawn0.refl _ | apply Drawn0.step)⟩
def Z48.l0:Nat→Int→ByteArray→Option (ByteArray)
 | 0,_,_=>none
 | k + 1,x0,x3=>if x0 > 0 then ((some (([(wrap64 (48 + (Int.tmod x0 10))) % 256]:List Int):List Int)).bind fun y1373=>(if (strOfNums y1373).size + x3.size≤9223372036854775807 then (Z48.l0 k (wrap64 (Int.tdiv x0 10)) ((strOfNums y1373) ++ x3)) else (none))) else (if 1 + x3.size≤9223372036854775807 then (some ((⟨#[109]⟩:ByteArray) ++ x3)) else (none))
def Z48.f (k:Nat) (a0:Int):Option (ByteArray):=if a0≤0 then (some (⟨#[109,48]⟩:ByteArray)) else (Z48.l0 k a0 (⟨#[]⟩:ByteArray))
theorem Z48.mono_l:∀ k,(∀ y0 y1,LeO (Z48.l0 k y0 y1) (Z48.l0 (k + 1) y0 y1))
 | 0=>fun _ _ r h=>by simp [Z48.l0] at h
 | k + 1=>by
  have ih0:=Z48.mono_l k
  ·intro y0 y1
   unfold Z48.l0
   repeat' first|exact ih0 _ _|exact lo_|refine LeO.ite ?_ ?_|refine LeO.bind ?_ (fun _=>?_)
theorem Z48.mono:∀ a0 k,LeO (Z48.f k a0) (Z48.f (k + 1) a0):=by
 intro a0 k
 have ih0:=Z48.mono_l k
 unfold Z48.f
 repeat' first|exact ih0 _ _|exact lo_|refine LeO.ite ?_ ?_|refine LeO.bind ?_ (fun _=>?_)
set_option maxHeartbeats 8000000 in
set_option maxRecDepth 100000 in
theorem Z48.calls (k:Nat) (a0:Int) (r:ByteArray) (w:World) (h:Z48.f k a0 = some r) :
  Calls Try.prog 91 #[.int .i64 a0] w fun e w'=>e = .returned (.string r)∧Below w.heap.size w w':=by
 have HB:=A_ (Below.refl w.heap.size w)
 have H:=h
 unfold Z48.f at H
 clear h
 by_cases c2:a0≤0
 ·rw [if_pos c2] at H
  have c2b0:=oC_ c2
  clear c2
  obtain rfl:=Option.some.inj H
  go_enter Try.func91,Try.ntmps91
  go_wp2
  go_ret
  exact ⟨qb_,hB_⟩
 ·rw [if_neg c2] at H
  have c2b0:=oD_ c2
  clear c2
  have H':=A_ H
  clear H
  go_enter Try.func91,Try.ntmps91
  go_wp2
  go_loopg [0,3] k (fun kq v0 v3 w'=>∃ (x0_1:Int) (x3_1:ByteArray),v0 = .int .i64 x0_1∧v3 = .string x3_1∧Aside0 (Z48.l0 kq x0_1 x3_1 = some r)∧Aside0 (kq≤k)∧Aside0 (Below w.heap.size w w'))
  case atStart=>exact ⟨(a0),((⟨#[]⟩:ByteArray)),qc_,qc_,H',⟨nA_ _⟩,⟨hB_⟩⟩
  case round =>
   clear H'
   obtain ⟨x0_1,x3_1,rfl,rfl,HA,HK1,HB⟩:=hrel
   cases gk with
   | zero=>exact absurd HA.out (by simp [Z48.l0])
   | succ k1 =>
    have H:=HA.out
    clear HA
    simp only [Z48.l0] at H
    by_cases c3:x0_1 > 0
    ·rw [if_pos c3] at H
     have c3b0:decide (0 < x0_1) = true:=oC_ c3
     clear c3
     obtain ⟨y1373,hy1373⟩:∃ y_:List Int,y_ = (([(wrap64 (48 + (Int.tmod x0_1 10))) % 256]:List Int)):=⟨_,rfl⟩
     replace H:(if (strOfNums y1373).size + x3_1.size≤9223372036854775807 then (Z48.l0 k1 (wrap64 (Int.tdiv x0_1 10)) ((strOfNums y1373) ++ x3_1)) else (none)) = some r:=by first | (rw [hy1373];exact H) | exact H
     have Ny1373:=A_ hy1373
     clear hy1373
     have c4:=cp_ H
     replace H:=ca_ H
     have c4b0:=eq_true c4
     have c4b1:=oC_ c4
     try have c4b2:(9223372036854775807 < (strOfNums y1373).size + x3_1.size) = False:=eq_false (Nat.not_lt.2 c4)
     have H':=A_ H
     clear H
     go_wp2_with (first | ((with_reducible refine gB_ (N:=12) rfl ?_);refine Kd.R_lit (Kd.int .u8) _ 5 ?hg (N:=12) ?hd (xs:=([(wrap64 (48 + (Int.tmod x0_1 10))) % 256]:List Int)) (inner:=[.int .u8 ((wrap64 (48 + (Int.tmod x0_1 10))) % 256)]) (ok:=fun _=>True) (okp:=fun _=>True) ?hr ?hp (fun _ hk=>hk) trivial (Below.refl _ _) (nA_ _) (by simp) ?_;(case hd=>rfl);(case hg=>rfl);(case hr=>first | (go_simp;done) | (go_simp;rfl));(case hp=>exact (Reps.one (show Kd.M (Kd.int .u8) _ _ _ ((wrap64 (48 + (Int.tmod x0_1 10))) % 256) [.int .u8 ((wrap64 (48 + (Int.tmod x0_1 10))) % 256)] from rfl) (Reps.none _ _)));intro v1374 w5 ho6 hb hg_ hnew_;clear hg_ hnew_;(first | rw [← Ny1373.out] at ho6 | (simp only [Int.reduceToNat] at ho6;rw [← Ny1373.out] at ho6));have HO1375:=rl_ w ho6;replace HB:=b1_ hb;clear hb ho6;have hcv7:=own_string (P:=Try.prog) Try.underlying22 Try.underlying5 Try.underlying9 (Kd.own_of_R HO1375.out)))
     go_roundg k1
     case measure=>have:=HK1.out;omega
     case rel=>exact ⟨(wrap64 (Int.tdiv x0_1 10)),((strOfNums y1373) ++ x3_1),qc_,qc_,H',⟨by have:=HK1.out;omega⟩,⟨hB_⟩⟩
    ·rw [if_neg c3] at H
     have c3b0:decide (0 < x0_1) = false:=oD_ c3
     clear c3
     have c8:=cp_ H
     replace H:=ca_ H
     have c8b0:=eq_true c8
     have c8b1:=oC_ c8
     try have c8b2:(9223372036854775807 < 1 + x3_1.size) = False:=eq_false (Nat.not_lt.2 c8)
     obtain rfl:=Option.some.inj H
     go_wp2
     go_ret
     exact ⟨qb_,hB_⟩
def Z21.l0:Nat→List ByteArray→Int→Int→Option (Int × List ByteArray)
 | 0,_,_,_=>none
 | k + 1,x0,x1,x5=>if x5 < (x0.length:Int) then ((Z48.f k x1).bind fun t1376=>(if 0≤x5 then (Z21.l0 k (x0.set (x5:Int).toNat t1376) (wrap64 (x1 + 1)) (wrap64 (x5 + 1))) else (none))) else (some (x1,x0))
def Z21.f (k:Nat) (l0:List ByteArray) (a1:Int):Option (Int × List ByteArray):=Z21.l0 k l0 a1 0
theorem Z21.mono_l:∀ k,(∀ y0 y1 y2,LeO (Z21.l0 k y0 y1 y2) (Z21.l0 (k + 1) y0 y1 y2))
 | 0=>fun _ _ _ r h=>by simp [Z21.l0] at h
 | k + 1=>by
  have ih0:=Z21.mono_l k
  ·intro y0 y1 y2
   unfold Z21.l0
   repeat' first|exact ih0 _ _ _|exact Z48.mono _ _|exact lo_|refine LeO.ite ?_ ?_|refine LeO.bind ?_ (fun _=>?_)
theorem Z21.mono:∀ a0 a1 k,LeO (Z21.f k a0 a1) (Z21.f (k + 1) a0 a1):=by
 intro a0 a1 k
 have ih0:=Z21.mono_l k
 unfold Z21.f
 repeat' first|exact ih0 _ _ _|exact Z48.mono _ _|exact lo_|refine LeO.ite ?_ ?_|refine LeO.bind ?_ (fun _=>?_)
set_option maxHeartbeats 8000000 in
set_option maxRecDepth 100000 in
theorem Z21.calls (k:Nat) (P0_:Nat→Prop) (u9000_:Value) (l0:List ByteArray) (a1:Int) (r1:Int) (r2:List ByteArray) (w0 w:World) (hB:Below w0.heap.size w0 w) (ho0:Kd.R Kd.string 9 w w0.heap.size P0_ u9000_ l0) (h:Z21.f k l0 a1 = some (r1,r2)) :
  Calls Try.prog 51 #[u9000_,.int .i64 a1] w fun e w'=>e = .returned (.int .i64 r1)∧Kd.R Kd.string 9 w' w0.heap.size (fun k_=>(P0_ k_ ∨ w.heap.size≤k_)) u9000_ r2∧Below w0.heap.size w0 w'∧Kept w w' (fun k_=>P0_ k_):=by
 have HO0:=A_ (show Kd.R Kd.string 9 w w0.heap.size (fun k_=>(P0_ k_ ∨ w.heap.size≤k_)) u9000_ l0 from Kd.R_mono ho0 (fun k_ hk=>(.inl hk)))
 have HK:=A_ (Kept.refl w (fun k_=>P0_ k_))
 have HW0:=A_ hB.size
 have HB:=A_ hB
 clear hB
 have H:=h
 unfold Z21.f at H
 clear h
 have H':=A_ H
 clear H
 go_enter Try.func51,Try.ntmps51
 go_wp2
 go_loopg [1,5] k (fun kq v1 v5 w'=>∃ (x0_1:List ByteArray) (x1_1:Int) (x5_1:Int),v1 = .int .i64 x1_1∧v5 = .int .i64 x5_1∧Aside0 (Z21.l0 kq x0_1 x1_1 x5_1 = some (r1,r2))∧Aside0 (kq≤k)∧Aside0 (Kd.R Kd.string 9 w' w0.heap.size (fun k_=>(P0_ k_ ∨ w.heap.size≤k_)) u9000_ x0_1)∧Aside0 (Kept w w' (fun k_=>P0_ k_))∧Aside0 (Below w0.heap.size w0 w'))
 case atStart=>exact ⟨(l0),(a1),(0),qc_,qc_,H',⟨nA_ _⟩,⟨(rr_ HO0)⟩,⟨by repeat (first | (with_reducible first | exact HK.out | apply Kept.alloc | apply Kept.drewN | apply Kept.drew) | exact HK.out)⟩,⟨hB_⟩⟩
 case round =>
  clear H'
  obtain ⟨x0_1,x1_1,x5_1,rfl,rfl,HA,HK1,HO_0,HK,HB⟩:=hrel
  cases gk with
  | zero=>exact absurd HA.out (by simp [Z21.l0])
  | succ k1 =>
   have H:=HA.out
   clear HA
   simp only [Z21.l0] at H
   by_cases c3:x5_1 < (x0_1.length:Int)
   ·rw [if_pos c3] at H
    have c3b0:=oC_ c3
    clear c3
    obtain ⟨t1376,A4,H⟩:=bi_ H
    replace H:=cx_ H;obtain ⟨c5b0,H⟩:=H
    obtain ⟨y1377,hy1377⟩:∃ y_:List ByteArray,y_ = (x0_1.set (x5_1:Int).toNat t1376):=⟨_,rfl⟩
    replace H:(Z21.l0 k1 y1377 (wrap64 (x1_1 + 1)) (wrap64 (x5_1 + 1))) = some (r1,r2):=by first | (rw [hy1377];exact H) | exact H
    have Ny1377:=A_ hy1377
    clear hy1377
    have H':=A_ H
    clear H
    obtain ⟨Ao7,co7,eo7⟩:=Kd.R_slice HO_0.out
    subst eo7
    go_wp2_with (first | ((with_reducible refine gA_ (f:=91) rfl ?_);refine gL_ (some 15) Try.func91 #[.int .i64 x1_1] rfl qa_ ?_;(with_reducible refine (Z48.calls k1 x1_1 t1376 _ A4.out).mono ?_);rintro e w8 ⟨rfl,hb⟩;refine ⟨_,rfl,?_⟩;replace HO_0:=rb_ HO_0 hb;replace HK:=A_ (Kept.below (S:=(fun k_=>P0_ k_)) (by repeat (first | (with_reducible first | exact HK.out | apply Kept.alloc | apply Kept.drewN | apply Kept.drew) | exact HK.out)) hb);replace HB:=b1_ hb;clear hb;have p6:0≤(x5_1:Int):=oB_ qe_;have q6:(x5_1:Int) < ((x0_1.length:Int):Int):=oB_ qe_;obtain ⟨go6,co6,eo6,gb6,gl6,cl6,HG6⟩:=Kd.R_form HO_0.out (by omega);(first | cases eo6 | (injection eo6 with ea_ en_ ec_;(first | subst ea_ | (injection ea_ with ea_;subst ea_));subst ec_;clear en_));have GB6:=A_ gb6;have GG6:=A_ HG6;clear gb6 gl6 HG6;have HMgo6:=A_ (show (P0_ go6 ∨ w.heap.size≤go6) from (HO_0.out.1 _ rfl));obtain ⟨hx6_0,hf6_0⟩:=Kd.R_celln (⟨#[]⟩:ByteArray) HO_0.out (x5_1:Int) p6 q6;replace p6:=eq_true p6;replace q6:=eq_true q6;obtain ⟨hy9_,hz9_⟩:=Kd.R_celln (⟨#[]⟩:ByteArray) HO_0.out (x5_1:Int) (oB_ qe_) (oB_ qe_);have HP9:=Kd.R_putg HO_0.out (x5_1:Int) t1376) | ((with_reducible refine gate_store (t:=9) (p:=16) rfl ?_);refine store_event (t:=9) (p:=16) (v:=?vo_w10) (w1:=(w8.setCell ⟨go6,(x5_1:Int).toNat,none⟩ (.string t1376))) ?hg ?ho ?hn ?hr ?_;(case ho=>rfl);(case hg=>rfl);(case hn=>rfl);(case hr=>first | (go_simp;done) | (go_simp;rfl));intro w10 hw;have hg:w8.grownBy w10 (some go6):=(by rw [hw];exact HP9.2);have hp_:Kd.R Kd.string 9 w10 w0.heap.size (fun k_=>(P0_ k_ ∨ w.heap.size≤k_)) (.slice (some ⟨go6,0,none⟩) x0_1.length co7) y1377:=(by rw [hw,Ny1377.out];exact HP9.1);clear HP9;replace HB:=A_ ((by rw [hw];exact bD_ (HB.out) GB6.out:Below w0.heap.size w0 w10));replace HK:=A_ (Kept.of_grown (S:=(fun k_=>P0_ k_)) hg (by repeat (first | (with_reducible first | exact HK.out | apply Kept.alloc | apply Kept.drewN | apply Kept.drew) | exact HK.out)) (fun k_ e_=>(HO_0.out.1 k_ e_)));replace HO_0:=A_ (hp_);clear hg hw hp_))
    go_roundg k1
    case measure=>have:=HK1.out;omega
    case rel=>exact ⟨(y1377),(wrap64 (x1_1 + 1)),(wrap64 (x5_1 + 1)),qc_,qc_,H',⟨by have:=HK1.out;omega⟩,⟨(rr_ HO_0)⟩,⟨by repeat (first | (with_reducible first | exact HK.out | apply Kept.alloc | apply Kept.drewN | apply Kept.drew) | exact HK.out)⟩,⟨hB_⟩⟩
   ·rw [if_neg c3] at H
    have c3b0:=oD_ c3
    clear c3
    simp only [Option.some.injEq,Prod.mk.injEq] at H
    obtain ⟨rfl,rfl⟩:=H
    obtain ⟨Ao11,co11,eo11⟩:=Kd.R_slice HO_0.out
    subst eo11
    go_wp2
    go_ret
    exact ⟨qb_,(rr_ HO_0),hB_,by repeat (first | (with_reducible first | exact HK.out | apply Kept.alloc | apply Kept.drewN | apply Kept.drew) | exact HK.out)⟩
def Z20.l0:Nat→List ByteArray→Int→Int→Option (Int)
 | 0,_,_,_=>none
 | k + 1,x0,x1,x5=>if x5 < (x0.length:Int) then (if 0≤x5 then ((Z48.f k x1).bind fun t1379=>(if (rdOf ByteArray.empty x0 x5).toList = t1379.toList then (Z20.l0 k x0 (wrap64 (x1 + 1)) (wrap64 (x5 + 1))) else (some (-1)))) else (none)) else (some x1)
def Z20.f (k:Nat) (l0:List ByteArray) (a1:Int):Option (Int):=Z20.l0 k l0 a1 0
theorem Z20.mono_l:∀ k,(∀ y0 y1 y2,LeO (Z20.l0 k y0 y1 y2) (Z20.l0 (k + 1) y0 y1 y2))
 | 0=>fun _ _ _ r h=>by simp [Z20.l0] at h
 | k + 1=>by
  have ih0:=Z20.mono_l k
  ·intro y0 y1 y2
   unfold Z20.l0
   repeat' first|exact ih0 _ _ _|exact Z48.mono _ _|exact lo_|refine LeO.ite ?_ ?_|refine LeO.bind ?_ (fun _=>?_)
theorem Z20.mono:∀ a0 a1 k,LeO (Z20.f k a0 a1) (Z20.f (k + 1) a0 a1):=by
 intro a0 a1 k
 have ih0:=Z20.mono_l k
 unfold Z20.f
 repeat' first|exact ih0 _ _ _|exact Z48.mono _ _|exact lo_|refine LeO.ite ?_ ?_|refine LeO.bind ?_ (fun _=>?_)
set_option maxHeartbeats 8000000 in
set_option maxRecDepth 100000 in
theorem Z20.calls (k:Nat) (A0:Option Addr) (c0:Nat) (l0:List ByteArray) (a1:Int) (r:Int) (w:World) (hr0:Kd.C Kd.string w A0 l0.length l0) (hc0:l0.length≤c0) (h:Z20.f k l0 a1 = some r) :
  Calls Try.prog 52 #[.slice A0 l0.length c0,.int .i64 a1] w fun e w'=>e = .returned (.int .i64 r)∧Below w.heap.size w w':=by
 have HR0:=A_ hr0
 have HC0:=A_ hc0
 clear hr0 hc0
 have HB:=A_ (Below.refl w.heap.size w)
 have H:=h
 unfold Z20.f at H
 clear h
 have H':=A_ H
 clear H
 go_enter Try.func52,Try.ntmps52
 go_wp2
 go_loopg [1,5] k (fun kq v1 v5 w'=>∃ (x1_1:Int) (x5_1:Int),v1 = .int .i64 x1_1∧v5 = .int .i64 x5_1∧Aside0 (Z20.l0 kq l0 x1_1 x5_1 = some r)∧Aside0 (kq≤k)∧Aside0 (Below w.heap.size w w'))
 case atStart=>exact ⟨(a1),(0),qc_,qc_,H',⟨nA_ _⟩,⟨hB_⟩⟩
 case round =>
  clear H'
  obtain ⟨x1_1,x5_1,rfl,rfl,HA,HK1,HB⟩:=hrel
  cases gk with
  | zero=>exact absurd HA.out (by simp [Z20.l0])
  | succ k1 =>
   have H:=HA.out
   clear HA
   simp only [Z20.l0] at H
   by_cases c3:x5_1 < (l0.length:Int)
   ·rw [if_pos c3] at H
    have c3b0:=oC_ c3
    clear c3
    replace H:=cx_ H;obtain ⟨c4b0,H⟩:=H
    obtain ⟨t1379,A5,H⟩:=bi_ H
    by_cases c6:(rdOf ByteArray.empty l0 x5_1).toList = t1379.toList
    ·rw [if_pos c6] at H
     have c6b0:((rdOf ByteArray.empty l0 x5_1).toList == t1379.toList) = true:=beq_iff_eq.mpr c6
     have c6b1:((rdOf ByteArray.empty l0 x5_1).toList != t1379.toList) = false:=bne_eq_false_iff_eq.mpr c6
     clear c6
     have H':=A_ H
     clear H
     try go_wp2
     replace HB:=A_ (bC_ HB.out)
     have p1378:0≤(x5_1:Int):=oB_ qe_
     have q1378:x5_1 < (l0.length:Int):=oB_ qe_
     obtain ⟨ad1378,e1378,hx1378_0⟩:=Kd.at_string HR0.out x5_1 p1378 q1378
     have hw1378_0:=hx1378_0
     cases e1378
     replace hx1378_0:=(HB.out.cell (World.block_lt_of_cell? w _ hx1378_0)).trans hx1378_0
     replace p1378:=eq_true p1378
     replace q1378:=eq_true q1378
     refine start_ (n:=7) (S:=fun w'=>w'.cell? (ad1378.add (x5_1).toNat) = some (.string (rdOf ByteArray.empty l0 x5_1))) (ds:=[]) (bl_ 7 0) (by kernel_rfl) rfl (by kernel_rfl) (((HB.out.cell (World.block_lt_of_cell? w _ hw1378_0)).trans hw1378_0)) (fun hHeld=>?_)
     generalize wr.drew = w7 at HB hx1378_0 hHeld ⊢
     refine pure_ (i:=0) (N:=some 12) (v:=?_) (a':=?_) (bl_ 7 1) rfl rfl (by kernel_rfl) (fun _ _ _ h=>h) (Or.inl ⟨by rfl,?_⟩) ?_ ?_
     rotate_left
     ·intro w'
      go_simp
      with_reducible rfl
     rotate_left
     ·simp only [Act.put,sA_,sB_,sC_,i64_w,i32_w]
      rfl
     refine pure_ (i:=1) (N:=some 13) (v:=?_) (a':=?_) (bl_ 7 3) rfl rfl (by kernel_rfl) (fun _ _ _ h=>h) (Or.inl ⟨by rfl,?_⟩) ?_ ?_
     rotate_left
     ·intro w'
      go_simp
      with_reducible rfl
     rotate_left
     ·simp only [Act.put,sA_,sB_,sC_,i64_w,i32_w]
      rfl
     refine pure_ (i:=2) (N:=some 14) (v:=?_) (a':=?_) (bl_ 7 7) rfl rfl (by kernel_rfl) (fun _ _ _ h=>h) (Or.inl ⟨by rfl,?_⟩) ?_ ?_
     rotate_left
     ·intro w'
      go_simp
      with_reducible rfl
     rotate_left
     ·simp only [Act.put,sA_,sB_,sC_,i64_w,i32_w]
      rfl
     refine pure_ (i:=4) (N:=some 16) (v:=?_) (a':=?_) (bl_ 7 23) rfl rfl (by kernel_rfl) (fun _ _ _ h=>h) (Or.inl ⟨by rfl,?_⟩) ?_ ?_
     rotate_left
     ·intro w'
      go_simp
      with_reducible rfl
     rotate_left
     ·simp only [Act.put,sA_,sB_,sC_,i64_w,i32_w]
      rfl
     refine take_ (i:=3) (N:=some 15) (v:=?_) (a':=?_) (bl_ 7 31) rfl rfl (by kernel_rfl) (fun _ _ _ h=>h) (Or.inl ⟨by rfl,?_⟩) hHeld ?_ ?_
     rotate_left
     ·intro w' s0
      go_simp
      with_reducible rfl
     rotate_left
     ·simp only [Act.put,sA_,sB_,sC_,i64_w,i32_w]
      rfl
     refine one_ (i:=5) (N:=some 17) (bl_ 7 63) rfl rfl (by kernel_rfl) (by decide) (fun K hK=>?_)
     refine gO_ Try.func91 #[.int .i64 x1_1] (by rfl) rfl rfl qa_ ?_
     with_reducible refine (Z48.calls k1 x1_1 t1379 _ A5.out).mono ?_
     rintro e w8 ⟨rfl,hb⟩
     refine ⟨_,rfl,?_⟩
     replace HB:=b1_ hb
     clear hb
     refine hK.out _ _ (((HB.out.cell (World.block_lt_of_cell? w _ hw1378_0)).trans hw1378_0)) (fun hHeld=>?_)
     clear hK K
     refine no_ (some 17) ?_
     refine pure_ (i:=6) (N:=some 18) (v:=?_) (a':=?_) (bl_ 7 127) rfl rfl (by kernel_rfl) (fun _ _ _ h=>h) (Or.inl ⟨by rfl,?_⟩) ?_ ?_
     rotate_left
     ·intro w'
      go_simp
      with_reducible rfl
     rotate_left
     ·simp only [Act.put,sA_,sB_,sC_,i64_w,i32_w]
      rfl
     refine done_ (by kernel_rfl) ?_
     try go_wp2
     go_roundg k1
     case measure=>have:=HK1.out;omega
     case rel=>exact ⟨(wrap64 (x1_1 + 1)),(wrap64 (x5_1 + 1)),qc_,qc_,H',⟨by have:=HK1.out;omega⟩,⟨hB_⟩⟩
    ·rw [if_neg c6] at H
     have c6b0:((rdOf ByteArray.empty l0 x5_1).toList == t1379.toList) = false:=beq_eq_false_iff_ne.mpr c6
     have c6b1:((rdOf ByteArray.empty l0 x5_1).toList != t1379.toList) = true:=bne_iff_ne.mpr c6
     obtain rfl:=Option.some.inj H
     try go_wp2
     replace HB:=A_ (bC_ HB.out)
     have p1378:0≤(x5_1:Int):=oB_ qe_
     have q1378:x5_1 < (l0.length:Int):=oB_ qe_
     obtain ⟨ad1378,e1378,hx1378_0⟩:=Kd.at_string HR0.out x5_1 p1378 q1378
     have hw1378_0:=hx1378_0
     cases e1378
     replace hx1378_0:=(HB.out.cell (World.block_lt_of_cell? w _ hx1378_0)).trans hx1378_0
     replace p1378:=eq_true p1378
     replace q1378:=eq_true q1378
     refine start_ (n:=7) (S:=fun w'=>w'.cell? (ad1378.add (x5_1).toNat) = some (.string (rdOf ByteArray.empty l0 x5_1))) (ds:=[]) (bl_ 7 0) (by kernel_rfl) rfl (by kernel_rfl) (((HB.out.cell (World.block_lt_of_cell? w _ hw1378_0)).trans hw1378_0)) (fun hHeld=>?_)
     generalize wr.drew = w9 at HB hx1378_0 hHeld ⊢
     refine pure_ (i:=0) (N:=some 12) (v:=?_) (a':=?_) (bl_ 7 1) rfl rfl (by kernel_rfl) (fun _ _ _ h=>h) (Or.inl ⟨by rfl,?_⟩) ?_ ?_
     rotate_left
     ·intro w'
      go_simp
      with_reducible rfl
     rotate_left
     ·simp only [Act.put,sA_,sB_,sC_,i64_w,i32_w]
      rfl
     refine pure_ (i:=1) (N:=some 13) (v:=?_) (a':=?_) (bl_ 7 3) rfl rfl (by kernel_rfl) (fun _ _ _ h=>h) (Or.inl ⟨by rfl,?_⟩) ?_ ?_
     rotate_left
     ·intro w'
      go_simp
      with_reducible rfl
     rotate_left
     ·simp only [Act.put,sA_,sB_,sC_,i64_w,i32_w]
      rfl
     refine pure_ (i:=2) (N:=some 14) (v:=?_) (a':=?_) (bl_ 7 7) rfl rfl (by kernel_rfl) (fun _ _ _ h=>h) (Or.inl ⟨by rfl,?_⟩) ?_ ?_
     rotate_left
     ·intro w'
      go_simp
      with_reducible rfl
     rotate_left
     ·simp only [Act.put,sA_,sB_,sC_,i64_w,i32_w]
      rfl
     refine pure_ (i:=4) (N:=some 16) (v:=?_) (a':=?_) (bl_ 7 23) rfl rfl (by kernel_rfl) (fun _ _ _ h=>h) (Or.inl ⟨by rfl,?_⟩) ?_ ?_
     rotate_left
     ·intro w'
      go_simp
      with_reducible rfl
     rotate_left
     ·simp only [Act.put,sA_,sB_,sC_,i64_w,i32_w]
      rfl
     refine take_ (i:=3) (N:=some 15) (v:=?_) (a':=?_) (bl_ 7 31) rfl rfl (by kernel_rfl) (fun _ _ _ h=>h) (Or.inl ⟨by rfl,?_⟩) hHeld ?_ ?_
     rotate_left
     ·intro w' s0
      go_simp
      with_reducible rfl
     rotate_left
     ·simp only [Act.put,sA_,sB_,sC_,i64_w,i32_w]
      rfl
     refine one_ (i:=5) (N:=some 17) (bl_ 7 63) rfl rfl (by kernel_rfl) (by decide) (fun K hK=>?_)
     refine gO_ Try.func91 #[.int .i64 x1_1] (by rfl) rfl rfl qa_ ?_
     with_reducible refine (Z48.calls k1 x1_1 t1379 _ A5.out).mono ?_
     rintro e w10 ⟨rfl,hb⟩
     refine ⟨_,rfl,?_⟩
     replace HB:=b1_ hb
     clear hb
     refine hK.out _ _ (((HB.out.cell (World.block_lt_of_cell? w _ hw1378_0)).trans hw1378_0)) (fun hHeld=>?_)
     clear hK K
     refine no_ (some 17) ?_
     refine pure_ (i:=6) (N:=some 18) (v:=?_) (a':=?_) (bl_ 7 127) rfl rfl (by kernel_rfl) (fun _ _ _ h=>h) (Or.inl ⟨by rfl,?_⟩) ?_ ?_
     rotate_left
     ·intro w'
      go_simp
      with_reducible rfl
     rotate_left
     ·simp only [Act.put,sA_,sB_,sC_,i64_w,i32_w]
      rfl
     refine done_ (by kernel_rfl) ?_
     try go_wp2
     go_ret
     exact ⟨qb_,hB_⟩
   ·rw [if_neg c3] at H
    have c3b0:=oD_ c3
    clear c3
    obtain rfl:=Option.some.inj H
    go_wp2
    go_ret
    exact ⟨qb_,hB_⟩
end Go.Proofs.Ytcggfjpnfodbaaa.A
end
section
namespace Go.Proofs.Ytcggfjpnfodbaaa.A
open Go.RowKit Go.Proofs.YtcggfjpnfodbaaaW.PrintWords Go.Proofs.YtcggfjpnfodbaaaW.PrintLast Go.Proofs.YtcggfjpnfodbaaaW.PrintMore Go.Proofs.Ytcggfjpnfodbaaa.M
set_option linter.unusedVariables false
set_option linter.unusedSimpArgs false
def Z0.F (k:Nat) (l0_0:List Int) (l0_1:List Int):Prop:=∃ s0:Int,Z35.f l0_0 l0_1 1048576 = some s0∧(s0 < 0 ∨ (¬ s0 < 0∧(∃ (r0:List ByteArray) (r1:Bool) (km0:Int) (ya0 yb0:List Int) (m0:Int) (z0:List ByteArray),Z36.f k l0_0 l0_1 = some (l0_0,l0_1)∧Z34.f k l0_0 l0_1 l0_0 l0_1 = some true∧Z7.f k l0_0 l0_1 = some (r0,r1)∧Z5.f k l0_0 l0_1 = some (r0,r1)∧Z33.f k r0 r0 = some true∧Z22.f k l0_0 l0_1 1 = some (km0,ya0,yb0)∧decide (km0 < 0) = false∧Z21.f k r0 1 = some (m0,z0)∧Z20.f k z0 1 = some m0∧decide (m0 < 0) = false)))
set_option maxHeartbeats 8000000 in
set_option maxRecDepth 100000 in
theorem Z0.calls (k:Nat) (A0_0:Option Addr) (c0_0:Nat) (l0_0:List Int) (A0_1:Option Addr) (c0_1:Nat) (l0_1:List Int) (w:World) (hr0_0:Kd.C (Kd.int .i64) w A0_0 l0_0.length l0_0) (hc0_0:l0_0.length≤c0_0) (hr0_1:Kd.C (Kd.int .i64) w A0_1 l0_1.length l0_1) (hc0_1:l0_1.length≤c0_1) (h:Z0.F k l0_0 l0_1) :
  Calls Try.prog 12 #[.agg #[.slice A0_0 l0_0.length c0_0,.slice A0_1 l0_1.length c0_1]] w fun e w'=>e = .returned (.bool true)∧Below w.heap.size w w':=by
 have hu25:=Try.underlying25
 have hu44:=Try.underlying44
 have HR0_0:=A_ hr0_0;have HC0_0:=A_ hc0_0;clear hr0_0 hc0_0
 have HR0_1:=A_ hr0_1;have HC0_1:=A_ hc0_1;clear hr0_1 hc0_1
 have HB:=A_ (Below.refl w.heap.size w)
 unfold Z0.F at h
 obtain ⟨s0,FZ0,h⟩:=h
 replace FZ0:=A_ FZ0
 rcases h with hneg | ⟨hneg,h⟩
 ·have hq0:decide (s0 < 0) = true:=oC_ hneg
  go_enter Try.func12,Try.ntmps12
  go_upto_region 2 with (first | ((with_reducible refine gB_ (N:=1) rfl ?_);refine bx_ 1 #[.slice A0_0 l0_0.length c0_0,.slice A0_1 l0_1.length c0_1] 44 ?_;intro gbp0 hg w1 hbox hb;have HBo:=HB.out;have n_:=A_ (below_then HBo HBo.size hb);clear HB;have HB:=n_;clear n_;have HSw1:=A_ hb.size;have BKp0:=A_ hbox;have GIp0:=A_ (show w.heap.size≤gbp0∧gbp0 < w1.heap.size from ⟨by omega,blk_lt hbox⟩);have GEp0:=A_ (show w.heap.size≤gbp0 from by have:=HBo.size;omega);clear hb hbox hg HBo;obtain ⟨hczp0_0,hczp0_1,hfzp0_0,hfzp0_1⟩:=c2_ BKp0))
  go_wp2_with (first | ((with_reducible refine gA_ (f:=31) rfl ?_);refine goesL_ _ rfl rfl Try.func31 (by kernel_rfl) rfl #[.agg #[.slice A0_0 l0_0.length c0_0,.slice A0_1 l0_1.length c0_1],.int .i64 1048576] rfl (by (try simp only [mA_,mB_,mC_]);first | done | rfl) ?_;have HBo:=HB.out;refine (Z35.calls A0_0 c0_0 l0_0 A0_1 c0_1 l0_1 1048576 s0 _ (cD_ HR0_0.out HB.out) HC0_0.out (cD_ HR0_1.out HB.out) HC0_1.out FZ0.out).mono ?_;rintro e w2 ⟨rfl,hb0⟩;refine ⟨_,rfl,?_⟩;clear hczp0_0 hfzp0_0 hczp0_1 hfzp0_1;have n_:=A_ (kE_ BKp0.out hb0);clear BKp0;have BKp0:=n_;clear n_;have n_:=A_ (below_then HBo HBo.size hb0);clear HB;have HB:=n_;clear n_;have HSw2:=A_ hb0.size;clear hb0 HBo;obtain ⟨hczp0_0,hczp0_1,hfzp0_0,hfzp0_1⟩:=c2_ BKp0))
  go_ret
  exact ⟨rfl,HB.out⟩
 have hq0:decide (s0 < 0) = false:=oD_ hneg
 clear hneg
 obtain ⟨r0,r1,km0,ya0,yb0,m0,z0,FS0,FE0,FW,FG,FQ0,FK0,FKK,FM0,FH0,FMM0⟩:=h
 replace FS0:=A_ FS0
 replace FE0:=A_ FE0
 replace FW:=A_ FW
 replace FG:=A_ FG
 replace FQ0:=A_ FQ0
 replace FK0:=A_ FK0
 replace FM0:=A_ FM0
 replace FH0:=A_ FH0
 go_enter Try.func12,Try.ntmps12
 go_upto_region 2 with (first | ((with_reducible refine gB_ (N:=1) rfl ?_);refine bx_ 1 #[.slice A0_0 l0_0.length c0_0,.slice A0_1 l0_1.length c0_1] 44 ?_;intro gbp0 hg w1 hbox hb;have HBo:=HB.out;have n_:=A_ (below_then HBo HBo.size hb);clear HB;have HB:=n_;clear n_;have HSw1:=A_ hb.size;have BKp0:=A_ hbox;have GIp0:=A_ (show w.heap.size≤gbp0∧gbp0 < w1.heap.size from ⟨by omega,blk_lt hbox⟩);have GEp0:=A_ (show w.heap.size≤gbp0 from by have:=HBo.size;omega);clear hb hbox hg HBo;obtain ⟨hczp0_0,hczp0_1,hfzp0_0,hfzp0_1⟩:=c2_ BKp0))
 go_upto_region 5 with (first | ((with_reducible refine gA_ (f:=31) rfl ?_);refine goesL_ _ rfl rfl Try.func31 (by kernel_rfl) rfl #[.agg #[.slice A0_0 l0_0.length c0_0,.slice A0_1 l0_1.length c0_1],.int .i64 1048576] rfl (by (try simp only [mA_,mB_,mC_]);first | done | rfl) ?_;have HBo:=HB.out;refine (Z35.calls A0_0 c0_0 l0_0 A0_1 c0_1 l0_1 1048576 s0 _ (cD_ HR0_0.out HB.out) HC0_0.out (cD_ HR0_1.out HB.out) HC0_1.out FZ0.out).mono ?_;rintro e w2 ⟨rfl,hb0⟩;refine ⟨_,rfl,?_⟩;clear hczp0_0 hfzp0_0 hczp0_1 hfzp0_1;have n_:=A_ (kE_ BKp0.out hb0);clear BKp0;have BKp0:=n_;clear n_;have n_:=A_ (below_then HBo HBo.size hb0);clear HB;have HB:=n_;clear n_;have HSw2:=A_ hb0.size;clear hb0 HBo;obtain ⟨hczp0_0,hczp0_1,hfzp0_0,hfzp0_1⟩:=c2_ BKp0))
 go_upto_region 6 with (first | ((with_reducible refine gA_ (f:=33) rfl ?_);refine goesL_ _ rfl rfl Try.func33 (by kernel_rfl) rfl #[.agg #[.slice A0_0 l0_0.length c0_0,.slice A0_1 l0_1.length c0_1]] rfl (by (try simp only [mA_,mB_,mC_]);first | done | rfl) ?_;have HBo:=HB.out;refine (Z36.calls k A0_0 c0_0 l0_0 A0_1 c0_1 l0_1 l0_0 l0_1 _ (cD_ HR0_0.out HB.out) HC0_0.out (cD_ HR0_1.out HB.out) HC0_1.out FS0.out).mono ?_;rintro e w3 ⟨v0_,v1_,rfl,h0_,h1_,hb0⟩;refine ⟨_,rfl,?_⟩;clear hczp0_0 hfzp0_0 hczp0_1 hfzp0_1;have n_:=A_ (kE_ BKp0.out hb0);clear BKp0;have BKp0:=n_;clear n_;have n_:=A_ (below_then HBo HBo.size hb0);clear HB;have HB:=n_;clear n_;have HSw3:=A_ hb0.size;have NE1:=A_ h0_.1;have Hx1a:=A_ (fresh_R (b0:=w.heap.size) h0_ HBo.size);clear h0_;obtain ⟨Ax1a,cx1a,ex1a⟩:=Kd.R_slice Hx1a.out;subst ex1a;have Hx1b:=A_ (fresh_R (b0:=w.heap.size) h1_ HBo.size);clear h1_;obtain ⟨Ax1b,cx1b,ex1b⟩:=Kd.R_slice Hx1b.out;subst ex1b;clear hb0 HBo;obtain ⟨hczp0_0,hczp0_1,hfzp0_0,hfzp0_1⟩:=c2_ BKp0) | ((with_reducible refine gA_ (f:=48) rfl ?_);refine goesL_ _ rfl rfl Try.func48 (by kernel_rfl) rfl #[.agg #[.slice Ax1a l0_0.length cx1a,.slice Ax1b l0_1.length cx1b]] rfl (by (try simp only [mA_,mB_,mC_]);first | done | rfl) ?_;have HBo:=HB.out;refine (Z7.calls k Ax1a cx1a l0_0 Ax1b cx1b l0_1 r0 r1 _ (Kd.R_reads' Hx1a.out).2.2 (Kd.R_reads' Hx1a.out).2.1 (Kd.R_reads' Hx1b.out).2.2 (Kd.R_reads' Hx1b.out).2.1 FW.out).mono ?_;rintro e w4 ⟨v0_,rfl,h0_,hb0⟩;refine ⟨_,rfl,?_⟩;clear hczp0_0 hfzp0_0 hczp0_1 hfzp0_1;have n_:=A_ (kE_ BKp0.out hb0);clear BKp0;have BKp0:=n_;clear n_;have n_:=A_ (rD_ Hx1a.out hb0);clear Hx1a;have Hx1a:=n_;clear n_;have n_:=A_ (rD_ Hx1b.out hb0);clear Hx1b;have Hx1b:=n_;clear n_;have n_:=A_ (below_then HBo HBo.size hb0);clear HB;have HB:=n_;clear n_;have HSw4:=A_ hb0.size;have Hw0:=A_ (fresh_R (b0:=w.heap.size) h0_ HBo.size);clear h0_;obtain ⟨Aw0,cw0,ew0⟩:=Kd.R_slice Hw0.out;subst ew0;clear hb0 HBo;obtain ⟨hczp0_0,hczp0_1,hfzp0_0,hfzp0_1⟩:=c2_ BKp0;clear Hx1a Hx1b))
 go_upto_region 7 with (first | ((with_reducible refine gA_ (f:=33) rfl ?_);refine goesL_ _ rfl rfl Try.func33 (by kernel_rfl) rfl #[.agg #[.slice A0_0 l0_0.length c0_0,.slice A0_1 l0_1.length c0_1]] rfl (by (try simp only [mA_,mB_,mC_]);first | done | rfl) ?_;have HBo:=HB.out;refine (Z36.calls k A0_0 c0_0 l0_0 A0_1 c0_1 l0_1 l0_0 l0_1 _ (cD_ HR0_0.out HB.out) HC0_0.out (cD_ HR0_1.out HB.out) HC0_1.out FS0.out).mono ?_;rintro e w5 ⟨v0_,v1_,rfl,h0_,h1_,hb0⟩;refine ⟨_,rfl,?_⟩;clear hczp0_0 hfzp0_0 hczp0_1 hfzp0_1;have n_:=A_ (kE_ BKp0.out hb0);clear BKp0;have BKp0:=n_;clear n_;have n_:=A_ (rD_ Hw0.out hb0);clear Hw0;have Hw0:=n_;clear n_;have n_:=A_ (below_then HBo HBo.size hb0);clear HB;have HB:=n_;clear n_;have HSw5:=A_ hb0.size;have NE2:=A_ h0_.1;have Hx2a:=A_ (fresh_R (b0:=w.heap.size) h0_ HBo.size);clear h0_;obtain ⟨Ax2a,cx2a,ex2a⟩:=Kd.R_slice Hx2a.out;subst ex2a;have Hx2b:=A_ (fresh_R (b0:=w.heap.size) h1_ HBo.size);clear h1_;obtain ⟨Ax2b,cx2b,ex2b⟩:=Kd.R_slice Hx2b.out;subst ex2b;clear hb0 HBo;obtain ⟨hczp0_0,hczp0_1,hfzp0_0,hfzp0_1⟩:=c2_ BKp0) | ((with_reducible refine gB_ (N:=6) rfl ?_);refine bx_ 6 #[.slice none 0 0,.slice none 0 0] 25 ?_;intro gbx0 hg w6 hbox hb;clear hczp0_0 hfzp0_0 hczp0_1 hfzp0_1;have HBo:=HB.out;have n_:=A_ (kE_ BKp0.out hb);clear BKp0;have BKp0:=n_;clear n_;have n_:=A_ (rD_ Hw0.out hb);clear Hw0;have Hw0:=n_;clear n_;have n_:=A_ (rD_ Hx2a.out hb);clear Hx2a;have Hx2a:=n_;clear n_;have n_:=A_ (rD_ Hx2b.out hb);clear Hx2b;have Hx2b:=n_;clear n_;have n_:=A_ (below_then HBo HBo.size hb);clear HB;have HB:=n_;clear n_;have HSw6:=A_ hb.size;have BKx0:=A_ hbox;have GIx0:=A_ (show w5.heap.size≤gbx0∧gbx0 < w6.heap.size from ⟨by omega,blk_lt hbox⟩);have GEx0:=A_ (show w.heap.size≤gbx0 from by have:=HBo.size;omega);clear hb hbox hg HBo;obtain ⟨hczp0_0,hczp0_1,hfzp0_0,hfzp0_1⟩:=c2_ BKp0;obtain ⟨hczx0_0,hczx0_1,hfzx0_0,hfzx0_1⟩:=c2_ BKx0) | ((with_reducible refine gate_store (t:=25) (p:=6) rfl ?_);refine store_event (t:=25) (p:=6) (v:=?vo6) (w1:=((w6.setCell ⟨gbx0,0,none⟩ (.slice Ax2a l0_0.length cx2a)).setCell ⟨gbx0,1,none⟩ (.slice Ax2b l0_1.length cx2b))) ?hg ?ho ?hn ?hr ?_;(case ho=>rfl);(case hg=>rfl);(case hn=>rfl);(case hr=>first | (go_simp;done) | (go_simp;rfl));intro wq hw;subst hw;obtain ⟨hbox,hkp,hB2⟩:=box_store BKx0.out (.slice Ax2a l0_0.length cx2a) (.slice Ax2b l0_1.length cx2b) HB.out GEx0.out;generalize hw:((w6.setCell ⟨gbx0,0,none⟩ (.slice Ax2a l0_0.length cx2a)).setCell ⟨gbx0,1,none⟩ (.slice Ax2b l0_1.length cx2b)) = w7 at hbox hkp hB2 ⊢;clear hw;clear hczp0_0 hfzp0_0 hczp0_1 hfzp0_1 hczx0_0 hfzx0_0 hczx0_1 hfzx0_1;have n_:=A_ (blk_kept (g:=gbp0) BKp0.out hkp (fun hs=>by have hk:=GIp0.out;have:=hk.1;have:=hk.2;have:=GIx0.out;have:=HSw1.out;have:=HSw2.out;have:=HSw3.out;have:=HSw4.out;have:=HSw5.out;have:=HSw6.out;omega));clear BKp0;have BKp0:=n_;clear n_;have n_:=A_ (Kd.R_kept Hw0.out hkp (fun k_ hk hs=>by have:=hk.1;have:=hk.2;have:=GIx0.out;have:=HSw1.out;have:=HSw2.out;have:=HSw3.out;have:=HSw4.out;have:=HSw5.out;have:=HSw6.out;omega));clear Hw0;have Hw0:=n_;clear n_;have n_:=A_ (Kd.R_kept Hx2a.out hkp (fun k_ hk hs=>by have:=hk.1;have:=hk.2;have:=GIx0.out;have:=HSw1.out;have:=HSw2.out;have:=HSw3.out;have:=HSw4.out;have:=HSw5.out;have:=HSw6.out;omega));clear Hx2a;have Hx2a:=n_;clear n_;have n_:=A_ (Kd.R_kept Hx2b.out hkp (fun k_ hk hs=>by have:=hk.1;have:=hk.2;have:=GIx0.out;have:=HSw1.out;have:=HSw2.out;have:=HSw3.out;have:=HSw4.out;have:=HSw5.out;have:=HSw6.out;omega));clear Hx2b;have Hx2b:=n_;clear n_;have n_:=A_ (hB2);clear HB;have HB:=n_;clear n_;have HSw7:=A_ hkp.1;clear BKx0;have BKx0:=A_ (show w7.heap[gbx0]? = some (.cells #[.slice Ax2a l0_0.length cx2a,.slice Ax2b l0_1.length cx2b] 25 (0,0)) from hbox);clear hbox hkp hB2;obtain ⟨hczp0_0,hczp0_1,hfzp0_0,hfzp0_1⟩:=c2_ BKp0;obtain ⟨hczx0_0,hczx0_1,hfzx0_0,hfzx0_1⟩:=c2_ BKx0))
 go_upto_region 8 with (first | ((with_reducible refine gA_ (f:=49) rfl ?_);refine goesL_ _ rfl rfl Try.func49 (by kernel_rfl) rfl #[.agg #[.slice Ax2a l0_0.length cx2a,.slice Ax2b l0_1.length cx2b]] rfl (by (try simp only [mA_,mB_,mC_]);first | done | rfl) ?_;have HBo:=HB.out;refine (Z5.calls k Ax2a cx2a l0_0 Ax2b cx2b l0_1 r0 r1 _ (Kd.R_reads' Hx2a.out).2.2 (Kd.R_reads' Hx2a.out).2.1 (Kd.R_reads' Hx2b.out).2.2 (Kd.R_reads' Hx2b.out).2.1 FG.out).mono ?_;rintro e w8 ⟨v0_,rfl,h0_,hb0⟩;refine ⟨_,rfl,?_⟩;clear hczp0_0 hfzp0_0 hczp0_1 hfzp0_1 hczx0_0 hfzx0_0 hczx0_1 hfzx0_1;have n_:=A_ (kE_ BKp0.out hb0);clear BKp0;have BKp0:=n_;clear n_;have n_:=A_ (rD_ Hw0.out hb0);clear Hw0;have Hw0:=n_;clear n_;have n_:=A_ (rD_ Hx2a.out hb0);clear Hx2a;have Hx2a:=n_;clear n_;have n_:=A_ (rD_ Hx2b.out hb0);clear Hx2b;have Hx2b:=n_;clear n_;have n_:=A_ (kE_ BKx0.out hb0);clear BKx0;have BKx0:=n_;clear n_;have n_:=A_ (below_then HBo HBo.size hb0);clear HB;have HB:=n_;clear n_;have HSw8:=A_ hb0.size;have Hg0:=A_ (fresh_R (b0:=w.heap.size) h0_ HBo.size);clear h0_;obtain ⟨Ag0,cg0,eg0⟩:=Kd.R_slice Hg0.out;subst eg0;clear hb0 HBo;obtain ⟨hczp0_0,hczp0_1,hfzp0_0,hfzp0_1⟩:=c2_ BKp0;obtain ⟨hczx0_0,hczx0_1,hfzx0_0,hfzx0_1⟩:=c2_ BKx0))
 go_upto_region 10 with (first | ((with_reducible refine gA_ (f:=50) rfl ?_);refine goesL_ _ rfl rfl Try.func50 (by kernel_rfl) rfl #[.slice Ag0 r0.length cg0,.slice Aw0 r0.length cw0] rfl (by (try simp only [mA_,mB_,mC_]);first | done | rfl) ?_;have HBo:=HB.out;refine (Z33.calls k Ag0 cg0 r0 Aw0 cw0 r0 true _ (Kd.R_reads' Hg0.out).2.2 (Kd.R_reads' Hg0.out).2.1 (Kd.R_reads' Hw0.out).2.2 (Kd.R_reads' Hw0.out).2.1 FQ0.out).mono ?_;rintro e w9 ⟨rfl,hd⟩;refine ⟨_,rfl,?_⟩;clear hczp0_0 hfzp0_0 hczp0_1 hfzp0_1 hczx0_0 hfzx0_0 hczx0_1 hfzx0_1;replace hd:=Drawn0.below hd;have n_:=A_ (kE_ BKp0.out hd);clear BKp0;have BKp0:=n_;clear n_;have n_:=A_ (rD_ Hw0.out hd);clear Hw0;have Hw0:=n_;clear n_;have n_:=A_ (rD_ Hx2a.out hd);clear Hx2a;have Hx2a:=n_;clear n_;have n_:=A_ (rD_ Hx2b.out hd);clear Hx2b;have Hx2b:=n_;clear n_;have n_:=A_ (kE_ BKx0.out hd);clear BKx0;have BKx0:=n_;clear n_;have n_:=A_ (rD_ Hg0.out hd);clear Hg0;have Hg0:=n_;clear n_;have n_:=A_ (below_then HBo HBo.size hd);clear HB;have HB:=n_;clear n_;have HSw9:=A_ hd.size;clear hd HBo;obtain ⟨hczp0_0,hczp0_1,hfzp0_0,hfzp0_1⟩:=c2_ BKp0;obtain ⟨hczx0_0,hczx0_1,hfzx0_0,hfzx0_1⟩:=c2_ BKx0))
 clear hczp0_0 hfzp0_0 hczp0_1 hfzp0_1 hczx0_0 hfzx0_0 hczx0_1 hfzx0_1
 have n_:=A_ (kB_ BKp0.out)
 clear BKp0
 have BKp0:=n_
 clear n_
 have n_:=A_ (rC_ Hw0.out)
 clear Hw0
 have Hw0:=n_
 clear n_
 have n_:=A_ (rC_ Hx2a.out)
 clear Hx2a
 have Hx2a:=n_
 clear n_
 have n_:=A_ (rC_ Hx2b.out)
 clear Hx2b
 have Hx2b:=n_
 clear n_
 have n_:=A_ (kB_ BKx0.out)
 clear BKx0
 have BKx0:=n_
 clear n_
 have n_:=A_ (rC_ Hg0.out)
 clear Hg0
 have Hg0:=n_
 clear n_
 have n_:=A_ (bC_ HB.out)
 clear HB
 have HB:=n_
 clear n_
 have HSw11:=A_ (show w9.heap.size≤w9.drew.heap.size from nA_ _)
 refine start_ (n:=5) (S:=fun w'=>w'.cell? ⟨gbp0,0,none⟩ = some (.slice A0_0 l0_0.length c0_0)∧w'.cell? ⟨gbp0,1,none⟩ = some (.slice A0_1 l0_1.length c0_1)∧w'.cell? ⟨gbx0,0,none⟩ = some (.slice Ax2a l0_0.length cx2a)∧w'.cell? ⟨gbx0,1,none⟩ = some (.slice Ax2b l0_1.length cx2b)) (ds:=[]) (bl_ 5 0) (by kernel_rfl) rfl (by kernel_rfl) ⟨cz0_ BKp0,cz1_ BKp0,cz0_ BKx0,cz1_ BKx0⟩ (fun hHeld=>?_)
 generalize hwd:w9.drew = w11 at BKp0 Hw0 Hx2a Hx2b BKx0 Hg0 HB HSw11 hHeld ⊢
 clear hwd
 refine take_ (i:=0) (N:=some 41) (v:=?_) (a':=?_) (bl_ 5 1) rfl rfl (by kernel_rfl) (fun _ _ _ h=>h) (Or.inl ⟨by rfl,?_⟩) hHeld ?_ ?_
 rotate_left
 ·rintro w' ⟨s0,s1,s2,s3⟩
  go_simp
  with_reducible rfl
 rotate_left
 ·simp only [Act.put,sA_,sB_,sC_,i64_w,i32_w]
  rfl
 refine take_ (i:=1) (N:=some 42) (v:=?_) (a':=?_) (bl_ 5 3) rfl rfl (by kernel_rfl) (fun _ _ _ h=>h) (Or.inl ⟨by rfl,?_⟩) hHeld ?_ ?_
 rotate_left
 ·rintro w' ⟨s0,s1,s2,s3⟩
  go_simp
  with_reducible rfl
 rotate_left
 ·simp only [Act.put,sA_,sB_,sC_,i64_w,i32_w]
  rfl
 refine one_ (i:=2) (N:=some 43) (bl_ 5 7) rfl rfl (by kernel_rfl) (by decide) (fun K hK=>?_)
 replace hK:=A_ hK
 refine gO_ Try.func33 #[.agg #[.slice A0_0 l0_0.length c0_0,.slice A0_1 l0_1.length c0_1]] (by rfl) rfl rfl (by (try simp only [mA_,mB_,mC_]);first | done | rfl) ?_
 have HBo:=HB.out
 refine (Z36.calls k A0_0 c0_0 l0_0 A0_1 c0_1 l0_1 l0_0 l0_1 _ (cD_ HR0_0.out HB.out) HC0_0.out (cD_ HR0_1.out HB.out) HC0_1.out FS0.out).mono ?_
 rintro e w12 ⟨v0_,v1_,rfl,h0_,h1_,hb0⟩
 refine ⟨_,rfl,?_⟩
 clear hHeld
 have n_:=A_ (kE_ BKp0.out hb0)
 clear BKp0
 have BKp0:=n_
 clear n_
 have n_:=A_ (rD_ Hw0.out hb0)
 clear Hw0
 have Hw0:=n_
 clear n_
 have n_:=A_ (rD_ Hx2a.out hb0)
 clear Hx2a
 have Hx2a:=n_
 clear n_
 have n_:=A_ (rD_ Hx2b.out hb0)
 clear Hx2b
 have Hx2b:=n_
 clear n_
 have n_:=A_ (kE_ BKx0.out hb0)
 clear BKx0
 have BKx0:=n_
 clear n_
 have n_:=A_ (rD_ Hg0.out hb0)
 clear Hg0
 have Hg0:=n_
 clear n_
 have n_:=A_ (below_then HBo HBo.size hb0)
 clear HB
 have HB:=n_
 clear n_
 have HSw12:=A_ hb0.size
 have NE3:=A_ h0_.1
 have Hx3a:=A_ (fresh_R (b0:=w.heap.size) h0_ HBo.size)
 clear h0_
 obtain ⟨Ax3a,cx3a,ex3a⟩:=Kd.R_slice Hx3a.out
 subst ex3a
 have Hx3b:=A_ (fresh_R (b0:=w.heap.size) h1_ HBo.size)
 clear h1_
 obtain ⟨Ax3b,cx3b,ex3b⟩:=Kd.R_slice Hx3b.out
 subst ex3b
 clear hb0 HBo
 refine hK.out _ _ ⟨cz0_ BKp0,cz1_ BKp0,cz0_ BKx0,cz1_ BKx0⟩ (fun hHeld=>?_)
 clear hK K
 refine no_ (some 43) ?_
 refine one_ (i:=3) (N:=some 44) (bl_ 5 15) rfl rfl (by kernel_rfl) (by decide) (fun K hK=>?_)
 replace hK:=A_ hK
 refine gO_ Try.func34 #[.agg #[.slice Ax2a l0_0.length cx2a,.slice Ax2b l0_1.length cx2b],.agg #[.slice Ax3a l0_0.length cx3a,.slice Ax3b l0_1.length cx3b]] (by rfl) rfl rfl (by (try simp only [mA_,mB_,mC_]);first | done | rfl) ?_
 have HBo:=HB.out
 refine (Z34.calls k Ax2a cx2a l0_0 Ax2b cx2b l0_1 Ax3a cx3a l0_0 Ax3b cx3b l0_1 true _ (Kd.R_reads' Hx2a.out).2.2 (Kd.R_reads' Hx2a.out).2.1 (Kd.R_reads' Hx2b.out).2.2 (Kd.R_reads' Hx2b.out).2.1 (Kd.R_reads' Hx3a.out).2.2 (Kd.R_reads' Hx3a.out).2.1 (Kd.R_reads' Hx3b.out).2.2 (Kd.R_reads' Hx3b.out).2.1 FE0.out).mono ?_
 rintro e w13 ⟨rfl,hb0⟩
 refine ⟨_,rfl,?_⟩
 clear hHeld
 have n_:=A_ (kE_ BKp0.out hb0)
 clear BKp0
 have BKp0:=n_
 clear n_
 have n_:=A_ (rD_ Hw0.out hb0)
 clear Hw0
 have Hw0:=n_
 clear n_
 have n_:=A_ (rD_ Hx2a.out hb0)
 clear Hx2a
 have Hx2a:=n_
 clear n_
 have n_:=A_ (rD_ Hx2b.out hb0)
 clear Hx2b
 have Hx2b:=n_
 clear n_
 have n_:=A_ (kE_ BKx0.out hb0)
 clear BKx0
 have BKx0:=n_
 clear n_
 have n_:=A_ (rD_ Hg0.out hb0)
 clear Hg0
 have Hg0:=n_
 clear n_
 have n_:=A_ (rD_ Hx3a.out hb0)
 clear Hx3a
 have Hx3a:=n_
 clear n_
 have n_:=A_ (rD_ Hx3b.out hb0)
 clear Hx3b
 have Hx3b:=n_
 clear n_
 have n_:=A_ (below_then HBo HBo.size hb0)
 clear HB
 have HB:=n_
 clear n_
 have HSw13:=A_ hb0.size
 clear hb0 HBo
 refine hK.out _ _ ⟨cz0_ BKp0,cz1_ BKp0,cz0_ BKx0,cz1_ BKx0⟩ (fun hHeld=>?_)
 clear hK K
 refine no_ (some 44) ?_
 refine pure_ (i:=4) (N:=some 45) (v:=?_) (a':=?_) (bl_ 5 31) rfl rfl (by kernel_rfl) (fun _ _ _ h=>h) (Or.inl ⟨by rfl,?_⟩) ?_ ?_
 rotate_left
 ·intro w'
  go_simp
  with_reducible rfl
 rotate_left
 ·simp only [Act.put,sA_,sB_,sC_,i64_w,i32_w]
  rfl
 refine done_ (by kernel_rfl) ?_
 clear hHeld
 obtain ⟨hczp0_0,hczp0_1,hfzp0_0,hfzp0_1⟩:=c2_ BKp0
 obtain ⟨hczx0_0,hczx0_1,hfzx0_0,hfzx0_1⟩:=c2_ BKx0
 clear Hx3a Hx3b
 go_upto_region 13 with (fail)
 go_upto_region 14 with (first | ((with_reducible refine gA_ (f:=41) rfl ?_);refine goesL_ _ rfl rfl Try.func41 (by kernel_rfl) rfl #[.agg #[.slice Ax2a l0_0.length cx2a,.slice Ax2b l0_1.length cx2b],.int .i64 1] rfl (by (try simp only [mA_,mB_,mC_]);first | done | rfl) ?_;have HBo:=HB.out;refine (Z22.calls k (fun k_=>some k_ = (.slice Ax2a l0_0.length cx2a:Value).ownBlock) _ l0_0 (fun k_=>some k_ = (.slice Ax2b l0_1.length cx2b:Value).ownBlock) _ l0_1 1 km0 ya0 yb0 w _ HB.out (Kd.R_tight rfl Hx2a.out) (fun k_ e_=>fun e2_=>NE2.out k_ e_.symm e2_) (Kd.R_tight rfl Hx2b.out) (fun k_ e_=>fun e2_=>NE2.out k_ e2_.symm e_) FK0.out).mono ?_;rintro e w14 ⟨rfl,hy0_,hy1_,hb0,hkp⟩;refine ⟨_,rfl,?_⟩;clear hczp0_0 hfzp0_0 hczp0_1 hfzp0_1 hczx0_0 hfzx0_0 hczx0_1 hfzx0_1;have n_:=A_ (blk_kept (g:=gbp0) BKp0.out hkp (fun hs=>by have hk:=GIp0.out;have:=hk.1;have:=hk.2;exact Or.elim hs (fun hs=>by have h1:=(Hx2a.out.1 _ hs.symm).1;have h2:=(Hx2a.out.1 _ hs.symm).2;have:=HSw1.out;have:=HSw2.out;have:=HSw3.out;have:=HSw4.out;have:=HSw5.out;have:=HSw6.out;have:=HSw7.out;have:=HSw8.out;have:=HSw9.out;have:=HSw11.out;have:=HSw12.out;have:=HSw13.out;omega) (fun hs=>by have h1:=(Hx2b.out.1 _ hs.symm).1;have h2:=(Hx2b.out.1 _ hs.symm).2;have:=HSw1.out;have:=HSw2.out;have:=HSw3.out;have:=HSw4.out;have:=HSw5.out;have:=HSw6.out;have:=HSw7.out;have:=HSw8.out;have:=HSw9.out;have:=HSw11.out;have:=HSw12.out;have:=HSw13.out;omega)));clear BKp0;have BKp0:=n_;clear n_;have n_:=A_ (Kd.R_kept Hw0.out hkp (fun k_ hk hs=>by have:=hk.1;have:=hk.2;exact Or.elim hs (fun hs=>by have h1:=(Hx2a.out.1 _ hs.symm).1;have h2:=(Hx2a.out.1 _ hs.symm).2;have:=HSw1.out;have:=HSw2.out;have:=HSw3.out;have:=HSw4.out;have:=HSw5.out;have:=HSw6.out;have:=HSw7.out;have:=HSw8.out;have:=HSw9.out;have:=HSw11.out;have:=HSw12.out;have:=HSw13.out;omega) (fun hs=>by have h1:=(Hx2b.out.1 _ hs.symm).1;have h2:=(Hx2b.out.1 _ hs.symm).2;have:=HSw1.out;have:=HSw2.out;have:=HSw3.out;have:=HSw4.out;have:=HSw5.out;have:=HSw6.out;have:=HSw7.out;have:=HSw8.out;have:=HSw9.out;have:=HSw11.out;have:=HSw12.out;have:=HSw13.out;omega)));clear Hw0;have Hw0:=n_;clear n_;have n_:=A_ (blk_kept (g:=gbx0) BKx0.out hkp (fun hs=>by have hk:=GIx0.out;have:=hk.1;have:=hk.2;exact Or.elim hs (fun hs=>by have h1:=(Hx2a.out.1 _ hs.symm).1;have h2:=(Hx2a.out.1 _ hs.symm).2;have:=HSw1.out;have:=HSw2.out;have:=HSw3.out;have:=HSw4.out;have:=HSw5.out;have:=HSw6.out;have:=HSw7.out;have:=HSw8.out;have:=HSw9.out;have:=HSw11.out;have:=HSw12.out;have:=HSw13.out;omega) (fun hs=>by have h1:=(Hx2b.out.1 _ hs.symm).1;have h2:=(Hx2b.out.1 _ hs.symm).2;have:=HSw1.out;have:=HSw2.out;have:=HSw3.out;have:=HSw4.out;have:=HSw5.out;have:=HSw6.out;have:=HSw7.out;have:=HSw8.out;have:=HSw9.out;have:=HSw11.out;have:=HSw12.out;have:=HSw13.out;omega)));clear BKx0;have BKx0:=n_;clear n_;have n_:=A_ (Kd.R_kept Hg0.out hkp (fun k_ hk hs=>by have:=hk.1;have:=hk.2;exact Or.elim hs (fun hs=>by have h1:=(Hx2a.out.1 _ hs.symm).1;have h2:=(Hx2a.out.1 _ hs.symm).2;have:=HSw1.out;have:=HSw2.out;have:=HSw3.out;have:=HSw4.out;have:=HSw5.out;have:=HSw6.out;have:=HSw7.out;have:=HSw8.out;have:=HSw9.out;have:=HSw11.out;have:=HSw12.out;have:=HSw13.out;omega) (fun hs=>by have h1:=(Hx2b.out.1 _ hs.symm).1;have h2:=(Hx2b.out.1 _ hs.symm).2;have:=HSw1.out;have:=HSw2.out;have:=HSw3.out;have:=HSw4.out;have:=HSw5.out;have:=HSw6.out;have:=HSw7.out;have:=HSw8.out;have:=HSw9.out;have:=HSw11.out;have:=HSw12.out;have:=HSw13.out;omega)));clear Hg0;have Hg0:=n_;clear n_;have n_:=A_ (hb0);clear HB;have HB:=n_;clear n_;have HSw14:=A_ hkp.1;clear Hx2a;clear Hx2b;clear hb0 hkp HBo;obtain ⟨hczp0_0,hczp0_1,hfzp0_0,hfzp0_1⟩:=c2_ BKp0;obtain ⟨hczx0_0,hczx0_1,hfzx0_0,hfzx0_1⟩:=c2_ BKx0))
 go_upto_region 17 with (first | (go_at_call 50;have HBo:=HB.out;refine (Z33.calls k Ag0 cg0 r0 Aw0 cw0 r0 true _ (Kd.R_reads' Hg0.out).2.2 (Kd.R_reads' Hg0.out).2.1 (Kd.R_reads' Hw0.out).2.2 (Kd.R_reads' Hw0.out).2.1 FQ0.out).mono ?_;rintro e w15 ⟨rfl,hd⟩;clear hczp0_0 hfzp0_0 hczp0_1 hfzp0_1 hczx0_0 hfzx0_0 hczx0_1 hfzx0_1;replace hd:=Drawn0.below hd;have n_:=A_ (kE_ BKp0.out hd);clear BKp0;have BKp0:=n_;clear n_;have n_:=A_ (rD_ Hw0.out hd);clear Hw0;have Hw0:=n_;clear n_;have n_:=A_ (kE_ BKx0.out hd);clear BKx0;have BKx0:=n_;clear n_;have n_:=A_ (rD_ Hg0.out hd);clear Hg0;have Hg0:=n_;clear n_;have n_:=A_ (below_then HBo HBo.size hd);clear HB;have HB:=n_;clear n_;have HSw15:=A_ hd.size;clear hd HBo;obtain ⟨hczp0_0,hczp0_1,hfzp0_0,hfzp0_1⟩:=c2_ BKp0;obtain ⟨hczx0_0,hczx0_1,hfzx0_0,hfzx0_1⟩:=c2_ BKx0))
 go_upto_region 19 with (first | ((with_reducible refine gA_ (f:=51) rfl ?_);refine goesL_ _ rfl rfl Try.func51 (by kernel_rfl) rfl #[.slice Ag0 r0.length cg0,.int .i64 1] rfl (by (try simp only [mA_,mB_,mC_]);first | done | rfl) ?_;have HBo:=HB.out;refine (Z21.calls k (fun k_=>w7.heap.size≤k_∧k_ < w8.heap.size) _ r0 1 m0 z0 w _ HB.out Hg0.out FM0.out).mono ?_;rintro e w16 ⟨rfl,hy0_,hb0,hkp⟩;refine ⟨_,rfl,?_⟩;clear hczp0_0 hfzp0_0 hczp0_1 hfzp0_1 hczx0_0 hfzx0_0 hczx0_1 hfzx0_1;have Xy:=A_ (hy0_);have n_:=A_ (blk_kept (g:=gbp0) BKp0.out hkp (fun hs=>by have hk:=GIp0.out;have:=hk.1;have:=hk.2;have:=hs.1;have:=hs.2;have:=HSw1.out;have:=HSw2.out;have:=HSw3.out;have:=HSw4.out;have:=HSw5.out;have:=HSw6.out;have:=HSw7.out;have:=HSw8.out;have:=HSw9.out;have:=HSw11.out;have:=HSw12.out;have:=HSw13.out;have:=HSw14.out;have:=HSw15.out;omega));clear BKp0;have BKp0:=n_;clear n_;have n_:=A_ (Kd.R_kept Hw0.out hkp (fun k_ hk hs=>by have:=hk.1;have:=hk.2;have:=hs.1;have:=hs.2;have:=HSw1.out;have:=HSw2.out;have:=HSw3.out;have:=HSw4.out;have:=HSw5.out;have:=HSw6.out;have:=HSw7.out;have:=HSw8.out;have:=HSw9.out;have:=HSw11.out;have:=HSw12.out;have:=HSw13.out;have:=HSw14.out;have:=HSw15.out;omega));clear Hw0;have Hw0:=n_;clear n_;have n_:=A_ (blk_kept (g:=gbx0) BKx0.out hkp (fun hs=>by have hk:=GIx0.out;have:=hk.1;have:=hk.2;have:=hs.1;have:=hs.2;have:=HSw1.out;have:=HSw2.out;have:=HSw3.out;have:=HSw4.out;have:=HSw5.out;have:=HSw6.out;have:=HSw7.out;have:=HSw8.out;have:=HSw9.out;have:=HSw11.out;have:=HSw12.out;have:=HSw13.out;have:=HSw14.out;have:=HSw15.out;omega));clear BKx0;have BKx0:=n_;clear n_;have n_:=A_ (hb0);clear HB;have HB:=n_;clear n_;have HSw16:=A_ hkp.1;clear Hg0;have Hy:=Xy;clear Xy;clear hb0 hkp HBo;obtain ⟨hczp0_0,hczp0_1,hfzp0_0,hfzp0_1⟩:=c2_ BKp0;obtain ⟨hczx0_0,hczx0_1,hfzx0_0,hfzx0_1⟩:=c2_ BKx0;have Hg0:=Hy;clear Hy;have EL0:=A_ (show r0.length = z0.length from (Kd.R_reads' Hg0.out).1)))
 go_upto_region 24 with (first | ((with_reducible refine gA_ (f:=52) rfl ?_);refine goesL_ _ rfl rfl Try.func52 (by kernel_rfl) rfl #[.slice Ag0 z0.length cg0,.int .i64 1] rfl (by (try simp only [mA_,mB_,mC_]);first | done | rfl | (rw [← EL0.out];rfl)) ?_;have HBo:=HB.out;refine (Z20.calls k Ag0 cg0 z0 1 m0 _ (Kd.R_reads' Hg0.out).2.2 (Nat.le_trans (Nat.le_of_eq EL0.out.symm) (Kd.R_reads' Hg0.out).2.1) FH0.out).mono ?_;rintro e w17 ⟨rfl,hb0⟩;refine ⟨_,rfl,?_⟩;clear hczp0_0 hfzp0_0 hczp0_1 hfzp0_1 hczx0_0 hfzx0_0 hczx0_1 hfzx0_1;have n_:=A_ (kE_ BKp0.out hb0);clear BKp0;have BKp0:=n_;clear n_;have n_:=A_ (rD_ Hw0.out hb0);clear Hw0;have Hw0:=n_;clear n_;have n_:=A_ (kE_ BKx0.out hb0);clear BKx0;have BKx0:=n_;clear n_;have n_:=A_ (rD_ Hg0.out hb0);clear Hg0;have Hg0:=n_;clear n_;have n_:=A_ (below_then HBo HBo.size hb0);clear HB;have HB:=n_;clear n_;have HSw17:=A_ hb0.size;clear hb0 HBo;obtain ⟨hczp0_0,hczp0_1,hfzp0_0,hfzp0_1⟩:=c2_ BKp0;obtain ⟨hczx0_0,hczx0_1,hfzx0_0,hfzx0_1⟩:=c2_ BKx0))
 go_upto_region 25 with (first | ((with_reducible refine gA_ (f:=33) rfl ?_);refine goesL_ _ rfl rfl Try.func33 (by kernel_rfl) rfl #[.agg #[.slice A0_0 l0_0.length c0_0,.slice A0_1 l0_1.length c0_1]] rfl (by (try simp only [mA_,mB_,mC_]);first | done | rfl | (rw [← EL0.out];rfl)) ?_;have HBo:=HB.out;refine (Z36.calls k A0_0 c0_0 l0_0 A0_1 c0_1 l0_1 l0_0 l0_1 _ (cD_ HR0_0.out HB.out) HC0_0.out (cD_ HR0_1.out HB.out) HC0_1.out FS0.out).mono ?_;rintro e w18 ⟨v0_,v1_,rfl,h0_,h1_,hb0⟩;refine ⟨_,rfl,?_⟩;clear hczp0_0 hfzp0_0 hczp0_1 hfzp0_1 hczx0_0 hfzx0_0 hczx0_1 hfzx0_1;have n_:=A_ (kE_ BKp0.out hb0);clear BKp0;have BKp0:=n_;clear n_;have n_:=A_ (rD_ Hw0.out hb0);clear Hw0;have Hw0:=n_;clear n_;have n_:=A_ (kE_ BKx0.out hb0);clear BKx0;have BKx0:=n_;clear n_;have n_:=A_ (rD_ Hg0.out hb0);clear Hg0;have Hg0:=n_;clear n_;have n_:=A_ (below_then HBo HBo.size hb0);clear HB;have HB:=n_;clear n_;have HSw18:=A_ hb0.size;have NE4:=A_ h0_.1;have Hx4a:=A_ (fresh_R (b0:=w.heap.size) h0_ HBo.size);clear h0_;obtain ⟨Ax4a,cx4a,ex4a⟩:=Kd.R_slice Hx4a.out;subst ex4a;have Hx4b:=A_ (fresh_R (b0:=w.heap.size) h1_ HBo.size);clear h1_;obtain ⟨Ax4b,cx4b,ex4b⟩:=Kd.R_slice Hx4b.out;subst ex4b;clear hb0 HBo;obtain ⟨hczp0_0,hczp0_1,hfzp0_0,hfzp0_1⟩:=c2_ BKp0;obtain ⟨hczx0_0,hczx0_1,hfzx0_0,hfzx0_1⟩:=c2_ BKx0) | ((with_reducible refine gA_ (f:=49) rfl ?_);refine goesL_ _ rfl rfl Try.func49 (by kernel_rfl) rfl #[.agg #[.slice Ax4a l0_0.length cx4a,.slice Ax4b l0_1.length cx4b]] rfl (by (try simp only [mA_,mB_,mC_]);first | done | rfl | (rw [← EL0.out];rfl)) ?_;have HBo:=HB.out;refine (Z5.calls k Ax4a cx4a l0_0 Ax4b cx4b l0_1 r0 r1 _ (Kd.R_reads' Hx4a.out).2.2 (Kd.R_reads' Hx4a.out).2.1 (Kd.R_reads' Hx4b.out).2.2 (Kd.R_reads' Hx4b.out).2.1 FG.out).mono ?_;rintro e w19 ⟨v0_,rfl,h0_,hb0⟩;refine ⟨_,rfl,?_⟩;clear hczp0_0 hfzp0_0 hczp0_1 hfzp0_1 hczx0_0 hfzx0_0 hczx0_1 hfzx0_1;have n_:=A_ (kE_ BKp0.out hb0);clear BKp0;have BKp0:=n_;clear n_;have n_:=A_ (rD_ Hw0.out hb0);clear Hw0;have Hw0:=n_;clear n_;have n_:=A_ (kE_ BKx0.out hb0);clear BKx0;have BKx0:=n_;clear n_;have n_:=A_ (rD_ Hg0.out hb0);clear Hg0;have Hg0:=n_;clear n_;have n_:=A_ (rD_ Hx4a.out hb0);clear Hx4a;have Hx4a:=n_;clear n_;have n_:=A_ (rD_ Hx4b.out hb0);clear Hx4b;have Hx4b:=n_;clear n_;have n_:=A_ (below_then HBo HBo.size hb0);clear HB;have HB:=n_;clear n_;have HSw19:=A_ hb0.size;have Hh0:=A_ (fresh_R (b0:=w.heap.size) h0_ HBo.size);clear h0_;obtain ⟨Ah0,ch0,eh0⟩:=Kd.R_slice Hh0.out;subst eh0;clear hb0 HBo;obtain ⟨hczp0_0,hczp0_1,hfzp0_0,hfzp0_1⟩:=c2_ BKp0;obtain ⟨hczx0_0,hczx0_1,hfzx0_0,hfzx0_1⟩:=c2_ BKx0))
 go_upto_region 28 with (first | ((with_reducible refine gA_ (f:=50) rfl ?_);refine goesL_ _ rfl rfl Try.func50 (by kernel_rfl) rfl #[.slice Ah0 r0.length ch0,.slice Aw0 r0.length cw0] rfl (by (try simp only [mA_,mB_,mC_]);first | done | rfl | (rw [← EL0.out];rfl)) ?_;have HBo:=HB.out;refine (Z33.calls k Ah0 ch0 r0 Aw0 cw0 r0 true _ (Kd.R_reads' Hh0.out).2.2 (Kd.R_reads' Hh0.out).2.1 (Kd.R_reads' Hw0.out).2.2 (Kd.R_reads' Hw0.out).2.1 FQ0.out).mono ?_;rintro e w20 ⟨rfl,hd⟩;refine ⟨_,rfl,?_⟩;clear hczp0_0 hfzp0_0 hczp0_1 hfzp0_1 hczx0_0 hfzx0_0 hczx0_1 hfzx0_1;replace hd:=Drawn0.below hd;have n_:=A_ (kE_ BKp0.out hd);clear BKp0;have BKp0:=n_;clear n_;have n_:=A_ (rD_ Hw0.out hd);clear Hw0;have Hw0:=n_;clear n_;have n_:=A_ (kE_ BKx0.out hd);clear BKx0;have BKx0:=n_;clear n_;have n_:=A_ (rD_ Hg0.out hd);clear Hg0;have Hg0:=n_;clear n_;have n_:=A_ (rD_ Hx4a.out hd);clear Hx4a;have Hx4a:=n_;clear n_;have n_:=A_ (rD_ Hx4b.out hd);clear Hx4b;have Hx4b:=n_;clear n_;have n_:=A_ (rD_ Hh0.out hd);clear Hh0;have Hh0:=n_;clear n_;have n_:=A_ (below_then HBo HBo.size hd);clear HB;have HB:=n_;clear n_;have HSw20:=A_ hd.size;clear hd HBo;obtain ⟨hczp0_0,hczp0_1,hfzp0_0,hfzp0_1⟩:=c2_ BKp0;obtain ⟨hczx0_0,hczx0_1,hfzx0_0,hfzx0_1⟩:=c2_ BKx0))
 go_wp2_with (first | ((with_reducible refine gA_ (f:=52) rfl ?_);refine goesL_ _ rfl rfl Try.func52 (by kernel_rfl) rfl #[.slice Ag0 z0.length cg0,.int .i64 1] rfl (by (try simp only [mA_,mB_,mC_]);first | done | rfl | (rw [← EL0.out];rfl)) ?_;have HBo:=HB.out;refine (Z20.calls k Ag0 cg0 z0 1 m0 _ (Kd.R_reads' Hg0.out).2.2 (Nat.le_trans (Nat.le_of_eq EL0.out.symm) (Kd.R_reads' Hg0.out).2.1) FH0.out).mono ?_;rintro e w21 ⟨rfl,hb0⟩;refine ⟨_,rfl,?_⟩;clear hczp0_0 hfzp0_0 hczp0_1 hfzp0_1 hczx0_0 hfzx0_0 hczx0_1 hfzx0_1;have n_:=A_ (kE_ BKp0.out hb0);clear BKp0;have BKp0:=n_;clear n_;have n_:=A_ (rD_ Hw0.out hb0);clear Hw0;have Hw0:=n_;clear n_;have n_:=A_ (kE_ BKx0.out hb0);clear BKx0;have BKx0:=n_;clear n_;have n_:=A_ (rD_ Hg0.out hb0);clear Hg0;have Hg0:=n_;clear n_;have n_:=A_ (rD_ Hx4a.out hb0);clear Hx4a;have Hx4a:=n_;clear n_;have n_:=A_ (rD_ Hx4b.out hb0);clear Hx4b;have Hx4b:=n_;clear n_;have n_:=A_ (rD_ Hh0.out hb0);clear Hh0;have Hh0:=n_;clear n_;have n_:=A_ (below_then HBo HBo.size hb0);clear HB;have HB:=n_;clear n_;have HSw21:=A_ hb0.size;clear hb0 HBo;obtain ⟨hczp0_0,hczp0_1,hfzp0_0,hfzp0_1⟩:=c2_ BKp0;obtain ⟨hczx0_0,hczx0_1,hfzx0_0,hfzx0_1⟩:=c2_ BKx0))
 go_ret
 exact ⟨rfl,HB.out⟩
end Go.Proofs.Ytcggfjpnfodbaaa.A
end
section
/- Plain mathematics: permutations as lists of numbers. No conditions. -/
namespace Go.Proofs.Ytcggfjpnfodbaaa.M
set_option linter.unusedVariables false
set_option linter.unusedSimpArgs false
def I (l:List Nat):List Int:=l.map Int.ofNat
def g (p:List Nat) (i:Nat):Nat:=p.getD i 0
def tab (n:Nat) (f:Nat→Nat):List Nat:=(List.range n).map f
theorem I_len (l:List Nat):(I l).length = l.length:=by simp [I]
theorem I_inj {a b:List Nat} (h:I a = I b):a = b:=by
 unfold I at h
 exact (List.map_inj_right (fun x y hxy=>Int.ofNat.inj hxy)).mp h
theorem tab_len (n:Nat) (f:Nat→Nat):(tab n f).length = n:=by simp [tab]
theorem g_tab {n:Nat} {f:Nat→Nat} {i:Nat} (h:i < n):g (tab n f) i = f i:=by simp [g,tab,List.getD_eq_getElem?_getD,h]
theorem g_get {p:List Nat} {i:Nat} (h:i < p.length):g p i = p[i]:=by simp [g,List.getD_eq_getElem?_getD,h]
theorem g_mem {p:List Nat} {i:Nat} (h:i < p.length):g p i ∈ p:=by rw [g_get h];exact List.getElem_mem h
theorem mem_g {p:List Nat} {x:Nat} (h:x ∈ p):∃ i,i < p.length∧g p i = x:=by
 obtain ⟨i,hi,rfl⟩:=List.mem_iff_getElem.mp h
 exact ⟨i,hi,g_get hi⟩
theorem ext_g {a b:List Nat} (hl:a.length = b.length) (h:∀ i,i < a.length→g a i = g b i):a = b:=by
 apply List.ext_getElem hl
 intro i h1 h2
 rw [← g_get h1,← g_get h2]
 exact h i h1
theorem eq_tab {l:List Nat} {n:Nat} {f:Nat→Nat} (hl:l.length = n) (h:∀ i,i < n→g l i = f i):l = tab n f :=
 ext_g (by rw [tab_len,hl]) (fun i hi=>by rw [hl] at hi;rw [g_tab hi,h i hi])
theorem g_set {p:List Nat} {i x j:Nat} (h:i < p.length):g (p.set i x) j = if i = j then x else g p j:=by
 unfold g
 rw [List.getD_eq_getElem?_getD,List.getD_eq_getElem?_getD,List.getElem?_set]
 by_cases e:i = j
 ·subst e
  simp [h]
 ·simp [e]
theorem I_set (p:List Nat) (i x:Nat):(I p).set i (x:Int) = I (p.set i x):=by simp [I,List.map_set]
theorem I_snoc (p:List Nat) (x:Nat):I p ++ [(x:Int)] = I (p ++ [x]):=by simp [I]
theorem I_rep (n x:Nat):I (List.replicate n x) = List.replicate n (x:Int):=by simp [I]
structure IsP (p:List Nat):Prop where
 lt:∀ x ∈ p,x < p.length
 nd:p.Nodup
instance (p:List Nat):Decidable (IsP p):=decidable_of_iff ((∀ x ∈ p,x < p.length)∧p.Nodup) ⟨fun h=>⟨h.1,h.2⟩,fun h=>⟨h.lt,h.nd⟩⟩
theorem nodup_le (n:Nat):∀ l:List Nat,l.Nodup→(∀ x ∈ l,x < n)→l.length≤n:=by
 induction n with
 | zero =>
  intro l _ h
  cases l with
  | nil=>simp
  | cons a l=>exact absurd (h a (by simp)) (by omega)
 | succ n ih =>
  intro l hn h
  have h1:=ih (l.erase n) (hn.erase n) (fun x hx=>by
   have h2:=(List.Nodup.mem_erase_iff hn).mp hx
   have h3:=h x h2.2
   have h4:=h2.1
   omega)
  have h5:=@List.length_erase _ _ _ n l
  split at h5 <;> omega
theorem mem_all {p:List Nat} (hp:IsP p) {x:Nat} (h:x < p.length):x ∈ p:=by
 apply Classical.byContradiction
 intro hx
 have:=nodup_le p.length (x :: p) (List.nodup_cons.mpr ⟨hx,hp.nd⟩) (fun y hy=>by
  rcases List.mem_cons.mp hy with rfl | hy
  ·exact h
  ·exact hp.lt y hy)
 simp at this
 omega
theorem g_lt {p:List Nat} (hp:IsP p) {i:Nat} (h:i < p.length):g p i < p.length:=hp.lt _ (g_mem h)
theorem g_inj {p:List Nat} (hp:IsP p) {i j:Nat} (hi:i < p.length) (hj:j < p.length) (h:g p i = g p j):i = j:=by
 rw [g_get hi,g_get hj] at h
 have hw:=List.pairwise_iff_getElem.mp hp.nd
 rcases Nat.lt_trichotomy i j with hij | hij | hij
 ·exact absurd h (hw i j hi hj hij)
 ·exact hij
 ·exact absurd h.symm (hw j i hj hi hij)
def ix (p:List Nat) (x:Nat):Nat:=p.idxOf x
theorem ix_lt {p:List Nat} (hp:IsP p) {x:Nat} (h:x < p.length):ix p x < p.length:=List.idxOf_lt_length_of_mem (mem_all hp h)
theorem g_ix {p:List Nat} (hp:IsP p) {x:Nat} (h:x < p.length):g p (ix p x) = x:=by
 rw [g_get (ix_lt hp h)]
 exact List.getElem_idxOf (ix_lt hp h)
theorem ix_g {p:List Nat} (hp:IsP p) {i:Nat} (h:i < p.length):ix p (g p i) = i :=
 g_inj hp (ix_lt hp (g_lt hp h)) h (g_ix hp (g_lt hp h))
theorem ix_eq {p:List Nat} (hp:IsP p) {i x:Nat} (h:i < p.length) (e:g p i = x):ix p x = i:=by rw [← e];exact ix_g hp h
theorem isP_mk {p:List Nat} (h1:∀ i,i < p.length→g p i < p.length) (h2:∀ i j,i < p.length→j < p.length→g p i = g p j→i = j):IsP p:=by
 refine ⟨fun x hx=>?_,?_⟩
 ·obtain ⟨i,hi,rfl⟩:=mem_g hx
  exact h1 i hi
 ·refine List.pairwise_iff_getElem.mpr ?_
  intro i j hi hj hij e'
  rw [← g_get hi,← g_get hj] at e'
  have:=h2 i j hi hj e'
  omega
theorem isP_tab {n:Nat} {f:Nat→Nat} (h1:∀ i,i < n→f i < n) (h2:∀ i j,i < n→j < n→f i = f j→i = j):IsP (tab n f):=by
 refine isP_mk (fun i hi=>?_) (fun i j hi hj e=>?_)
 ·rw [tab_len] at hi ⊢;rw [g_tab hi];exact h1 i hi
 ·rw [tab_len] at hi hj;rw [g_tab hi,g_tab hj] at e;exact h2 i j hi hj e
def inv (p:List Nat):List Nat:=tab p.length (ix p)
theorem inv_len (p:List Nat):(inv p).length = p.length:=tab_len _ _
theorem g_inv {p:List Nat} {i:Nat} (h:i < p.length):g (inv p) i = ix p i:=g_tab h
theorem isP_inv {p:List Nat} (hp:IsP p):IsP (inv p):=isP_tab (fun i hi=>ix_lt hp hi) (fun i j hi hj e=>by rw [← g_ix hp hi,← g_ix hp hj,e])
def thn (p q:List Nat):List Nat:=tab p.length (fun i=>g q (g p i))
theorem thn_len (p q:List Nat):(thn p q).length = p.length:=tab_len _ _
theorem g_thn {p q:List Nat} {i:Nat} (h:i < p.length):g (thn p q) i = g q (g p i):=g_tab h
theorem isP_thn {p q:List Nat} (hp:IsP p) (hq:IsP q) (hl:p.length = q.length):IsP (thn p q) :=
 isP_tab (fun i hi=>by have h1:=g_lt hp hi;have h2:=g_lt hq (i:=g p i) (by omega);omega)
  (fun i j hi hj e=>g_inj hp hi hj (g_inj hq (by have:=g_lt hp hi;omega) (by have:=g_lt hp hj;omega) e))
def ren (p names:List Nat):List Nat:=tab p.length (fun j=>g names (g p (ix names j)))
theorem ren_len (p names:List Nat):(ren p names).length = p.length:=tab_len _ _
theorem g_ren {p names:List Nat} {j:Nat} (h:j < p.length):g (ren p names) j = g names (g p (ix names j)):=g_tab h
theorem isP_ren {p names:List Nat} (hp:IsP p) (hn:IsP names) (hl:p.length = names.length):IsP (ren p names):=by
 refine isP_tab (fun i hi=>?_) (fun i j hi hj e=>?_)
 ·have h1:=ix_lt hn (x:=i) (by omega)
  have h2:=g_lt hp (i:=ix names i) (by omega)
  have h3:=g_lt hn (i:=g p (ix names i)) (by omega)
  omega
 ·have h1:=ix_lt hn (x:=i) (by omega)
  have h2:=ix_lt hn (x:=j) (by omega)
  have h3:=g_lt hp (i:=ix names i) (by omega)
  have h4:=g_lt hp (i:=ix names j) (by omega)
  have h5:=g_inj hn (by omega) (by omega) e
  have h6:=g_inj hp (by omega) (by omega) h5
  have h7:=g_ix hn (x:=i) (by omega)
  have h8:=g_ix hn (x:=j) (by omega)
  rw [← h7,← h8,h6]
end Go.Proofs.Ytcggfjpnfodbaaa.M
end
section
/- Plain mathematics: permutations of whole numbers, and what is reached by two of them. No conditions. -/
namespace Go.Proofs.Ytcggfjpnfodbaaa.M
set_option linter.unusedVariables false
set_option linter.unusedSimpArgs false
open Go.RowKit Go.Proofs.YtcggfjpnfodbaaaW.PrintWords Go.Proofs.YtcggfjpnfodbaaaW.PrintLast Go.Proofs.YtcggfjpnfodbaaaW.PrintMore
theorem w64 {x:Int} (h0:-9223372036854775808≤x) (h1:x≤9223372036854775807):wrap64 x = x:=by unfold wrap64;omega
theorem w64s (i:Nat) (h:i≤9000000000000000000):wrap64 ((i:Int) + 1) = ((i + 1:Nat):Int):=by rw [w64 (by omega) (by omega)];omega
theorem ev_succ {α:Type} {f:Nat→Option α} {r:α} (h:Ev (fun k=>f (k + 1)) r):Ev f r:=Ev.step (fun _=>rfl) h
theorem rdI (p:List Nat) (i:Nat):rd (I p) (i:Int) = ((g p i:Nat):Int):=by
 unfold rd g I
 simp only [Int.toNat_natCast,List.getD_eq_getElem?_getD,List.getElem?_map]
 cases p[i]? <;> rfl
theorem rd_get (l:List Int) (i:Nat) (h:i < l.length):rd l (i:Int) = l[i]:=by
 unfold rd
 simp [List.getD_eq_getElem?_getD,h]
theorem mem_I {p:List Nat} {x:Nat}:(x:Int) ∈ I p ↔ x ∈ p:=by
 unfold I
 constructor
 ·intro h
  obtain ⟨y,hy,e⟩:=List.mem_map.mp h
  have:y = x:=Int.ofNat.inj e
  exact this ▸ hy
 ·intro h
  exact List.mem_map.mpr ⟨x,h,rfl⟩
def PI (l:List Int):Prop:=l.length≤24∧(∀ x ∈ l,0≤x∧x < (l.length:Int))∧l.Nodup
instance:DecidablePred PI:=fun l=>by unfold PI;infer_instance
def permB (l:List Int):Bool:=decide (PI l)
def N (l:List Int):List Nat:=l.map Int.toNat
theorem N_I (p:List Nat):N (I p) = p:=by
 unfold N I
 rw [List.map_map]
 exact List.map_id'' (fun x=>rfl) p
theorem N_len (l:List Int):(N l).length = l.length:=by simp [N]
theorem I_N {l:List Int} (h:∀ x ∈ l,0≤x):I (N l) = l:=by
 unfold N I
 rw [List.map_map]
 conv=>rhs;rw [← List.map_id l]
 apply List.map_congr_left
 intro x hx
 have:=h x hx
 simp only [Function.comp,id]
 show ((x.toNat:Nat):Int) = x
 omega
theorem PI_nat {l:List Int} (h:PI l):∃ p,l = I p∧IsP p∧p.length≤24:=by
 obtain ⟨h1,h2,h3⟩:=h
 refine ⟨N l,(I_N (fun x hx=>(h2 x hx).1)).symm,?_,by rw [N_len];exact h1⟩
 have e:=I_N (fun x hx=>(h2 x hx).1)
 refine ⟨fun x hx=>?_,?_⟩
 ·have:=(h2 (x:Int) (by rw [← e];exact mem_I.mpr hx)).2
  rw [N_len]
  omega
 ·rw [← e] at h3
  unfold I at h3
  exact (List.pairwise_map.mp h3).imp (fun {a b} hab hh=>hab (by rw [hh]))
theorem PI_I {p:List Nat}:PI (I p) ↔ IsP p∧p.length≤24:=by
 constructor
 ·intro h
  obtain ⟨q,e,h1,h2⟩:=PI_nat h
  have:=I_inj e
  subst this
  exact ⟨h1,h2⟩
 ·intro ⟨h1,h2⟩
  refine ⟨by rw [I_len];exact h2,fun x hx=>?_,?_⟩
  ·unfold I at hx
   obtain ⟨y,hy,rfl⟩:=List.mem_map.mp hx
   have:=h1.lt y hy
   rw [I_len]
   exact ⟨Int.natCast_nonneg y,Int.ofNat_lt.mpr this⟩
  ·unfold I
   exact List.pairwise_map.mpr (h1.nd.imp (fun {a b} hab hh=>hab (Int.ofNat.inj hh)))
theorem permB_I {p:List Nat}:permB (I p) = true ↔ IsP p∧p.length≤24:=by
 unfold permB
 rw [decide_eq_true_iff]
 exact PI_I
def okFrom (l:List Int) (i:Nat):Prop:=∀ j:Nat,i≤j→j < l.length→0≤rd l (j:Int)∧rd l (j:Int) < (l.length:Int)∧rd l (j:Int) ∉ l.take j
theorem okFrom_end (l:List Int) (i:Nat) (h:l.length≤i):okFrom l i:=fun j h1 h2=>by omega
theorem okFrom_step {l:List Int} {i:Nat} (h:0≤rd l (i:Int)∧rd l (i:Int) < (l.length:Int)∧rd l (i:Int) ∉ l.take i):okFrom l i ↔ okFrom l (i + 1):=by
 constructor
 ·intro k j h1 h2
  exact k j (by omega) h2
 ·intro k j h1 h2
  by_cases e:j = i
  ·subst e
   exact h
  ·exact k j (by omega) h2
theorem okFrom_not {l:List Int} {i:Nat} (hi:i < l.length) (h:¬ (0≤rd l (i:Int)∧rd l (i:Int) < (l.length:Int)∧rd l (i:Int) ∉ l.take i)):¬ okFrom l i:=fun k=>h (k i (Nat.le_refl _) hi)
theorem okFrom_PI {l:List Int} (h:l.length≤24):okFrom l 0 ↔ PI l:=by
 constructor
 ·intro k
  refine ⟨h,fun x hx=>?_,?_⟩
  ·obtain ⟨i,hi,rfl⟩:=List.mem_iff_getElem.mp hx
   have:=k i (Nat.zero_le _) hi
   rw [rd_get l i hi] at this
   exact ⟨this.1,this.2.1⟩
  ·refine List.pairwise_iff_getElem.mpr ?_
   intro i j hi hj hij e
   have:=(k j (Nat.zero_le _) hj).2.2
   rw [rd_get l j hj,← e] at this
   exact this (List.mem_take_iff_getElem.mpr ⟨i,by omega,rfl⟩)
 ·intro ⟨_,h2,h3⟩ j _ hj
  rw [rd_get l j hj]
  refine ⟨(h2 _ (List.getElem_mem hj)).1,(h2 _ (List.getElem_mem hj)).2,fun hm=>?_⟩
  obtain ⟨i,hi,e⟩:=List.mem_take_iff_getElem.mp hm
  exact List.pairwise_iff_getElem.mp h3 i j (by omega) hj (by omega) e
theorem permB_of {l:List Int} {b:Bool} (h:l.length≤24) (hb:b = true ↔ okFrom l 0):b = permB l:=by
 rw [Bool.eq_iff_iff,hb,okFrom_PI h]
 unfold permB
 rw [decide_eq_true_iff]
theorem take_succ (l:List Int) (i:Nat) (h:i < l.length):l.take (i + 1) = l.take i ++ [rd l (i:Int)]:=by
 rw [rd_get l i h,List.take_append_getElem h]
def st1 (out:List Nat) (x:Nat):List Nat:=if x ∈ out then out else out ++ [x]
def bfs (p q:List Nat):Nat→Nat→List Nat→List Nat
 | 0,_,out=>out
 | f + 1,a,out=>if a < out.length then bfs p q f (a + 1) (st1 (st1 out (g p (g out a))) (g q (g out a))) else out
def reach (p q:List Nat) (s:Nat):List Nat:=bfs p q (p.length + 1) 0 [s]
structure RInv (n:Nat) (out:List Nat):Prop where
 nd:out.Nodup
 lt:∀ x ∈ out,x < n
theorem RInv.le {n:Nat} {out:List Nat} (h:RInv n out):out.length≤n:=nodup_le n out h.nd h.lt
theorem RInv.st {n:Nat} {out:List Nat} {x:Nat} (h:RInv n out) (hx:x < n):RInv n (st1 out x):=by
 unfold st1
 split
 ·exact h
 ·rename_i hn
  refine ⟨List.nodup_append.mpr ⟨h.nd,by simp,fun a ha b hb e=>?_⟩,fun y hy=>?_⟩
  ·have:b = x:=by simpa using hb
   subst this
   exact hn (e ▸ ha)
  ·rcases List.mem_append.mp hy with hy | hy
   ·exact h.lt y hy
   ·have:y = x:=by simpa using hy
    omega
theorem st1_len (out:List Nat) (x:Nat):out.length≤(st1 out x).length:=by
 unfold st1
 split <;> simp
theorem RInv.g {n:Nat} {out:List Nat} {a:Nat} (h:RInv n out) (ha:a < out.length):M.g out a < n:=h.lt _ (g_mem ha)
structure Sf (r u:List Nat):Prop where
 pr:IsP r
 pu:IsP u
 le:r.length≤24
 eq:u.length = r.length
 pos:0 < r.length
 all:(reach r u 0).length = r.length
def surfB (r u:List Int):Bool:=permB r && permB u && decide (r.length = u.length) && decide (0 < r.length) && ((reach (N r) (N u) 0).length == r.length)
theorem surf_nat {r u:List Int} (h:surfB r u = true):∃ r' u',r = I r'∧u = I u'∧Sf r' u':=by
 unfold surfB at h
 simp only [Bool.and_eq_true,decide_eq_true_eq,beq_iff_eq] at h
 obtain ⟨⟨⟨⟨h1,h2⟩,h3⟩,h4⟩,h5⟩:=h
 obtain ⟨r',rfl,a1,a2⟩:=PI_nat (of_decide_eq_true h1)
 obtain ⟨u',rfl,b1,b2⟩:=PI_nat (of_decide_eq_true h2)
 rw [N_I,N_I,I_len] at h5
 rw [I_len,I_len] at h3
 rw [I_len] at h4
 exact ⟨r',u',rfl,rfl,a1,b1,a2,h3.symm,h4,h5⟩
theorem surfB_I {r u:List Nat}:surfB (I r) (I u) = true ↔ Sf r u:=by
 constructor
 ·intro h
  obtain ⟨r',u',e1,e2,hs⟩:=surf_nat h
  have:=I_inj e1
  have:=I_inj e2
  subst_vars
  exact hs
 ·intro h
  unfold surfB
  simp only [Bool.and_eq_true,decide_eq_true_eq,beq_iff_eq]
  rw [N_I,N_I,I_len,I_len]
  exact ⟨⟨⟨⟨permB_I.mpr ⟨h.pr,h.le⟩,permB_I.mpr ⟨h.pu,by have:=h.le;have:=h.eq;omega⟩⟩,h.eq.symm⟩,h.pos⟩,h.all⟩
end Go.Proofs.Ytcggfjpnfodbaaa.M
end
section
/- Plain mathematics: going round a permutation. No conditions. -/
namespace Go.Proofs.Ytcggfjpnfodbaaa.M
set_option linter.unusedVariables false
set_option linter.unusedSimpArgs false
def itr (p:List Nat):Nat→Nat→Nat
 | 0,s=>s
 | m + 1,s=>g p (itr p m s)
theorem itr_lt {p:List Nat} (hp:IsP p) (m:Nat) {s:Nat} (hs:s < p.length):itr p m s < p.length:=by
 induction m with
 | zero=>exact hs
 | succ m ih=>exact g_lt hp ih
theorem itr_add (p:List Nat) (a b s:Nat):itr p (a + b) s = itr p a (itr p b s):=by
 induction a with
 | zero=>simp [itr]
 | succ a ih =>
  have e:a + 1 + b = (a + b) + 1:=by omega
  rw [e,itr,itr,ih]
theorem itr_back {p:List Nat} (hp:IsP p) {s:Nat} (hs:s < p.length) (i d:Nat) (h:itr p (i + d) s = itr p i s):itr p d s = s:=by
 induction i with
 | zero =>
  have e:0 + d = d:=by omega
  rw [e] at h
  exact h
 | succ i ih =>
  have e:i + 1 + d = (i + d) + 1:=by omega
  rw [e] at h
  exact ih (g_inj hp (itr_lt hp _ hs) (itr_lt hp _ hs) h)
theorem period {p:List Nat} (hp:IsP p) {s:Nat} (hs:s < p.length):∃ m,1≤m∧m≤p.length∧itr p m s = s:=by
 apply Classical.byContradiction
 intro hn
 have hd:((List.range (p.length + 1)).map (fun m=>itr p m s)).Nodup:=by
  refine List.pairwise_map.mpr ?_
  refine List.pairwise_iff_getElem.mpr ?_
  intro i j hi hj hij
  rw [List.length_range] at hi hj
  rw [List.getElem_range,List.getElem_range]
  intro e
  have:itr p (j - i) s = s:=itr_back hp hs i (j - i) (by
   have e2:i + (j - i) = j:=by omega
   rw [e2]
   exact e.symm)
  exact hn ⟨j - i,by omega,by omega,this⟩
 have:=nodup_le p.length _ hd (fun x hx=>by
  obtain ⟨m,_,rfl⟩:=List.mem_map.mp hx
  exact itr_lt hp m hs)
 simp at this
 omega
def per (p:List Nat) (s:Nat):Nat:=(((List.range p.length).find? (fun m=>itr p (m + 1) s == s)).getD 0) + 1
def orbTo (p:List Nat) (s m:Nat):List Nat:=(List.range m).map (fun k=>itr p k s)
def orb (p:List Nat) (s:Nat):List Nat:=orbTo p s (per p s)
end Go.Proofs.Ytcggfjpnfodbaaa.M
end
section
/- Plain mathematics: surfaces, and what the four letters make of them. No conditions. -/
namespace Go.Proofs.Ytcggfjpnfodbaaa.M
set_option linter.unusedVariables false
set_option linter.unusedSimpArgs false
theorem st1_mem {out:List Nat} {x y:Nat}:y ∈ st1 out x ↔ y ∈ out ∨ y = x:=by
 unfold st1
 split
 ·rename_i h
  constructor
  ·exact Or.inl
  ·rintro (h' | rfl)
   ·exact h'
   ·exact h
 ·simp
theorem st1_g {out:List Nat} {x i:Nat} (h:i < out.length):g (st1 out x) i = g out i:=by
 unfold st1
 split
 ·rfl
 ·unfold g
  rw [List.getD_eq_getElem?_getD,List.getD_eq_getElem?_getD,List.getElem?_append_left h]
theorem st1_le (out:List Nat) (x:Nat):out.length≤(st1 out x).length:=by
 unfold st1
 split
 ·exact Nat.le_refl _
 ·simp
theorem bfs_ind {r u:List Nat} {n:Nat} (S:Nat→Prop) (h1:∀ x,x < n→S x→S (g r x)∧g r x < n) (h2:∀ x,x < n→S x→S (g u x)∧g u x < n):∀ (F a:Nat) (out:List Nat),(∀ x ∈ out,S x∧x < n)→∀ x ∈ bfs r u F a out,S x∧x < n:=by
 intro F
 induction F with
 | zero=>intro a out h;exact h
 | succ F ih =>
  intro a out h
  unfold bfs
  split
  ·rename_i ha
   obtain ⟨s,l⟩:=h _ (g_mem ha)
   refine ih _ _ (fun x hx=>?_)
   rcases st1_mem.mp hx with hx | rfl
   ·rcases st1_mem.mp hx with hx | rfl
    ·exact h x hx
    ·exact h1 _ l s
   ·exact h2 _ l s
  ·exact h
theorem bfs_sub {r u:List Nat}:∀ (F a:Nat) (out:List Nat),∀ x ∈ out,x ∈ bfs r u F a out:=by
 intro F
 induction F with
 | zero=>intro a out x h;exact h
 | succ F ih =>
  intro a out x h
  unfold bfs
  split
  ·exact ih _ _ x (st1_mem.mpr (.inl (st1_mem.mpr (.inl h))))
  ·exact h
theorem bfs_rinv {r u:List Nat} {n:Nat} (h1:∀ x,x < n→g r x < n) (h2:∀ x,x < n→g u x < n):∀ (F a:Nat) (out:List Nat),RInv n out→RInv n (bfs r u F a out):=by
 intro F
 induction F with
 | zero=>intro a out h;exact h
 | succ F ih =>
  intro a out h
  unfold bfs
  split
  ·rename_i ha
   have hx:=h.g ha
   exact ih _ _ ((h.st (h1 _ hx)).st (h2 _ hx))
  ·exact h
theorem bfs_shut {r u:List Nat} {n:Nat} (h1:∀ x,x < n→g r x < n) (h2:∀ x,x < n→g u x < n):∀ (F a:Nat) (out:List Nat),RInv n out→a≤out.length→n < F + a→(∀ i,i < a→g r (g out i) ∈ out∧g u (g out i) ∈ out)→∀ x ∈ bfs r u F a out,g r x ∈ bfs r u F a out∧g u x ∈ bfs r u F a out:=by
 intro F
 induction F with
 | zero =>
  intro a out h ha hF
  have:=h.le
  omega
 | succ F ih =>
  intro a out h ha hF hc
  unfold bfs
  split
  ·rename_i ha'
   have hx:=h.g ha'
   have r1:=h.st (h1 _ hx)
   have l1:=st1_le out (g r (g out a))
   have l2:=st1_le (st1 out (g r (g out a))) (g u (g out a))
   refine ih _ _ (r1.st (h2 _ hx)) (by omega) (by omega) (fun i hi=>?_)
   have e:g (st1 (st1 out (g r (g out a))) (g u (g out a))) i = g out i:=by
    rw [st1_g (by omega),st1_g (by omega)]
   rw [e]
   by_cases hia:i < a
   ·exact ⟨st1_mem.mpr (.inl (st1_mem.mpr (.inl (hc i hia).1))),st1_mem.mpr (.inl (st1_mem.mpr (.inl (hc i hia).2)))⟩
   ·obtain rfl:i = a:=by omega
    exact ⟨st1_mem.mpr (.inl (st1_mem.mpr (.inr rfl))),st1_mem.mpr (.inr rfl)⟩
  ·intro x hx
   obtain ⟨i,hi,rfl⟩:=mem_g hx
   exact hc i (by omega)
theorem nodup_sub_len5:∀ (a b:List Nat),a.Nodup→(∀ x ∈ a,x ∈ b)→a.length≤b.length:=by
 intro a
 induction a with
 | nil=>intro b _ _;simp
 | cons x a ih =>
  intro b hn h
  obtain ⟨h1,h2⟩:=List.nodup_cons.mp hn
  have hx:x ∈ b:=h x (by simp)
  have:=ih (b.erase x) h2 (fun y hy=>(List.mem_erase_of_ne (fun e=>h1 (by rw [← e];exact hy))).mpr (h y (by simp [hy])))
  rw [List.length_erase_of_mem hx] at this
  have hp:=List.length_pos_of_mem hx
  simp
  omega
def Tr (r u:List Nat):Prop:=∀ S:Nat→Prop,S 0→(∀ x,x < r.length→S x→S (g r x))→(∀ x,x < r.length→S x→S (g u x))→∀ x,x < r.length→S x
theorem sf_of_tr {r u:List Nat} (pr:IsP r) (pu:IsP u) (le:r.length≤24) (eq:u.length = r.length) (pos:0 < r.length) (h:Tr r u):Sf r u:=by
 have b1:∀ x,x < r.length→g r x < r.length:=fun x hx=>g_lt pr hx
 have b2:∀ x,x < r.length→g u x < r.length:=fun x hx=>by have:=g_lt pu (i:=x) (by omega);omega
 have hri:RInv r.length (reach r u 0):=bfs_rinv b1 b2 _ _ _ ⟨by simp,by simpa using pos⟩
 have hsh:=bfs_shut b1 b2 (r.length + 1) 0 [0] ⟨by simp,by simpa using pos⟩ (by simp) (by omega) (fun i hi=>by omega)
 have hall:∀ x,x < r.length→x ∈ reach r u 0:=h (fun x=>x ∈ reach r u 0) (bfs_sub _ _ _ 0 (by simp)) (fun x _ hx=>(hsh x hx).1) (fun x _ hx=>(hsh x hx).2)
 refine ⟨pr,pu,le,eq,pos,?_⟩
 have l1:=hri.le
 have l2:=nodup_sub_len5 (List.range r.length) (reach r u 0) List.nodup_range (fun x hx=>hall x (List.mem_range.mp hx))
 rw [List.length_range] at l2
 omega
theorem Sf.tr {r u:List Nat} (hs:Sf r u):Tr r u:=by
 intro S s0 h1 h2 x hx
 have b1:∀ x,x < r.length→g r x < r.length:=fun x hx=>g_lt hs.pr hx
 have b2:∀ x,x < r.length→g u x < r.length:=fun x hx=>by have:=g_lt hs.pu (i:=x) (by rw [hs.eq];exact hx);rw [hs.eq] at this;exact this
 have hri:RInv r.length (reach r u 0):=bfs_rinv b1 b2 _ _ _ ⟨by simp,by simpa using hs.pos⟩
 have hp:IsP (reach r u 0):=⟨fun x hx=>by rw [hs.all];exact hri.lt x hx,hri.nd⟩
 have hm:=mem_all hp (x:=x) (by rw [hs.all];exact hx)
 have h0:∀ y ∈ [0],S y∧y < r.length:=by
  intro y hy
  obtain rfl:y = 0:=by simpa using hy
  exact ⟨s0,hs.pos⟩
 exact (bfs_ind S (fun x hx h=>⟨h1 x hx h,b1 x hx⟩) (fun x hx h=>⟨h2 x hx h,b2 x hx⟩) _ _ [0] h0 x hm).1
theorem closed_back {p:List Nat} (hp:IsP p) {S:Nat→Prop} (hS:∀ x,x < p.length→S x→S (g p x)) {x:Nat} (hx:x < p.length) (h:S (g p x)):S x:=by
 obtain ⟨m,h1,_,h3⟩:=period hp hx
 have H:∀ k,S (itr p k (g p x)):=by
  intro k
  induction k with
  | zero=>exact h
  | succ k ih=>exact hS _ (itr_lt hp k (g_lt hp hx)) ih
 have e:itr p (m - 1) (g p x) = itr p m x:=by
  have:=itr_add p (m - 1) 1 x
  rw [show m - 1 + 1 = m by omega] at this
  exact this.symm
 have:=H (m - 1)
 rw [e,h3] at this
 exact this
theorem reach_full {r u:List Nat} (hs:Sf r u) {s:Nat} (hb:s < r.length):RInv r.length (reach r u s)∧∀ x,x < r.length→x ∈ reach r u s:=by
 have b1:∀ x,x < r.length→g r x < r.length:=fun x hx=>g_lt hs.pr hx
 have b2:∀ x,x < r.length→g u x < r.length:=fun x hx=>by have:=g_lt hs.pu (i:=x) (by rw [hs.eq];exact hx);rw [hs.eq] at this;exact this
 have h0:RInv r.length [s]:=⟨by simp,by simpa using hb⟩
 have hsh:=bfs_shut b1 b2 (r.length + 1) 0 [s] h0 (by simp) (by omega) (fun i hi=>by omega)
 have hmem:s ∈ reach r u s:=bfs_sub _ _ _ s (by simp)
 refine ⟨bfs_rinv b1 b2 _ _ _ h0,?_⟩
 have z:(0:Nat) ∈ reach r u s:=by
  apply Classical.byContradiction
  intro hz
  refine hs.tr (fun x=>x ∉ reach r u s) hz (fun x hx hn hm=>?_) (fun x hx hn hm=>?_) s hb hmem
  ·exact hn (closed_back hs.pr (S:=fun x=>x ∈ reach r u s) (fun y _ hy=>(hsh y hy).1) hx hm)
  ·exact hn (closed_back hs.pu (S:=fun x=>x ∈ reach r u s) (fun y _ hy=>(hsh y hy).2) (by rw [hs.eq];exact hx) hm)
 exact hs.tr (fun x=>x ∈ reach r u s) z (fun x _ hx=>(hsh x hx).1) (fun x _ hx=>(hsh x hx).2)
theorem sf_T {r u:List Nat} (hs:Sf r u):Sf r (thn (inv r) u):=by
 have h1:(inv r).length = u.length:=by rw [inv_len,hs.eq]
 refine sf_of_tr hs.pr (isP_thn (isP_inv hs.pr) hs.pu h1) hs.le (by rw [thn_len,inv_len]) hs.pos (fun S s0 k1 k2=>hs.tr S s0 k1 (fun x hx hsx=>?_))
 have:=k2 (g r x) (g_lt hs.pr hx) (k1 x hx hsx)
 rw [g_thn (by rw [inv_len];exact g_lt hs.pr hx),g_inv (g_lt hs.pr hx),ix_g hs.pr hx] at this
 exact this
theorem sf_t {r u:List Nat} (hs:Sf r u):Sf r (thn r u):=by
 have h1:r.length = u.length:=hs.eq.symm
 refine sf_of_tr hs.pr (isP_thn hs.pr hs.pu h1) hs.le (by rw [thn_len]) hs.pos (fun S s0 k1 k2=>hs.tr S s0 k1 (fun y hy hsy=>?_))
 have hx:ix r y < r.length:=ix_lt hs.pr hy
 have e:g r (ix r y) = y:=g_ix hs.pr hy
 have hsx:S (ix r y):=closed_back hs.pr (S:=S) k1 hx (by rw [e];exact hsy)
 have:=k2 _ hx hsx
 rw [g_thn hx,e] at this
 exact this
theorem sf_S {r u:List Nat} (hs:Sf r u):Sf (inv u) r:=by
 have hl:(inv u).length = r.length:=by rw [inv_len,hs.eq]
 refine sf_of_tr (isP_inv hs.pu) hs.pr (by rw [hl];exact hs.le) hl.symm (by rw [hl];exact hs.pos) (fun S s0 k1 k2=>?_)
 rw [hl] at k1 k2 ⊢
 refine hs.tr S s0 k2 (fun x hx hsx=>?_)
 have hx':g u x < u.length:=g_lt hs.pu (by rw [hs.eq];exact hx)
 refine closed_back (isP_inv hs.pu) (S:=S) (fun y hy=>k1 y (by rw [← hl];exact hy)) (x:=g u x) (by rw [inv_len];exact hx') ?_
 rw [g_inv hx',ix_g hs.pu (by rw [hs.eq];exact hx)]
 exact hsx
theorem sf_s {r u:List Nat} (hs:Sf r u):Sf u (inv r):=by
 refine sf_of_tr hs.pu (isP_inv hs.pr) (by rw [hs.eq];exact hs.le) (by rw [inv_len,hs.eq]) (by rw [hs.eq];exact hs.pos) (fun S s0 k1 k2=>?_)
 rw [hs.eq] at k1 k2 ⊢
 refine hs.tr S s0 (fun x hx hsx=>?_) k1
 have hx':g r x < r.length:=g_lt hs.pr hx
 refine closed_back (isP_inv hs.pr) (S:=S) (fun y hy=>k2 y (by rw [inv_len] at hy;exact hy)) (x:=g r x) (by rw [inv_len];exact hx') ?_
 rw [g_inv hx',ix_g hs.pr hx]
 exact hsx
end Go.Proofs.Ytcggfjpnfodbaaa.M
end
section
/- Plain mathematics: surfaces that are alike by renaming. No conditions. -/
namespace Go.Proofs.Ytcggfjpnfodbaaa.M
set_option linter.unusedVariables false
set_option linter.unusedSimpArgs false
structure Is (s t:List Nat × List Nat) (f:Nat→Nat):Prop where
 len:t.1.length = s.1.length
 lt:∀ x,x < s.1.length→f x < s.1.length
 inj:∀ x y,x < s.1.length→y < s.1.length→f x = f y→x = y
 r:∀ x,x < s.1.length→f (g s.1 x) = g t.1 (f x)
 u:∀ x,x < s.1.length→f (g s.2 x) = g t.2 (f x)
theorem Sf.gr {r u:List Nat} (hs:Sf r u) {x:Nat} (h:x < r.length):g r x < r.length:=g_lt hs.pr h
theorem Sf.gu {r u:List Nat} (hs:Sf r u) {x:Nat} (h:x < r.length):g u x < r.length:=by
 have:=g_lt hs.pu (i:=x) (by rw [hs.eq];exact h)
 rw [hs.eq] at this
 exact this
theorem Sf.ir {r u:List Nat} (hs:Sf r u) {x:Nat} (h:x < r.length):ix r x < r.length:=ix_lt hs.pr h
theorem Sf.iu {r u:List Nat} (hs:Sf r u) {x:Nat} (h:x < r.length):ix u x < r.length:=by
 have:=ix_lt hs.pu (x:=x) (by rw [hs.eq];exact h)
 rw [hs.eq] at this
 exact this
theorem Is.refl (s:List Nat × List Nat):Is s s (fun x=>x):=⟨rfl,fun _ h=>h,fun _ _ _ _ h=>h,fun _ _=>rfl,fun _ _=>rfl⟩
theorem Is.trans {s t v:List Nat × List Nat} {f h:Nat→Nat} (a:Is s t f) (b:Is t v h):Is s v (fun x=>h (f x)) where
 len:=b.len.trans a.len
 lt x hx:=by have:=b.lt (f x) (by rw [a.len];exact a.lt x hx);rw [a.len] at this;exact this
 inj x y hx hy e:=a.inj x y hx hy (b.inj _ _ (by rw [a.len];exact a.lt x hx) (by rw [a.len];exact a.lt y hy) e)
 r x hx:=by show h (f (g s.1 x)) = _;rw [a.r x hx,b.r _ (by rw [a.len];exact a.lt x hx)]
 u x hx:=by show h (f (g s.2 x)) = _;rw [a.u x hx,b.u _ (by rw [a.len];exact a.lt x hx)]
def bk (n:Nat) (f:Nat→Nat) (y:Nat):Nat:=ix (tab n f) y
theorem bk_lt {n:Nat} {f:Nat→Nat} (h1:∀ x,x < n→f x < n) (h2:∀ x y,x < n→y < n→f x = f y→x = y) {y:Nat} (hy:y < n):bk n f y < n:=by
 have:=ix_lt (isP_tab h1 h2) (x:=y) (by rw [tab_len];exact hy)
 rw [tab_len] at this
 exact this
theorem f_bk {n:Nat} {f:Nat→Nat} (h1:∀ x,x < n→f x < n) (h2:∀ x y,x < n→y < n→f x = f y→x = y) {y:Nat} (hy:y < n):f (bk n f y) = y:=by
 have h:=g_ix (isP_tab h1 h2) (x:=y) (by rw [tab_len];exact hy)
 have hb:ix (tab n f) y < n:=bk_lt h1 h2 hy
 rw [g_tab hb] at h
 exact h
theorem bk_f {n:Nat} {f:Nat→Nat} (h1:∀ x,x < n→f x < n) (h2:∀ x y,x < n→y < n→f x = f y→x = y) {x:Nat} (hx:x < n):bk n f (f x) = x :=
 h2 _ _ (bk_lt h1 h2 (h1 x hx)) hx (f_bk h1 h2 (h1 x hx))
theorem Is.symm {s t:List Nat × List Nat} {f:Nat→Nat} (hs:Sf s.1 s.2) (a:Is s t f):Is t s (bk s.1.length f) where
 len:=a.len.symm
 lt y hy:=by rw [a.len] at hy ⊢;exact bk_lt a.lt a.inj hy
 inj y z hy hz e:=by
  rw [a.len] at hy hz
  rw [← f_bk a.lt a.inj hy,← f_bk a.lt a.inj hz,e]
 r y hy:=by
  rw [a.len] at hy
  have hb:=bk_lt a.lt a.inj hy
  have e:g t.1 y = f (g s.1 (bk s.1.length f y)):=by rw [a.r _ hb,f_bk a.lt a.inj hy]
  rw [e,bk_f a.lt a.inj (hs.gr hb)]
 u y hy:=by
  rw [a.len] at hy
  have hb:=bk_lt a.lt a.inj hy
  have e:g t.2 y = f (g s.2 (bk s.1.length f y)):=by rw [a.u _ hb,f_bk a.lt a.inj hy]
  rw [e,bk_f a.lt a.inj (hs.gu hb)]
theorem Sf.of_is {s t:List Nat × List Nat} {f:Nat→Nat} (hs:Sf s.1 s.2) (a:Is s t f) (p1:IsP t.1) (p2:IsP t.2) (hl:t.2.length = t.1.length):Sf t.1 t.2:=by
 refine sf_of_tr p1 p2 (by rw [a.len];exact hs.le) hl (by rw [a.len];exact hs.pos) (fun S s0 k1 k2 y hy=>?_)
 rw [a.len] at k1 k2 hy
 have i0:=bk_lt a.lt a.inj hs.pos
 have h0:S (f (bk s.1.length f 0)):=by rw [f_bk a.lt a.inj hs.pos];exact s0
 have hm:=(reach_full hs i0).2 (bk s.1.length f y) (bk_lt a.lt a.inj hy)
 have:=(bfs_ind (fun x=>S (f x)) (n:=s.1.length) (fun x hx h=>⟨by rw [a.r x hx];exact k1 _ (a.lt x hx) h,hs.gr hx⟩) (fun x hx h=>⟨by rw [a.u x hx];exact k2 _ (a.lt x hx) h,hs.gu hx⟩) _ _ [bk s.1.length f 0] (by intro x hx;obtain rfl:x = bk s.1.length f 0:=(by simpa using hx);exact ⟨h0,i0⟩) _ hm).1
 rw [f_bk a.lt a.inj hy] at this
 exact this
theorem Sf.all_of {r u:List Nat} (hs:Sf r u) {S:Nat→Prop} {i:Nat} (hi:i < r.length) (h0:S i) (h1:∀ x,x < r.length→S x→S (g r x)) (h2:∀ x,x < r.length→S x→S (g u x)):∀ y,y < r.length→S y:=by
 intro y hy
 have hm:=(reach_full hs hi).2 y hy
 exact (bfs_ind S (n:=r.length) (fun x hx h=>⟨h1 x hx h,hs.gr hx⟩) (fun x hx h=>⟨h2 x hx h,hs.gu hx⟩) _ _ [i] (by intro x hx;obtain rfl:x = i:=(by simpa using hx);exact ⟨h0,hi⟩) _ hm).1
theorem Is.ir {s t:List Nat × List Nat} {f:Nat→Nat} (hs:Sf s.1 s.2) (ht:Sf t.1 t.2) (a:Is s t f) {x:Nat} (hx:x < s.1.length):f (ix s.1 x) = ix t.1 (f x):=by
 have h1:=hs.ir hx
 refine (ix_eq ht.pr (by rw [a.len];exact a.lt _ h1) ?_).symm
 rw [← a.r _ h1,g_ix hs.pr hx]
theorem Is.iu {s t:List Nat × List Nat} {f:Nat→Nat} (hs:Sf s.1 s.2) (ht:Sf t.1 t.2) (a:Is s t f) {x:Nat} (hx:x < s.1.length):f (ix s.2 x) = ix t.2 (f x):=by
 have h1:=hs.iu hx
 refine (ix_eq ht.pu (by rw [ht.eq,a.len];exact a.lt _ h1) ?_).symm
 rw [← a.u _ h1,g_ix hs.pu (by rw [hs.eq];exact hx)]
end Go.Proofs.Ytcggfjpnfodbaaa.M
end
section
/- The tests of permutations, program and reference, come to one plain test. No conditions. -/
namespace Go.Proofs.Ytcggfjpnfodbaaa.M
set_option linter.unusedVariables false
set_option linter.unusedSimpArgs false
open Go.RowKit Go.Proofs.YtcggfjpnfodbaaaW.PrintWords Go.Proofs.YtcggfjpnfodbaaaW.PrintLast Go.Proofs.YtcggfjpnfodbaaaW.PrintMore Go.Proofs.Ytcggfjpnfodbaaa.A
theorem has_ev (l:List Int) (a:Int) (hl:l.length≤1000000000):Ev (fun k=>Z67.f k l a) (decide (a ∈ l)):=by
 have H:∀ d i:Nat,i + d = l.length→Ev (fun k=>Z67.l0 k a l (l.length:Int) (i:Int)) (decide (a ∈ l.drop i)):=by
  intro d
  induction d with
  | zero =>
   intro i h
   refine ev_succ ?_
   have h1:¬ ((i:Int) < (l.length:Int)):=by omega
   have e:decide (a ∈ l.drop i) = false:=by
    rw [List.drop_of_length_le (by omega)]
    simp
   simp only [Z67.l0,h1,if_false]
   rw [e]
   exact Ev.now _
  | succ d ih =>
   intro i h
   refine ev_succ ?_
   have hi:i < l.length:=by omega
   have h1:(i:Int) < (l.length:Int):=by omega
   have h2:(0:Int)≤(i:Int):=by omega
   have h3:=w64s i (by omega)
   have e:=List.drop_eq_getElem_cons hi
   rw [← rd_get l i hi] at e
   by_cases hr:rd l (i:Int) = a
   ·have e2:decide (a ∈ l.drop i) = true:=by rw [e,hr];simp
    simp only [Z67.l0,h1,h2,hr,if_true]
    rw [e2]
    exact Ev.now _
   ·have e2:decide (a ∈ l.drop i) = decide (a ∈ l.drop (i + 1)):=by
     rw [e]
     have:¬ a = rd l (i:Int):=fun h=>hr h.symm
     simp [this]
    simp only [Z67.l0,h1,h2,h3,hr,if_true,if_false]
    rw [e2]
    exact ih (i + 1) (by omega)
 have:=H l.length 0 (by omega)
 simpa [Z67.f] using this
theorem in_f (x:Int) (n:Nat) (hn:n≤24):Z68.f x 0 (wrap64 ((n:Int) - 1)) = some (decide (0≤x∧x < (n:Int))):=by
 unfold Z68.f
 rw [w64 (by omega) (by omega)]
 by_cases h:x ≥ 0
 ·rw [if_pos h]
  congr 1
  rw [Bool.eq_iff_iff,decide_eq_true_iff,decide_eq_true_iff]
  omega
 ·rw [if_neg h]
  congr 1
  symm
  rw [decide_eq_false_iff_not]
  omega
theorem spec_permOk (l:List Int):Ev (fun k=>Z65.f k l) (permB l):=by
 unfold Z65.f
 by_cases h24:(l.length:Int) > 24
 ·simp only [h24,if_true]
  have:permB l = false:=by
   unfold permB
   rw [decide_eq_false_iff_not]
   intro h
   have:=h.1
   omega
  rw [this]
  exact Ev.now _
 ·simp only [h24,if_false]
  have H:∀ d i:Nat,i + d = l.length→∃ b,Ev (fun k=>Z65.l0 k l l (l.length:Int) (i:Int)) b∧(b = true ↔ okFrom l i):=by
   intro d
   induction d with
   | zero =>
    intro i h
    refine ⟨true,ev_succ ?_,by simp [okFrom_end l i (by omega)]⟩
    have h1:¬ ((i:Int) < (l.length:Int)):=by omega
    simp only [Z65.l0,h1,if_false]
    exact Ev.now _
   | succ d ih =>
    intro i h
    have hi:i < l.length:=by omega
    have h1:(i:Int) < (l.length:Int):=by omega
    have h1':(i:Int)≤(l.length:Int):=by omega
    have h2:(0:Int)≤(i:Int):=by omega
    have h3:=w64s i (by omega)
    have hin:=in_f (rd l (i:Int)) l.length (by omega)
    by_cases c1:0≤rd l (i:Int)∧rd l (i:Int) < (l.length:Int)
    ·have hh:=has_ev (l.take i) (rd l (i:Int)) (by rw [List.length_take];omega)
     by_cases c2:rd l (i:Int) ∈ l.take i
     ·refine ⟨false,ev_succ ?_,by simpa using okFrom_not hi (fun h=>h.2.2 c2)⟩
      simp only [Z65.l0,h1,h1',h2,hin,c1,if_true,Option.bind_some,decide_true,Int.toNat_natCast,and_self]
      refine Ev.bind hh ?_
      simp only [c2,decide_true,if_true]
      exact Ev.now _
     ·obtain ⟨b,i1,i2⟩:=ih (i + 1) (by omega)
      refine ⟨b,ev_succ ?_,by rw [i2];exact (okFrom_step ⟨c1.1,c1.2,c2⟩).symm⟩
      simp only [Z65.l0,h1,h1',h2,h3,hin,c1,if_true,Option.bind_some,decide_true,Int.toNat_natCast,and_self]
      refine Ev.bind hh ?_
      simp only [c2,decide_false,Bool.false_eq_true,if_false]
      exact i1
    ·refine ⟨false,ev_succ ?_,by simpa using okFrom_not hi (fun h=>c1 ⟨h.1,h.2.1⟩)⟩
     simp only [Z65.l0,h1,h2,hin,c1,if_true,if_false,Option.bind_some,decide_false,Bool.false_eq_true]
     exact Ev.now _
  obtain ⟨b,i1,i2⟩:=H l.length 0 (by omega)
  rw [← permB_of (by omega) i2]
  exact i1
theorem rdOf_nat (s:List Bool) (x:Nat):rdOf false s (x:Int) = s.getD x false:=rfl
theorem getD_set (s:List Bool) (x y:Nat) (h:x < s.length):(s.set x true).getD y false = if x = y then true else s.getD y false:=by
 rw [List.getD_eq_getElem?_getD,List.getD_eq_getElem?_getD,List.getElem?_set]
 by_cases e:x = y
 ·subst e
  simp [h]
 ·simp [e]
theorem impl_permOk (l:List Int):Ev (fun k=>Z60.f k l) (permB l):=by
 unfold Z60.f
 by_cases h24:(l.length:Int) > 24
 ·simp only [h24,if_true]
  have:permB l = false:=by
   unfold permB
   rw [decide_eq_false_iff_not]
   intro h
   have:=h.1
   omega
  rw [this]
  exact Ev.now _
 ·simp only [h24,if_false]
  have H:∀ (d i:Nat) (s:List Bool),i + d = l.length→s.length = 24→(∀ x:Nat,x < 24→(s.getD x false = true ↔ (x:Int) ∈ l.take i))→∃ b,Ev (fun k=>Z60.l0 k l s (i:Int)) b∧(b = true ↔ okFrom l i):=by
   intro d
   induction d with
   | zero =>
    intro i s h hs hx
    refine ⟨true,ev_succ ?_,by simp [okFrom_end l i (by omega)]⟩
    have h1:¬ ((i:Int) < (l.length:Int)):=by omega
    simp only [Z60.l0,h1,if_false]
    exact Ev.now _
   | succ d ih =>
    intro i s h hs hx
    have hi:i < l.length:=by omega
    have h1:(i:Int) < (l.length:Int):=by omega
    have h2:(0:Int)≤(i:Int):=by omega
    have h3:=w64s i (by omega)
    by_cases c1:rd l (i:Int) < 0
    ·refine ⟨false,ev_succ ?_,by simpa using okFrom_not hi (fun h=>by omega)⟩
     simp only [Z60.l0,h1,h2,c1,if_true]
     exact Ev.now _
    ·by_cases c2:rd l (i:Int) ≥ (l.length:Int)
     ·refine ⟨false,ev_succ ?_,by simpa using okFrom_not hi (fun h=>by omega)⟩
      simp only [Z60.l0,h1,h2,c1,c2,if_true,if_false]
      exact Ev.now _
     ·obtain ⟨x,ex⟩:∃ x:Nat,rd l (i:Int) = (x:Int):=⟨(rd l (i:Int)).toNat,by omega⟩
      have hx24:x < 24:=by omega
      by_cases c3:s.getD x false = true
      ·have hm:=(hx x hx24).mp c3
       refine ⟨false,ev_succ ?_,by simpa using okFrom_not hi (fun h=>h.2.2 (by rw [ex];exact hm))⟩
       rw [ex] at c1 c2
       simp only [Z60.l0,h1,h2,ex,c1,c2,rdOf_nat,c3,if_true,if_false]
       exact Ev.now _
      ·have hm:(x:Int) ∉ l.take i:=fun h=>c3 ((hx x hx24).mpr h)
       obtain ⟨b,i1,i2⟩:=ih (i + 1) (s.set x true) (by omega) (by rw [List.length_set];exact hs) (fun y hy=>by
        rw [getD_set s x y (by omega),take_succ l i hi,ex]
        by_cases e:x = y
        ·subst e
         simp
        ·rw [if_neg e,hx y hy]
         have:¬ (y:Int) = (x:Int):=by omega
         simp [this])
       refine ⟨b,ev_succ ?_,by rw [i2];exact (okFrom_step ⟨by omega,by omega,by rw [ex];exact hm⟩).symm⟩
       rw [ex] at c1 c2
       simp only [Z60.l0,h1,h2,h3,ex,c1,c2,rdOf_nat,c3,if_true,if_false,Int.toNat_natCast]
       exact i1
  obtain ⟨b,i1,i2⟩:=H l.length 0 (List.replicate 24 false) (by omega) rfl (fun x hx=>by
   have:(List.replicate 24 false).getD x false = false:=by
    rw [List.getD_eq_getElem?_getD,List.getElem?_replicate]
    simp [hx]
   rw [this]
   simp)
  rw [← permB_of (by omega) i2]
  exact i1
end Go.Proofs.Ytcggfjpnfodbaaa.M
end
