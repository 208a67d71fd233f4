/- Lemmas for the row FnOrbits: the program's functions told as plain functions, and plain mathematics. No conditions. -/
import Derived.Lib.Bytealg
import Derived.Lib.Walk
import Derived.Test.YtcggfjpnfodbaaaQFnOrbits2
section
/- Finding the orbit: the program's walk. No conditions. -/
namespace Go.Proofs.Ytcggfjpnfodbaaa.M
set_option linter.unusedVariables false
set_option linter.unusedSimpArgs false
open Go Go.RowKit Go.Proofs.YtcggfjpnfodbaaaW.PrintWords Go.Proofs.YtcggfjpnfodbaaaW.PrintLast Go.Proofs.YtcggfjpnfodbaaaW.PrintMore Go.Proofs.Ytcggfjpnfodbaaa.A
def OrbPost (w w':World) (e:Ending):Option Orb→Prop
 | none=>e = .returned (.tuple #[.pointer none,.bool false])∧Below w.heap.size w w'
 | some s=>∃ gO gM n col vL vW vF vB vT vS,e = .returned (.tuple #[.pointer (some ⟨gO,0,none⟩),.bool true])∧OrbH w.heap.size col w' gO gM n vL vW vF vB vT vS s∧Below w.heap.size w w'
set_option maxHeartbeats 8000000 in
set_option maxRecDepth 100000 in
theorem orbit_no (k:Nat) (A0:Option Addr) (c0:Nat) (l0:List Int) (A1:Option Addr) (c1:Nat) (l1:List Int) (y1 y2:List Int) (w:World) (h0:Kd.C (Kd.int .i64) w A0 l0.length l0) (g0:l0.length≤c0) (h1:Kd.C (Kd.int .i64) w A1 l1.length l1) (g1:l1.length≤c1) (h:Z50.f k l0 l1 = some (y1,y2,false)) :
  Calls Try.prog 59 #[.agg #[.slice A0 l0.length c0,.slice A1 l1.length c1]] w fun e w'=>OrbPost w w' e none:=by
 have hu:=Try.underlying25
 have H0:=Aside0.mk h0;have H1:=Aside0.mk h1;have G0:=Aside0.mk g0;have G1:=Aside0.mk g1;have HA:=Aside0.mk h
 clear h0 h1 g0 g1 h
 have HB:=Aside0.mk (Below.refl w.heap.size w)
 go_enter Try.func59,Try.ntmps59
 go_wp2_with (first | ((with_reducible refine gate_dst (N:=1) rfl ?_);refine bx_ 1 #[.slice A0 l0.length c0,.slice A1 l1.length c1] 25 ?_;intro gs hg w2 hbox hb;have BS:=Aside0.mk hbox;replace HB:=b1_ hb;clear hb hbox hg;obtain ⟨hcz0,hcz1,hfz0,hfz1⟩:=c2_ BS) | ((with_reducible refine gate_callee (f:=28) rfl ?_);refine gL_ (some 15) Try.func28 #[.agg #[.slice A0 l0.length c0,.slice A1 l1.length c1]] rfl qa_ ?_;(with_reducible refine (Z50.calls k _ _ l0 _ _ l1 y1 y2 false _ (cb_ H0) G0.out (cb_ H1) G1.out HA.out).mono ?_);rintro e w3 ⟨v0,v1,rfl,ho0,ho1,hb⟩;refine ⟨_,rfl,?_⟩;replace HB:=b1_ hb;clear hb;obtain ⟨Ay0,cy0,ey0⟩:=Kd.R_slice ho0;subst ey0;obtain ⟨Ay1,cy1,ey1⟩:=Kd.R_slice ho1;subst ey1;clear ho0 ho1) | ((with_reducible refine gate_dst (N:=4) rfl ?_);refine bx_ 4 #[.slice none 0 0,.slice none 0 0] 25 ?_;intro gf hg w4 hbox hb;have GF:=gw_ w hg;have BF:=Aside0.mk hbox;replace HB:=b1_ hb;clear hb hbox hg;obtain ⟨hcf0,hcf1,hff0,hff1⟩:=c2_ BF))
 go_ret2
 exact ⟨qb_,hB_⟩
section
variable {P:Program} {ops:Array Oper} {rest:List Oper} {o:Oper} {a:Act} {Q:Exit→Act→World→Prop}
theorem lit_event {W:World} (N:Tmp) (cs:Array Value) (e:TypeId) (n:Nat) (h:∀ g,g = W.heap.size→∀ w1,w1.heap[g]? = some (.cells cs e (0,0))→Below W.heap.size W w1→wpList P ops Q rest (a.put o.dst (.slice (some ⟨g,0,none⟩) n n)) w1) (hgd:o.guard = none:=by rfl) (hd:o.dst = some N:=by rfl)
  (hrun:(execOp a.eval o).run P W = .ok (.value (.slice (some ⟨W.heap.size,0,none⟩) n n)) (W.alloc (.cells cs e (0,0))):=by first | (go_simp;done) | (go_simp;rfl)):wpList P ops Q (o :: rest) a W :=
 Kd.event_run hgd hrun (h _ rfl _ (blk_new W _) (below_alloc (Below.refl _ _) _))
theorem map_event {W:World} (N:Tmp) (h:∀ g,g = W.heap.size→∀ w1,w1.heap[g]? = some (.map #[] 0)→Below W.heap.size W w1→wpList P ops Q rest (a.put o.dst (.map (some g))) w1) (hgd:o.guard = none:=by rfl) (hd:o.dst = some N:=by rfl)
  (hrun:(execOp a.eval o).run P W = .ok (.value (.map (some W.heap.size))) (W.alloc (.map #[] 0)):=by first | (go_simp;done) | (go_simp;rfl)):wpList P ops Q (o :: rest) a W :=
 Kd.event_run hgd hrun (h _ rfl _ (blk_new W _) (below_alloc (Below.refl _ _) _))
end
theorem R_blk {α:Type} {enc:α→Value} {h1:∀ x:α,(enc x).oneCell' = true} {W:World} {g e base:Nat} {x:α} {ok:Nat→Prop} (hb:W.heap[g]? = some (.cells #[enc x] e (0,0))) (hg:base≤g) (hok:ok g):(Kd.scalar enc h1).R e W base ok (.slice (some ⟨g,0,none⟩) 1 1) [x] :=
 ⟨fun k hk=>(by simpa [Value.ownBlock] using hk:g = k) ▸ hok,[enc x],⟨rfl,.inr ⟨g,1,#[enc x],rfl,hg,hb,Nat.le_refl _,by decide,rfl,rfl⟩⟩,Reps.one rfl (Reps.none _ _)⟩
theorem S_blk {W:World} {g base:Nat} {u0 u1:Value} {x:S25} {ok:Nat→Prop} (hb:W.heap[g]? = some (.cells #[u0,u1] 25 (0,0))) (hg:base≤g) (hok:ok g) (h0:Kd.R (Kd.int .i64) 3 W base (fun k=>ok k∧k≠g) u0 x.f0) (h1:Kd.R (Kd.int .i64) 3 W base (fun k=>ok k∧k≠g) u1 x.f1) (ne:NeRow u0 u1):Kd.S k25 25 W base ok (.slice (some ⟨g,0,none⟩) 1 1) [x]:=by
 refine ⟨fun _=>0,fun k hk=>by
  have:g = k:=by simpa [Value.ownBlock] using hk
  exact this ▸ hok,[u0,u1],⟨rfl,.inr ⟨g,1,#[u0,u1],rfl,hg,hb,Nat.le_refl _,by decide,rfl,rfl⟩⟩,Reps.c2 ?_ (Reps.none _ _)⟩
 exact k25_mkM _ _ _ x (Kd.R_mono h0 (fun k hk=>⟨⟨hk.1,by simpa [Value.ownBlock] using hk.2⟩,rfl⟩)) (Kd.R_mono h1 (fun k hk=>⟨⟨hk.1,by simpa [Value.ownBlock] using hk.2⟩,rfl⟩)) ne
def orb_T21:Bool × List (List Nat × List Nat):=(true,[([],[]),([0],[0]),([1],[1]),([2],[2]),([],[]),([],[]),([5],[5]),([6],[6]),([7],[7]),([],[]),([8,9],[8,9]),([],[]),([11],[11]),([10,12],[10,12]),([3,4,13,13,0,1,2,3,4,5,6,7,8,9,10,11,12,13],[3,4,13])])
def orb_B21:List Nat:=[0,1,3,7,0,0,32,96,224,0,992,0,2048,8160,16383]
theorem orb_tab21:rtab .any (opsOf Try.f59 21) = orb_T21:=by kernel_rfl
theorem orb_bits21:waitsOk orb_T21.2 orb_B21 = true:=by kernel_rfl
def orb_T17:Bool × List (List Nat × List Nat):=(true,[([],[]),([],[]),([1],[1]),([2],[2]),([3],[3]),([],[]),([5],[5]),([4,6],[4,6]),([0,0,1,2,3,4,5,6,7],[0]),([8,0,1,2,3,4,5,6,7],[8]),([9,7,7,0,1,2,3,4,5,6,7],[7,9])])
def orb_B17:List Nat:=[0,0,2,6,14,0,32,126,255,511,1023]
theorem orb_tab17:rtab .any (opsOf Try.f59 17) = orb_T17:=by kernel_rfl
theorem orb_bits17:waitsOk orb_T17.2 orb_B17 = true:=by kernel_rfl
def orb_T18:Bool × List (List Nat × List Nat):=(true,[([],[]),([],[]),([1],[1]),([2],[2]),([3],[3]),([],[]),([5],[5]),([6],[6]),([7],[7]),([],[]),([8,9],[8,9]),([10],[10]),([],[]),([12],[12]),([13],[13]),([11,14],[11,14]),([15],[15]),([4,16],[4,16]),([0,0,1,2,3,4,5,6,7,8,9,10,11,12,13,14,15,16,17],[0]),([18,0,1,2,3,4,5,6,7,8,9,10,11,12,13,14,15,16,17],[18]),([19,17,17,0,1,2,3,4,5,6,7,8,9,10,11,12,13,14,15,16,17],[17,19])])
def orb_B18:List Nat:=[0,0,2,6,14,0,32,96,224,0,992,2016,0,4096,12288,32736,65504,131070,262143,524287,1048575]
theorem orb_tab18:rtab .any (opsOf Try.f59 18) = orb_T18:=by kernel_rfl
theorem orb_bits18:waitsOk orb_T18.2 orb_B18 = true:=by kernel_rfl
set_option maxHeartbeats 8000000 in
set_option maxRecDepth 100000 in
theorem orbit_yes (k:Nat) (A0:Option Addr) (c0:Nat) (l0:List Int) (A1:Option Addr) (c1:Nat) (l1:List Int) (y1 y2:List Int) (R:Option Orb) (w:World) (h0:Kd.C (Kd.int .i64) w A0 l0.length l0) (g0:l0.length≤c0) (h1:Kd.C (Kd.int .i64) w A1 l1.length l1) (g1:l1.length≤c1) (h:Z50.f k l0 l1 = some (y1,y2,true)) (hl:loopO k ⟨[⟨y1,y2⟩],[⟨#[]⟩],[-1],[0],[],[]⟩ 0 = some R) :
  Calls Try.prog 59 #[.agg #[.slice A0 l0.length c0,.slice A1 l1.length c1]] w fun e w'=>OrbPost w w' e R:=by
 have hu:=Try.underlying25
 have H0:=Aside0.mk h0;have H1:=Aside0.mk h1;have G0:=Aside0.mk g0;have G1:=Aside0.mk g1;have HA:=Aside0.mk h;have HL:=Aside0.mk hl
 clear h0 h1 g0 g1 h hl
 have HB:=Aside0.mk (Below.refl w.heap.size w)
 go_enter Try.func59,Try.ntmps59
 go_upto_region 4 with (first | ((with_reducible refine gate_dst (N:=1) rfl ?_);refine bx_ 1 #[.slice A0 l0.length c0,.slice A1 l1.length c1] 25 ?_;intro gs hg w2 hbox hb;have BS:=Aside0.mk hbox;replace HB:=b1_ hb;clear hb hbox hg;obtain ⟨hcz0,hcz1,hfz0,hfz1⟩:=c2_ BS) | ((with_reducible refine gate_callee (f:=28) rfl ?_);refine gL_ (some 15) Try.func28 #[.agg #[.slice A0 l0.length c0,.slice A1 l1.length c1]] rfl qa_ ?_;(with_reducible refine (Z50.calls k _ _ l0 _ _ l1 y1 y2 true _ (cb_ H0) G0.out (cb_ H1) G1.out HA.out).mono ?_);rintro e w3 ⟨v0,v1,rfl,ho0,ho1,hb⟩;refine ⟨_,rfl,?_⟩;have ZB:=Aside0.mk (below_size hB_:w.heap.size≤w2.heap.size);replace HB:=b1_ hb;clear hb;obtain ⟨Ay0,cy0,ey0⟩:=Kd.R_slice ho0;subst ey0;obtain ⟨Ay1,cy1,ey1⟩:=Kd.R_slice ho1;subst ey1;have Y0:=Aside0.mk ho0;have Y1:=Aside0.mk ho1;clear ho0 ho1) | ((with_reducible refine gate_dst (N:=4) rfl ?_);refine bx_ 4 #[.slice none 0 0,.slice none 0 0] 25 ?_;intro gf hg w4 hbox hb;have GF:=gw_ w hg;have GF2:=Aside0.mk (show w3.heap.size≤gf from Nat.le_of_eq hg.symm);have BF:=Aside0.mk hbox;have B3:=Aside0.mk hb;replace HB:=b1_ hb;clear hb hbox hg;obtain ⟨hcf0,hcf1,hff0,hff1⟩:=c2_ BF))
 obtain ⟨hbox,hkp,hB2⟩:=box_store BF.out (.slice Ay0 y1.length cy0) (.slice Ay1 y2.length cy1) HB.out GF.out
 generalize hw:((w4.setCell ⟨gf,0,none⟩ (.slice Ay0 y1.length cy0)).setCell ⟨gf,1,none⟩ (.slice Ay1 y2.length cy1)) = w5 at hbox hkp hB2 ⊢
 clear hw hcf0 hcf1 hff0 hff1 hcz0 hcz1 hfz0 hfz1 HB
 have NE:=Aside0.mk (show NeRow (.slice Ay0 y1.length cy0) (.slice Ay1 y2.length cy1) from fun k_ e1_ e2_=>(Y0.out.1 k_ e1_) e2_.symm)
 replace Y0:=Aside0.mk (Kd.R_kept (Kd.R_below (Kd.R_bound Y0.out) B3.out) hkp (fun k_ hk hs=>by have h2:=hk.2.2.1;have h3:=GF2.out;omega))
 replace Y1:=Aside0.mk (Kd.R_kept (Kd.R_below (Kd.R_bound Y1.out) B3.out) hkp (fun k_ hk hs=>by have h2:=hk.2.2.1;have h3:=GF2.out;omega))
 have HB:=Aside0.mk hB2
 replace BF:=Aside0.mk (show w5.heap[gf]? = some (.cells #[.slice Ay0 y1.length cy0,.slice Ay1 y2.length cy1] 25 (0,0)) from hbox)
 have Z5:=Aside0.mk hkp.1
 have HB5:=HB
 clear hbox hkp hB2
 obtain ⟨hcf0,hcf1,hff0,hff1⟩:=c2_ BF
 replace Y0:=Aside0.mk (Kd.R_bound Y0.out)
 replace Y1:=Aside0.mk (Kd.R_bound Y1.out)
 go_wp2_with (first | ((with_reducible refine gate_dst (N:=21) rfl ?_);refine lit_event 21 #[.slice Ay0 y1.length cy0,.slice Ay1 y2.length cy1] 25 1 ?_;intro g1 hg w6 hbox hb;have Kg1:=Aside0.mk hbox;have Sg1:=Aside0.mk (show w5.heap.size≤g1∧g1 < w6.heap.size from ⟨Nat.le_of_eq hg.symm,(Array.getElem?_eq_some_iff.1 hbox).1⟩);replace Y0:=Aside0.mk (Kd.R_below Y0.out hb);replace Y1:=Aside0.mk (Kd.R_below Y1.out hb);replace HB:=b1_ hb;clear hb hbox hg) | ((with_reducible refine gate_dst (N:=22) rfl ?_);refine lit_event 22 #[.string ⟨#[]⟩] 9 1 ?_;intro g2 hg w7 hbox hb;have Kg2:=Aside0.mk hbox;have Sg2:=Aside0.mk (show w6.heap.size≤g2∧g2 < w7.heap.size from ⟨Nat.le_of_eq hg.symm,(Array.getElem?_eq_some_iff.1 hbox).1⟩);replace Kg1:=bb_ Kg1 hb;replace Y0:=Aside0.mk (Kd.R_below Y0.out hb);replace Y1:=Aside0.mk (Kd.R_below Y1.out hb);replace HB:=b1_ hb;clear hb hbox hg) | ((with_reducible refine gate_dst (N:=23) rfl ?_);refine lit_event 23 #[.int .i64 (-1)] 3 1 ?_;intro g3 hg w8 hbox hb;have Kg3:=Aside0.mk hbox;have Sg3:=Aside0.mk (show w7.heap.size≤g3∧g3 < w8.heap.size from ⟨Nat.le_of_eq hg.symm,(Array.getElem?_eq_some_iff.1 hbox).1⟩);replace Kg1:=bb_ Kg1 hb;replace Kg2:=bb_ Kg2 hb;replace Y0:=Aside0.mk (Kd.R_below Y0.out hb);replace Y1:=Aside0.mk (Kd.R_below Y1.out hb);replace HB:=b1_ hb;clear hb hbox hg) | ((with_reducible refine gate_dst (N:=24) rfl ?_);refine lit_event 24 #[.int .u8 0] 5 1 ?_;intro g4 hg w9 hbox hb;have Kg4:=Aside0.mk hbox;have Sg4:=Aside0.mk (show w8.heap.size≤g4∧g4 < w9.heap.size from ⟨Nat.le_of_eq hg.symm,(Array.getElem?_eq_some_iff.1 hbox).1⟩);replace Kg1:=bb_ Kg1 hb;replace Kg2:=bb_ Kg2 hb;replace Kg3:=bb_ Kg3 hb;replace Y0:=Aside0.mk (Kd.R_below Y0.out hb);replace Y1:=Aside0.mk (Kd.R_below Y1.out hb);replace HB:=b1_ hb;clear hb hbox hg) | ((with_reducible refine gate_dst (N:=25) rfl ?_);refine map_event 25 ?_;intro gM hg w10 hbox hb;have KgM:=Aside0.mk hbox;have SgM:=Aside0.mk (show w9.heap.size≤gM∧gM < w10.heap.size from ⟨Nat.le_of_eq hg.symm,(Array.getElem?_eq_some_iff.1 hbox).1⟩);replace Kg1:=bb_ Kg1 hb;replace Kg2:=bb_ Kg2 hb;replace Kg3:=bb_ Kg3 hb;replace Kg4:=bb_ Kg4 hb;replace Y0:=Aside0.mk (Kd.R_below Y0.out hb);replace Y1:=Aside0.mk (Kd.R_below Y1.out hb);replace HB:=b1_ hb;clear hb hbox hg) | ((with_reducible refine gate_dst (N:=27) rfl ?_);refine bx_ 27 #[.slice (some ⟨g1,0,none⟩) 1 1,.slice (some ⟨g2,0,none⟩) 1 1,.slice (some ⟨g3,0,none⟩) 1 1,.slice (some ⟨g4,0,none⟩) 1 1,.map (some gM)] 69 ?_;intro gO hg w11 hbox hb;have KgO:=Aside0.mk hbox;have SgO:=Aside0.mk (show w10.heap.size≤gO∧gO < w11.heap.size from ⟨Nat.le_of_eq hg.symm,(Array.getElem?_eq_some_iff.1 hbox).1⟩);replace Kg1:=bb_ Kg1 hb;replace Kg2:=bb_ Kg2 hb;replace Kg3:=bb_ Kg3 hb;replace Kg4:=bb_ Kg4 hb;replace KgM:=bb_ KgM hb;replace Y0:=Aside0.mk (Kd.R_below Y0.out hb);replace Y1:=Aside0.mk (Kd.R_below Y1.out hb);replace HB:=b1_ hb;clear hb hbox hg))
 have HH:Aside0 (OrbH w.heap.size (fun k=>if k = g2 then 1 else if k = g3 then 2 else if k = g4 then 3 else if k = gO then 6 else if k = gM then 7 else 0) w11 gO gM 0 (.slice (some ⟨g1,0,none⟩) 1 1) (.slice (some ⟨g2,0,none⟩) 1 1) (.slice (some ⟨g3,0,none⟩) 1 1) (.slice (some ⟨g4,0,none⟩) 1 1) (.slice none 0 0) (.slice none 0 0) ⟨[⟨y1,y2⟩],[⟨#[]⟩],[-1],[0],[],[]⟩):=by
  have q1:=Sg1.out;have q2:=Sg2.out;have q3:=Sg3.out;have q4:=Sg4.out;have q5:=SgM.out;have q6:=SgO.out
  have z5:=Z5.out;have z2:=ZB.out;have zf:=GF.out;have zg:=GF2.out
  have bz:w.heap.size≤w5.heap.size:=HB5.out.size
  refine ⟨⟨KgO.out,KgM.out,?_,?_,by omega,by omega,fun _=>rfl,fun _=>rfl,?_,?_,?_,?_,Kd.R_nil _ _ _ _ _,Kd.R_nil _ _ _ _ _⟩⟩
  ·show (if gO = g2 then 1 else if gO = g3 then 2 else if gO = g4 then 3 else if gO = gO then 6 else if gO = gM then 7 else 0) = 6
   rw [if_neg (by omega),if_neg (by omega),if_neg (by omega),if_pos rfl]
  ·show (if gM = g2 then 1 else if gM = g3 then 2 else if gM = g4 then 3 else if gM = gO then 6 else if gM = gM then 7 else 0) = 7
   rw [if_neg (by omega),if_neg (by omega),if_neg (by omega),if_neg (by omega),if_pos rfl]
  ·refine S_blk (x:=⟨y1,y2⟩) Kg1.out (by omega) ?_ ?_ ?_ NE.out
   ·show (if g1 = g2 then 1 else if g1 = g3 then 2 else if g1 = g4 then 3 else if g1 = gO then 6 else if g1 = gM then 7 else 0) = 0
    rw [if_neg (by omega),if_neg (by omega),if_neg (by omega),if_neg (by omega),if_neg (by omega)]
   ·refine Kd.R_mono (Kd.R_lower Y0.out (by omega)) (fun k hk=>?_)
    have hk2:=hk.2.2.1
    show (if k = g2 then 1 else if k = g3 then 2 else if k = g4 then 3 else if k = gO then 6 else if k = gM then 7 else 0) = 0∧k≠g1
    rw [if_neg (by omega),if_neg (by omega),if_neg (by omega),if_neg (by omega),if_neg (by omega)]
    exact ⟨rfl,by omega⟩
   ·refine Kd.R_mono (Kd.R_lower Y1.out (by omega)) (fun k hk=>?_)
    have hk2:=hk.2.2.1
    show (if k = g2 then 1 else if k = g3 then 2 else if k = g4 then 3 else if k = gO then 6 else if k = gM then 7 else 0) = 0∧k≠g1
    rw [if_neg (by omega),if_neg (by omega),if_neg (by omega),if_neg (by omega),if_neg (by omega)]
    exact ⟨rfl,by omega⟩
  ·exact R_blk Kg2.out (by omega) (if_pos rfl)
  ·refine R_blk Kg3.out (by omega) ?_
   show (if g3 = g2 then 1 else if g3 = g3 then 2 else if g3 = g4 then 3 else if g3 = gO then 6 else if g3 = gM then 7 else 0) = 2
   rw [if_neg (by omega),if_pos rfl]
  ·refine R_blk Kg4.out (by omega) ?_
   show (if g4 = g2 then 1 else if g4 = g3 then 2 else if g4 = g4 then 3 else if g4 = gO then 6 else if g4 = gM then 7 else 0) = 3
   rw [if_neg (by omega),if_neg (by omega),if_pos rfl]
 clear Kg1 Kg2 Kg3 Kg4 KgM KgO Sg1 Sg2 Sg3 Sg4 SgM SgO Y0 Y1 NE BF GF GF2 Z5 ZB B3 BS H0 H1 G0 G1 HA hcf0 hcf1 hff0 hff1 HB5
 go_loopg [7] k (fun kq v7 w'=>∃ (x7:Int) (n:Nat) (col:Nat→Nat) (vL vW vF vB vT vS:Value) (s:Orb),v7 = .int .i64 x7∧Aside0 (loopO kq s x7 = some R)∧Aside0 (kq≤k)∧Aside0 (n = 0 ∨ n = 2)∧Aside0 (OrbH w.heap.size col w' gO gM n vL vW vF vB vT vS s)∧Aside0 (Below w.heap.size w w'))
 case atStart=>exact ⟨0,0,_,_,_,_,_,_,_,_,rfl,HL,⟨Nat.le_refl _⟩,⟨.inl rfl⟩,HH,HB⟩
 case round =>
  clear HL HH HB
  obtain ⟨x7,n,col,vL,vW,vF,vB,vT,vS,s,rfl,HA,HK,HN,HH,HB⟩:=hrel
  cases gk with
  | zero=>exact absurd HA.out (by simp [loopO])
  | succ k1 =>
   have H:=HA.out
   clear HA
   simp only [loopO] at H
   obtain ⟨AL,cL,eL⟩:=Kd.S_slice HH.out.hL
   subst eL
   have hco0:wr.cell? ⟨gO,0,none⟩ = some (.slice AL s.L.length cL):=(blk_cell HH.out.hO 0).trans rfl
   have hfo0:=blk_frozen HH.out.hO 0
   by_cases hq1:x7 < (s.L.length:Int)
   ·rw [if_pos hq1] at H
    have c1b:=decide_eq_true hq1
    obtain ⟨z,AZ,H⟩:=bi_ H
    have HR:=Aside0.mk H
    clear H
    obtain ⟨wo,hwo⟩:∃ wo:World,wo = wr:=⟨_,rfl⟩
    subst hwo
    go_wp2_with (first | ((with_reducible refine gate_dst (N:=37) rfl ?_);refine lit_event 37 #[.int .u8 84,.int .u8 83] 5 2 ?_;intro gl hg w12 hbox hb;have SL:=Aside0.mk (show wo.heap.size≤gl from Nat.le_of_eq hg.symm);have BL:=Aside0.mk hbox;have HH2:=Aside0.mk ((HH.out.recol (col':=fun k=>if k = gl then 8 else col k) (fun k hk=>if_neg (by have:=SL.out;omega))).below hb);replace HB:=b1_ hb;clear hb hbox hg))
    clear hco0 hfo0 c1b HH
    have SLG:=SL
    go_loopg [39] 2 (fun gi v39 w'=>∃ (jj n':Nat) (col':Nat→Nat) (vL vW vF vB vT vS:Value) (s':Orb),v39 = .int .i64 (jj:Int)∧Aside0 (jj≤2)∧Aside0 (2 - jj≤gi)∧Aside0 (innerO k1 x7 (([84,83]:List Int).drop jj) s' = some z)∧Aside0 ((jj = 0→n' = 0 ∨ n' = 2)∧(jj = 1→n' = 1 ∨ n' = 2)∧(jj = 2→n' = 2))∧Aside0 (col' gl = 8)∧Aside0 (w'.heap[gl]? = some (.cells #[.int .u8 84,.int .u8 83] 5 (0,0)))∧Aside0 (OrbH w.heap.size col' w' gO gM n' vL vW vF vB vT vS s')∧Aside0 (Below w.heap.size w w'))
    case atStart=>exact ⟨0,n,(fun k=>if k = gl then 8 else col k),_,_,_,_,_,_,s,rfl,⟨by omega⟩,⟨by omega⟩,AZ,⟨⟨fun _=>HN.out,fun e=>absurd e (by decide),fun e=>absurd e (by decide)⟩⟩,⟨if_pos rfl⟩,BL,HH2,HB⟩
    case round =>
     clear AZ HH2 HB BL SL HN
     obtain ⟨jj,n',col',vL',vW',vF',vB',vT',vS',s',rfl,HJ,HG,AZ,HN,HC,BL,HH,HB⟩:=hrel
     have hj:=HJ.out
     obtain ⟨AL',cL',eL'⟩:=Kd.S_slice HH.out.hL
     subst eL'
     have hcl0:wr.cell? ⟨gl,0,none⟩ = some (.int .u8 84):=(blk_cell BL.out 0).trans rfl
     have hcl1:wr.cell? ⟨gl,1,none⟩ = some (.int .u8 83):=(blk_cell BL.out 1).trans rfl
     have hfl0:=blk_frozen BL.out 0
     have hfl1:=blk_frozen BL.out 1
     have hco0:wr.cell? ⟨gO,0,none⟩ = some (.slice AL' s'.L.length cL'):=(blk_cell HH.out.hO 0).trans rfl
     have hfo0:=blk_frozen HH.out.hO 0
     rcases Nat.lt_or_ge jj 2 with hj2 | hj2
     ·have hq3:jj = 0 ∨ jj = 1:=by omega
      rcases hq3 with rfl | rfl
      ·skip
       have hn0:=Aside0.mk (HN.out.1 rfl)
       have H:=AZ.out
       clear AZ
       change innerO k1 x7 (84 :: [83]) s' = some z at H
       simp only [innerO] at H
       obtain ⟨zz,AS,H⟩:=bi_ H
       have HT:=Aside0.mk H
       have H:=AS.out
       clear AS
       unfold stpO at H
       have hi0:=cp_ H
       replace H:=ca_ H
       have hi1:=cp_ H
       replace H:=ca_ H
       obtain ⟨⟨x1,x2⟩,AX,H⟩:=bi_ H
       obtain ⟨⟨y1',y2',yb⟩,AY,H⟩:=bi_ H
       obtain ⟨j,AJ,H⟩:=bi_ H
       dsimp only at H AY AJ
       have HS:=Aside0.mk H
       clear H
       obtain ⟨adx,Ax0,cx0,Ax1,cx1,ex,hx0,hx1,hlx0,hix0,hlx1,hix1⟩:=at_T25 (Kd.S_reads' HH.out.hL).2.2 x7 hi0 hi1
       cases ex
       have X0:=Aside0.mk hix0;have X1:=Aside0.mk hix1;have LX0:=Aside0.mk hlx0;have LX1:=Aside0.mk hlx1
       clear hix0 hix1 hlx0 hlx1
       have ti0:=eq_true hi0
       have ti1:=eq_true hi1
       have td1:=decide_eq_true hi1
       go_upto_region 12 with (first | ((with_reducible refine gate_callee (f:=63) rfl ?_);refine gL_ (some 52) Try.func63 #[.agg #[.slice Ax0 (rd_T25 s'.L x7).f0.length cx0,.slice Ax1 (rd_T25 s'.L x7).f1.length cx1],.int .u8 84] rfl qa_ ?_;(with_reducible refine (Z8.calls k1 _ _ (rd_T25 s'.L x7).f0 _ _ (rd_T25 s'.L x7).f1 84 x1 x2 _ X0.out LX0.out X1.out LX1.out AX.out).mono ?_);rintro e w13 ⟨v0,v1,rfl,ho0,ho1,hb⟩;refine ⟨_,rfl,?_⟩;replace HH:=Aside0.mk (HH.out.below hb);replace BL:=bb_ BL hb;replace HB:=b1_ hb;clear hb;obtain ⟨Al0,cl0,el0⟩:=Kd.R_slice ho0;subst el0;obtain ⟨Al1,cl1,el1⟩:=Kd.R_slice ho1;subst el1;have LT0:=Aside0.mk (Kd.R_reads' ho0).2;have LT1:=Aside0.mk (Kd.R_reads' ho1).2;clear ho0 ho1) | ((with_reducible refine gate_callee (f:=28) rfl ?_);refine gL_ (some 53) Try.func28 #[.agg #[.slice Al0 x1.length cl0,.slice Al1 x2.length cl1]] rfl qa_ ?_;(with_reducible refine (Z50.calls k1 _ _ x1 _ _ x2 y1' y2' yb _ LT0.out.2 LT0.out.1 LT1.out.2 LT1.out.1 AY.out).mono ?_);rintro e w14 ⟨v0,v1,rfl,ho0,ho1,hb⟩;refine ⟨_,rfl,?_⟩;have ZC:=Aside0.mk (below_size hB_:w.heap.size≤w13.heap.size);have ZD:=Aside0.mk hb.size;have SL13:=Aside0.mk (Kd.S_below (Kd.S_mono (ok':=fun k_=>col' k_ = 0∧k_ < w13.heap.size) (Kd.S_bound HH.out.hL) (fun k_ hk_=>⟨hk_.1,hk_.2.2.1⟩)) hb);replace HH:=Aside0.mk ((HH.out.recol (col':=rcl w13.heap.size col' 0) (fun k hk=>rcl_old hk)).below hb);replace HC:=Aside0.mk ((rcl_old (blk_lt BL.out)).trans HC.out:rcl w13.heap.size col' 0 gl = 8);replace BL:=bb_ BL hb;replace HB:=b1_ hb;clear hb;obtain ⟨Ay0,cy0,ey0⟩:=Kd.R_slice ho0;subst ey0;obtain ⟨Ay1,cy1,ey1⟩:=Kd.R_slice ho1;subst ey1;have Y0:=Aside0.mk ho0;have Y1:=Aside0.mk ho1;clear ho0 ho1) | ((with_reducible refine gate_dst (N:=10) rfl ?_);refine bx_ 10 #[.slice none 0 0,.slice none 0 0] 25 ?_;intro gx hg w15 hbox hb;have GX:=Aside0.mk (show w14.heap.size≤gx from Nat.le_of_eq hg.symm);have BX:=Aside0.mk hbox;have B3:=Aside0.mk hb;clear hb hbox hg;obtain ⟨hcf0,hcf1,hff0,hff1⟩:=c2_ BX))
       obtain ⟨hbox,hkp,hB2⟩:=box_store (w0:=w14) BX.out (.slice Ay0 y1'.length cy0) (.slice Ay1 y2'.length cy1) B3.out GX.out
       generalize hw:((w15.setCell ⟨gx,0,none⟩ (.slice Ay0 y1'.length cy0)).setCell ⟨gx,1,none⟩ (.slice Ay1 y2'.length cy1)) = w16 at hbox hkp hB2 ⊢
       clear hw hcf0 hcf1 hff0 hff1 hcl0 hcl1 hfl0 hfl1 hco0 hfo0 hx0 hx1 X0 X1 LX0 LX1 LT0 LT1
       have NE:=Aside0.mk (show NeRow (.slice Ay0 y1'.length cy0) (.slice Ay1 y2'.length cy1) from fun k_ e1_ e2_=>(Y0.out.1 k_ e1_) e2_.symm)
       replace HH:=Aside0.mk (HH.out.below hB2)
       replace BL:=Aside0.mk (blk_below BL.out hB2)
       replace Y0:=Aside0.mk (Kd.R_below (Kd.R_bound Y0.out) hB2)
       replace Y1:=Aside0.mk (Kd.R_below (Kd.R_bound Y1.out) hB2)
       replace SL13:=Aside0.mk (Kd.S_below SL13.out hB2)
       replace HB:=Aside0.mk (below_step HB.out hB2)
       replace BX:=Aside0.mk (show w16.heap[gx]? = some (.cells #[.slice Ay0 y1'.length cy0,.slice Ay1 y2'.length cy1] 25 (0,0)) from hbox)
       have ZE:=Aside0.mk hB2.size
       clear hbox hkp hB2 B3
       obtain ⟨hcx0,hcx1,hfx0,hfx1⟩:=c2_ BX
       have hLr:=(Kd.S_reads' HH.out.hL).2
       have RL:=Aside0.mk hLr
       clear hLr
       go_upto_region 13 with (first | ((with_reducible refine gate_callee (f:=72) rfl ?_);refine gL_ (some 58) Try.func72 #[.pointer (some ⟨gO,0,none⟩),.agg #[.slice Ay0 y1'.length cy0,.slice Ay1 y2'.length cy1]] rfl qa_ ?_;(with_reducible refine (index_calls k1 gO _ _ s'.L _ _ _ _ _ _ y1' _ _ y2' j _ RL.out.2 RL.out.1 (Kd.R_reads' Y0.out).2.2 (Kd.R_reads' Y0.out).2.1 (Kd.R_reads' Y1.out).2.2 (Kd.R_reads' Y1.out).2.1 HH.out.hO AJ.out).mono ?_);rintro e w17 ⟨rfl,hb⟩;refine ⟨_,rfl,?_⟩;have ZF:=Aside0.mk hb.size;replace HH:=Aside0.mk (HH.out.below hb);replace BL:=bb_ BL hb;replace BX:=bb_ BX hb;replace Y0:=Aside0.mk (Kd.R_below Y0.out hb);replace Y1:=Aside0.mk (Kd.R_below Y1.out hb);replace SL13:=Aside0.mk (Kd.S_below SL13.out hb);replace HB:=b1_ hb;clear hb))
       clear hcx0 hcx1 hfx0 hfx1 RL
       have ZW:=Aside0.mk (show w13.heap.size≤w17.heap.size from Nat.le_trans ZD.out (Nat.le_trans ZE.out ZF.out))
       clear ZD ZE ZF
       by_cases hj0:j < 0
       ·have H:=HS.out
        clear HS
        rw [if_pos hj0] at H
        have hjb:=decide_eq_true hj0
        have hco0:w17.cell? ⟨gO,0,none⟩ = some (.slice (some adx) s'.L.length cL'):=(blk_cell HH.out.hO 0).trans rfl
        have hfo0:=blk_frozen HH.out.hO 0
        by_cases hq5:(s'.L.length:Int) = 120
        ·rw [if_pos hq5] at H
         obtain rfl:=Option.some.inj H
         clear H
         have hzn:z = none:=(Option.some.inj HT.out).symm
         subst hzn
         have hRn:R = none:=(Option.some.inj HR.out).symm
         subst hRn
         have e5b:((s'.L.length:Int) == 120) = true:=beq_iff_eq.mpr hq5
         clear hq5
         go_wp2
         go_ret2
         exact ⟨qb_,hB_⟩
        ·rw [if_neg hq5] at H
         have e5b:((s'.L.length:Int) == 120) = false:=beq_eq_false_iff_ne.mpr hq5
         clear hq5
         have hlen:=cp_ H
         replace H:=ca_ H
         have hiW:=cp_ H
         replace H:=ca_ H
         have hsz:=cp_ H
         replace H:=Option.some.inj (ca_ H)
         subst H
         rw [if_pos rfl,if_pos rfl] at HT
         have LN:=Aside0.mk hlen
         have LS:=Aside0.mk hsz
         clear hlen hsz
         go_upto_region 17 with (fail)
         clear hco0 hfo0 e5b
         replace HH:=Aside0.mk (HH.out.below (below_drew1 (Below.refl _ _)))
         replace BL:=Aside0.mk (blk_drew BL.out)
         replace BX:=Aside0.mk (blk_drew BX.out)
         replace HB:=Aside0.mk (below_drew1 HB.out)
         replace Y0:=Aside0.mk (Kd.R_bound (Kd.R_drew Y0.out))
         replace Y1:=Aside0.mk (Kd.R_bound (Kd.R_drew Y1.out))
         replace SL13:=Aside0.mk (Kd.S_drew SL13.out)
         replace ZW:=Aside0.mk (show w13.heap.size≤w17.drew.heap.size from ZW.out)
         refine start_ (n:=11) (S:=fun w'=>w'.cell? ⟨gO,0,none⟩ = some (.slice (some adx) s'.L.length cL')∧w'.cell? ⟨gx,0,none⟩ = some (.slice Ay0 y1'.length cy0)∧w'.cell? ⟨gx,1,none⟩ = some (.slice Ay1 y2'.length cy1)) (ds:=[7,10]) (bl_ 11 0) (by kernel_rfl) rfl (by kernel_rfl) ⟨(blk_cell HH.out.hO 0).trans rfl,(blk_cell BX.out 0).trans rfl,(blk_cell BX.out 1).trans rfl⟩ (fun hHeld=>?_)
         refine with_tabW orb_tab17 orb_bits17 (fun HT_ HW_=>?_)
         generalize w17.drew = wa at HH BL BX HB Y0 Y1 SL13 ZW hHeld ⊢
         refine pu_ 0 (some 68) (bl_ 11 1) HT_ ?_
         refine pu_ 1 (some 69) (bl_ 11 3) HT_ ?_
         refine pu_ 2 (some 70) (bl_ 11 7) HT_ ?_
         refine pu_ 3 (some 71) (bl_ 11 15) HT_ ?_
         refine ta_ 4 (some 72) (bl_ 11 31) HT_ HW_ hHeld ?_
         refine ta_ 5 (some 73) (bl_ 11 63) HT_ HW_ hHeld ?_
         refine on_ 6 (some 74) (bl_ 11 127) HT_ (fun K hK=>?_)
         refine value_ (w1:=?_) (v:=?_) (by rfl) rfl ?_ ?_
         rotate_left 2
         ·go_simp
          constructor
          ·rfl
          ·rfl
         refine hK.out _ _ ⟨((below_alloc (Below.refl _ _) _).cell (World.block_lt_of_cell? _ _ hHeld.1)).trans hHeld.1,((below_alloc (Below.refl _ _) _).cell (World.block_lt_of_cell? _ _ hHeld.2.1)).trans hHeld.2.1,((below_alloc (Below.refl _ _) _).cell (World.block_lt_of_cell? _ _ hHeld.2.2)).trans hHeld.2.2⟩ (fun hHeld=>?_)
         clear hK K
         refine no_ (some 74) ?_
         refine last_ (i:=7) (N:=some 75) (bl_ 11 255) rfl rfl (one_of HT_.out (by kernel_rfl)) (by decide) (fun K hK=>?_)
         refine Kd.S_append_step k25 (w0:=w) w.heap.size (by rfl) (.tmp 72) (.tmp 74) 36 25 (.agg #[(.slice none 0 0),(.slice none 0 0)]) 48 rfl Try.underlying36 info25 rfl (by decide) (by omega) (.slice (some adx) s'.L.length cL') s'.L (⟨y1',y2'⟩:S25) [.slice Ay0 y1'.length cy0,.slice Ay1 y2'.length cy1] (fun k_=>rcl wa.heap.size (rcl w13.heap.size col' 0) 0 k_ = 0) (fun k_=>w13.heap.size≤k_∧k_ < wa.heap.size) rfl rfl ?aP ?aQ (fun k_ hk=>rcl_new hk) ?aO HB.out HB.out.size (by have:=LN.out;omega) ?_
         case aP=>exact k25_mkM _ _ _ (⟨y1',y2'⟩:S25) (Kd.R_mono (Kd.R_lower Y0.out ZC.out) (fun k_ hk=>⟨hk.2.1,hk.2.2.1⟩)) (Kd.R_mono (Kd.R_lower Y1.out ZC.out) (fun k_ hk=>⟨hk.2.1,hk.2.2.1⟩)) NE.out
         case aQ=>exact fun k_ hk=>⟨(rcl_old hk.2).trans (rcl_new hk.1),fun e=>by have:=((Kd.S_R SL13.out).1 k_ e.symm).2;have:=hk.1;omega⟩
         case aO=>exact Kd.S_mono SL13.out (fun k_ hk=>⟨(rcl_old (Nat.lt_of_lt_of_le hk.2 ZW.out)).trans ((rcl_old hk.2).trans hk.1),fun h_=>by have:=hk.2;have:=h_.1;omega⟩)
         intro v1 wb ho hb hg hat
         obtain ⟨An1,cn1,en1⟩:=Kd.S_slice ho
         subst en1
         have HO19:=(B_gr HH.out.hO HH.out.cO hg (Kd.S_R HH.out.hL).1 (by decide)).1
         have HC3:=Aside0.mk (B_gr BL.out HC.out hg (Kd.S_R HH.out.hL).1 (by decide))
         have HP:=HH.out.putL hg ho
         have HB2:=Aside0.mk hb
         refine hK.out _ _ ?_
         clear hK K ho hb hg hat SL13 Y0 Y1 BX NE GX
         refine no_ (some 75) ?_
         refine pu_ 8 (some 76) (bl_ 11 511) HT_ ?_
         refine pu_ 9 (some 77) (bl_ 11 1023) HT_ ?_
         refine last_ (i:=10) (N:=none) (bl_ 11 2047) rfl rfl (one_of HT_.out (by kernel_rfl)) (by decide) (fun K hK=>?_)
         have hs19:wb.cell? ⟨gO,0,none⟩ = some (.slice (some adx) s'.L.length cL'):=(blk_cell HO19 0).trans rfl
         have hf19:=blk_frozen HO19 0
         refine skip_ (w1:=wb.setCell ⟨gO,0,none⟩ (.slice An1 (s'.L ++ [(⟨y1',y2'⟩:S25)]).length cn1)) (by rfl) rfl ?_ ?_
         ·go_simp
         refine hK.out _ _ ?_
         clear hK K hs19 hf19
         refine done_ (done_of HT_.out (by kernel_rfl)) ?_
         have hne_:gl≠gO:=fun e=>by have a1:=HC3.out.2;have a2:=HP.cO;rw [e] at a1;omega
         have HB3:=Aside0.mk (below_set (g:=gO) (j:=0) (v:=(.slice An1 (s'.L ++ [(⟨y1',y2'⟩:S25)]).length cn1)) HB2.out HP.bO)
         have BL2:=Aside0.mk (put_far HC3.out.1 hne_ 0 (.slice An1 (s'.L ++ [(⟨y1',y2'⟩:S25)]).length cn1))
         have HCN:=HC3.out.2
         clear HH BL HB HC HC3 HB2 HO19
         generalize hwc:wb.setCell ⟨gO,0,none⟩ (.slice An1 (s'.L ++ [(⟨y1',y2'⟩:S25)]).length cn1) = wc at HP HB3 BL2 ⊢
         clear hwc
         obtain ⟨colwc,hh_,hc_⟩:∃ c_,OrbH w.heap.size c_ wc gO gM n' _ _ _ _ _ _ _∧c_ gl = 8:=⟨_,HP,HCN⟩
         have HH:=Aside0.mk hh_;have HC:=Aside0.mk hc_;have BL:=BL2;have HB:=HB3
         clear hh_ hc_ BL2 HB3 HP HCN hne_
         obtain ⟨AW,cW,eW⟩:=Kd.R_slice HH.out.hW
         subst eW
         go_upto_region 18 with (fail)
         replace HH:=Aside0.mk (HH.out.below (below_drew1 (Below.refl _ _)))
         replace BL:=Aside0.mk (blk_drew BL.out)
         replace HB:=Aside0.mk (below_drew1 HB.out)
         obtain ⟨adw,ew,hxw⟩:=Kd.at_string (Kd.R_reads' HH.out.hW).2.2 x7 hi0 hiW
         cases ew
         have tw1:=eq_true hiW
         have tw2:=decide_eq_true hiW
         refine start_ (n:=21) (S:=fun w'=>w'.cell? ⟨gO,1,none⟩ = some (.slice (some adw) s'.W.length cW)∧w'.cell? (adw.add (x7).toNat) = some (.string (rdOf ByteArray.empty s'.W x7))) (ds:=[17,20]) (bl_ 21 0) (by kernel_rfl) rfl (by kernel_rfl) ⟨(blk_cell HH.out.hO 1).trans rfl,hxw⟩ (fun hHeld=>?_)
         refine with_tabW orb_tab18 orb_bits18 (fun HT_ HW_=>?_)
         clear hxw
         generalize wc.drew = wd at HH BL HB hHeld ⊢
         refine pu_ 0 (some 78) (bl_ 21 1) HT_ ?_
         refine pu_ 1 (some 79) (bl_ 21 3) HT_ ?_
         refine pu_ 2 (some 80) (bl_ 21 7) HT_ ?_
         refine pu_ 3 (some 81) (bl_ 21 15) HT_ ?_
         refine ta_ 4 (some 82) (bl_ 21 31) HT_ HW_ hHeld ?_
         refine pu_ 5 (some 83) (bl_ 21 63) HT_ ?_
         refine pu_ 6 (some 84) (bl_ 21 127) HT_ ?_
         refine pu_ 7 (some 85) (bl_ 21 255) HT_ ?_
         refine ta_ 8 (some 86) (bl_ 21 511) HT_ HW_ hHeld ?_
         refine pu_ 9 (some 87) (bl_ 21 1023) HT_ ?_
         refine pu_ 10 (some 88) (bl_ 21 2047) HT_ ?_
         refine ta_ 11 (some 89) (bl_ 21 4095) HT_ HW_ hHeld ?_
         refine pu_ 12 (some 90) (bl_ 21 8191) HT_ ?_
         refine on_ 13 (some 91) (bl_ 21 16383) HT_ (fun K hK=>?_)
         refine Kd.R_lit_step (Kd.int .u8) _ 5 ?hg (N:=91) ?hd (xs:=([84]:List Int)) (inner:=[.int .u8 84]) (ok:=fun _=>True) (okp:=fun _=>True) ?hr ?hp (fun _ hk=>hk) trivial (Below.refl _ _) (Nat.le_refl _) (by simp) ?_;(case hd=>rfl);(case hg=>rfl);(case hr=>first | (go_simp;done) | (go_simp;rfl));(case hp=>exact (Reps.one (show Kd.M (Kd.int .u8) _ _ _ 84 [.int .u8 84] from rfl) (Reps.none _ _)))
         intro vq we hoq hb hg_ hnew_
         have hS1_:=(hb.cell (World.block_lt_of_cell? _ _ hHeld.1)).trans hHeld.1
         have hS2_:=(hb.cell (World.block_lt_of_cell? _ _ hHeld.2)).trans hHeld.2
         replace HH:=Aside0.mk (HH.out.below hb)
         replace BL:=bb_ BL hb
         replace HB:=b1_ hb
         have HOq:=Aside0.mk hoq
         clear hg_ hnew_ hb hoq
         refine hK.out _ _ ⟨hS1_,hS2_⟩ (fun hHeld=>?_)
         clear hK K hS1_ hS2_
         refine no_ (some 91) ?_
         refine on_ 14 (some 92) (bl_ 21 32767) HT_ (fun K hK=>?_)
         have hcv47:=own_string (P:=Try.prog) Try.underlying22 Try.underlying5 Try.underlying9 (Kd.own_of_R HOq.out)
         refine value_ (w1:=?_) (v:=?_) (by rfl) rfl ?_ ?_
         rotate_left 2
         ·go_simp
          constructor
          ·rfl
          ·rfl
         clear hcv47 HOq
         refine hK.out _ _ hHeld (fun hHeld=>?_)
         clear hK K
         refine no_ (some 92) ?_
         have hs1_:(strOfNums [(84:Int)]).size = 1:=by decide +kernel
         have tw3:(9223372036854775807 < (rdOf ByteArray.empty s'.W x7).size + (strOfNums [(84:Int)]).size) = False:=eq_false (by rw [hs1_];have:=LS.out;omega)
         clear hs1_
         refine pu_ 15 (some 93) (bl_ 21 65535) HT_ ?_
         clear tw3
         refine on_ 16 (some 94) (bl_ 21 131071) HT_ (fun K hK=>?_)
         refine value_ (w1:=?_) (v:=?_) (by rfl) rfl ?_ ?_
         rotate_left 2
         ·go_simp
          constructor
          ·rfl
          ·rfl
         refine hK.out _ _ ⟨((below_alloc (Below.refl _ _) _).cell (World.block_lt_of_cell? _ _ hHeld.1)).trans hHeld.1,((below_alloc (Below.refl _ _) _).cell (World.block_lt_of_cell? _ _ hHeld.2)).trans hHeld.2⟩ (fun hHeld=>?_)
         clear hK K
         refine no_ (some 94) ?_
         refine last_ (i:=17) (N:=some 95) (bl_ 21 262143) rfl rfl (one_of HT_.out (by kernel_rfl)) (by decide) (fun K hK=>?_)
         refine Kd.R_append_step Kd.string (w0:=w) w.heap.size (by rfl) (.tmp 82) (.tmp 94) 53 9 (.string ⟨#[]⟩) 16 rfl Try.underlying53 info9 rfl (by decide) (by omega) (.slice (some adw) s'.W.length cW) s'.W ((rdOf ByteArray.empty s'.W x7) ++ (strOfNums [84])) [.string ((rdOf ByteArray.empty s'.W x7) ++ (strOfNums [84]))] (fun k_=>rcl we.heap.size colwc 1 k_ = 1) (fun _=>False) rfl rfl rfl (fun _ hk=>hk.elim) (fun k_ hk=>rcl_new hk) (R_col HH.out.hW (fun k_ hk=>rcl_old hk)) HB.out HB.out.size (by have:=LN.out;omega) ?_
         intro v2 wf ho hb hg hat
         obtain ⟨An2,cn2,en2⟩:=Kd.R_slice ho
         subst en2
         have HO19:=(B_gr HH.out.hO HH.out.cO hg HH.out.hW.1 (by decide)).1
         have HC3:=Aside0.mk (B_gr BL.out HC.out hg HH.out.hW.1 (by decide))
         have HP:=HH.out.putW hg ho
         have HB2:=Aside0.mk hb
         refine hK.out _ _ ?_
         clear hK K ho hb hg hat
         refine no_ (some 95) ?_
         refine pu_ 18 (some 96) (bl_ 21 524287) HT_ ?_
         refine pu_ 19 (some 97) (bl_ 21 1048575) HT_ ?_
         refine last_ (i:=20) (N:=none) (bl_ 21 2097151) rfl rfl (one_of HT_.out (by kernel_rfl)) (by decide) (fun K hK=>?_)
         have hs19:wf.cell? ⟨gO,1,none⟩ = some (.slice (some adw) s'.W.length cW):=(blk_cell HO19 1).trans rfl
         have hf19:=blk_frozen HO19 1
         refine skip_ (w1:=wf.setCell ⟨gO,1,none⟩ (.slice An2 (s'.W ++ [(rdOf ByteArray.empty s'.W x7) ++ (strOfNums [84])]).length cn2)) (by rfl) rfl ?_ ?_
         ·go_simp
         refine hK.out _ _ ?_
         clear hK K hs19 hf19
         refine done_ (done_of HT_.out (by kernel_rfl)) ?_
         have hne_:gl≠gO:=fun e=>by have a1:=HC3.out.2;have a2:=HP.cO;rw [e] at a1;omega
         have HB3:=Aside0.mk (below_set (g:=gO) (j:=1) (v:=(.slice An2 (s'.W ++ [(rdOf ByteArray.empty s'.W x7) ++ (strOfNums [84])]).length cn2)) HB2.out HP.bO)
         have BL2:=Aside0.mk (put_far HC3.out.1 hne_ 1 (.slice An2 (s'.W ++ [(rdOf ByteArray.empty s'.W x7) ++ (strOfNums [84])]).length cn2))
         have HCN:=HC3.out.2
         clear HH BL HB HC HC3 HB2 HO19
         generalize hwc:wf.setCell ⟨gO,1,none⟩ (.slice An2 (s'.W ++ [(rdOf ByteArray.empty s'.W x7) ++ (strOfNums [84])]).length cn2) = wg at HP HB3 BL2 ⊢
         clear hwc
         obtain ⟨colwg,hh_,hc_⟩:∃ c_,OrbH w.heap.size c_ wg gO gM n' _ _ _ _ _ _ _∧c_ gl = 8:=⟨_,HP,HCN⟩
         have HH:=Aside0.mk hh_;have HC:=Aside0.mk hc_;have BL:=BL2;have HB:=HB3
         clear hh_ hc_ BL2 HB3 HP HCN hne_
         obtain ⟨AF,cF,eF⟩:=Kd.R_slice HH.out.hF
         subst eF
         go_upto_region 19 with (fail)
         have hco_:wg.cell? ⟨gO,2,none⟩ = some (.slice AF s'.F.length cF):=(blk_cell HH.out.hO 2).trans rfl
         have hfo_:=blk_frozen HH.out.hO 2
         go_upto_region 20 with (first | ((with_reducible refine gate_builtin (b:=.append) (xs:=#[.tmp 102,.tmp 104]) rfl ?_);at_builtin;refine Kd.R_append (Kd.int .i64) (w0:=w) w.heap.size rfl (.tmp 102) (.tmp 104) 23 3 (.int .i64 0) 8 rfl Try.underlying23 info3 rfl (by decide) (by omega) (.slice AF s'.F.length cF) s'.F (x7) [.int .i64 (x7)] (fun k_=>rcl wg.heap.size colwg 2 k_ = 2) (fun _=>False) rfl rfl rfl (fun _ hk=>hk.elim) (fun k_ hk=>rcl_new hk) (R_col HH.out.hF (fun k_ hk=>rcl_old hk)) HB.out HB.out.size (by have:=LN.out;omega) ?_;intro v3 wh ho hb hg hat;obtain ⟨Anv3,cnv3,env3⟩:=Kd.R_slice ho;subst env3;rw [List.length_append,List.length_singleton] at ho;have HO19:=(B_gr HH.out.hO HH.out.cO hg HH.out.hF.1 (by decide)).1;have HC3:=Aside0.mk (B_gr BL.out HC.out hg HH.out.hF.1 (by decide));have HP:=HH.out.putF hg ho;have HB2:=Aside0.mk hb;clear ho hb hg hat hco_ hfo_;have hs19:wh.cell? ⟨gO,2,none⟩ = some (.slice AF s'.F.length cF):=(blk_cell HO19 2).trans rfl;have hf19:=blk_frozen HO19 2))
         clear hs19 hf19
         have hne_:gl≠gO:=fun e=>by have a1:=HC3.out.2;have a2:=HP.cO;rw [e] at a1;omega
         have HB3:=Aside0.mk (below_set (g:=gO) (j:=2) (v:=(.slice Anv3 (s'.F.length + 1) cnv3)) HB2.out HP.bO)
         have BL2:=Aside0.mk (put_far HC3.out.1 hne_ 2 (.slice Anv3 (s'.F.length + 1) cnv3))
         have HCN:=HC3.out.2
         clear HH BL HB HC HC3 HB2 HO19
         generalize hwc:wh.setCell ⟨gO,2,none⟩ (.slice Anv3 (s'.F.length + 1) cnv3) = wi at HP HB3 BL2 ⊢
         clear hwc
         obtain ⟨colwi,hh_,hc_⟩:∃ c_,OrbH w.heap.size c_ wi gO gM n' _ _ _ _ _ _ _∧c_ gl = 8:=⟨_,HP,HCN⟩
         have HH:=Aside0.mk hh_;have HC:=Aside0.mk hc_;have BL:=BL2;have HB:=HB3
         clear hh_ hc_ BL2 HB3 HP HCN hne_
         obtain ⟨AB,cB,eB⟩:=Kd.R_slice HH.out.hB
         subst eB
         have hco_:wi.cell? ⟨gO,3,none⟩ = some (.slice AB s'.B.length cB):=(blk_cell HH.out.hO 3).trans rfl
         have hfo_:=blk_frozen HH.out.hO 3
         go_upto_region 21 with (first | ((with_reducible refine gate_builtin (b:=.append) (xs:=#[.tmp 112,.tmp 114]) rfl ?_);at_builtin;refine Kd.R_append (Kd.int .u8) (w0:=w) w.heap.size rfl (.tmp 112) (.tmp 114) 22 5 (.int .u8 0) 1 rfl Try.underlying22 info5 rfl (by decide) (by omega) (.slice AB s'.B.length cB) s'.B (84) [.int .u8 (84)] (fun k_=>rcl wi.heap.size colwi 3 k_ = 3) (fun _=>False) rfl rfl rfl (fun _ hk=>hk.elim) (fun k_ hk=>rcl_new hk) (R_col HH.out.hB (fun k_ hk=>rcl_old hk)) HB.out HB.out.size (by have:=LN.out;omega) ?_;intro v4 wj ho hb hg hat;obtain ⟨Anv4,cnv4,env4⟩:=Kd.R_slice ho;subst env4;rw [List.length_append,List.length_singleton] at ho;have HO19:=(B_gr HH.out.hO HH.out.cO hg HH.out.hB.1 (by decide)).1;have HC3:=Aside0.mk (B_gr BL.out HC.out hg HH.out.hB.1 (by decide));have HP:=HH.out.putB hg ho;have HB2:=Aside0.mk hb;clear ho hb hg hat hco_ hfo_;have hs19:wj.cell? ⟨gO,3,none⟩ = some (.slice AB s'.B.length cB):=(blk_cell HO19 3).trans rfl;have hf19:=blk_frozen HO19 3))
         clear hs19 hf19
         have hne_:gl≠gO:=fun e=>by have a1:=HC3.out.2;have a2:=HP.cO;rw [e] at a1;omega
         have HB3:=Aside0.mk (below_set (g:=gO) (j:=3) (v:=(.slice Anv4 (s'.B.length + 1) cnv4)) HB2.out HP.bO)
         have BL2:=Aside0.mk (put_far HC3.out.1 hne_ 3 (.slice Anv4 (s'.B.length + 1) cnv4))
         have HCN:=HC3.out.2
         clear HH BL HB HC HC3 HB2 HO19
         generalize hwc:wj.setCell ⟨gO,3,none⟩ (.slice Anv4 (s'.B.length + 1) cnv4) = wk at HP HB3 BL2 ⊢
         clear hwc
         obtain ⟨colwk,hh_,hc_⟩:∃ c_,OrbH w.heap.size c_ wk gO gM n' _ _ _ _ _ _ _∧c_ gl = 8:=⟨_,HP,HCN⟩
         have HH:=Aside0.mk hh_;have HC:=Aside0.mk hc_;have BL:=BL2;have HB:=HB3
         clear hh_ hc_ BL2 HB3 HP HCN hne_
         generalize hcc:colwk = colc at HH HC
         clear hcc
         go_upto_region 21 with (fail)
         replace HH:=Aside0.mk (HH.out.below (below_drew1 (Below.refl _ _)))
         replace BL:=Aside0.mk (blk_drew BL.out)
         replace HB:=Aside0.mk (below_drew1 HB.out)
         refine start_ (n:=15) (S:=fun w'=>w'.cell? ⟨gO,4,none⟩ = some (.map (some gM))∧w'.heap[gM]? = some (mapO n' vT' vS')) (ds:=[14]) (bl_ 15 0) (by kernel_rfl) rfl (by kernel_rfl) ⟨(blk_cell HH.out.hO 4).trans rfl,HH.out.hM⟩ (fun hHeld=>?_)
         refine with_tabW orb_tab21 orb_bits21 (fun HT_ HW_=>?_)
         generalize wk.drew = wl at HH BL HB hHeld ⊢
         refine pu_ 0 (some 118) (bl_ 15 1) HT_ ?_
         refine pu_ 1 (some 119) (bl_ 15 3) HT_ ?_
         refine pu_ 2 (some 120) (bl_ 15 7) HT_ ?_
         refine ta_ 3 (some 121) (bl_ 15 15) HT_ HW_ hHeld ?_
         refine pu_ 4 (some 122) (bl_ 15 31) HT_ ?_
         refine pu_ 5 (some 123) (bl_ 15 63) HT_ ?_
         refine pu_ 6 (some 124) (bl_ 15 127) HT_ ?_
         refine pu_ 7 (some 125) (bl_ 15 255) HT_ ?_
         refine ta_ 8 (some 126) (bl_ 15 511) HT_ HW_ hHeld ?_
         refine pu_ 9 (some 127) (bl_ 15 1023) HT_ ?_
         have hlk:∀ w',w'.heap[gM]? = some (mapO n' vT' vS')→(Instr.lookup 67 (.map (some gM)) (.int .u8 84) false).run Try.prog w' = .ok vT' w':=fun w' h_=>by
          have hn:=hn0.out
          have:=look_T h_ (by omega)
          rw [HH.out.look.1] at this
          exact this
         refine ta_ 10 (some 128) (v:=vT') (bl_ 15 2047) HT_ HW_ hHeld ?_ (hy:=Or.inl ⟨by rfl,fun w' hs_=>?_⟩)
         rotate_left
         ·have hq:=hlk w' hs_.2
          go_simp
         clear hlk
         refine pu_ 11 (some 129) (bl_ 15 4095) HT_ ?_
         refine on_ 12 (some 130) (bl_ 15 8191) HT_ (fun K hK=>?_)
         refine value_ (w1:=?_) (v:=?_) (by rfl) rfl ?_ ?_
         rotate_left 2
         ·go_simp
          constructor
          ·rfl
          ·rfl
         refine hK.out _ _ ⟨((below_alloc (Below.refl _ _) _).cell (World.block_lt_of_cell? _ _ hHeld.1)).trans hHeld.1,blk_alloc hHeld.2 _⟩ (fun hHeld=>?_)
         clear hK K
         refine no_ (some 130) ?_
         refine on_ 13 (some 131) (bl_ 15 16383) HT_ (fun K hK=>?_)
         refine Kd.R_append_step (Kd.int .i64) (w0:=w) w.heap.size (by rfl) (.tmp 128) (.tmp 130) 23 3 (.int .i64 0) 8 rfl Try.underlying23 info3 rfl (by decide) (by omega) vT' s'.T ((s'.L.length:Int)) [.int .i64 ((s'.L.length:Int))] (fun k_=>rcl wl.heap.size colc 4 k_ = 4) (fun _=>False) rfl rfl rfl (fun _ hk=>hk.elim) (fun k_ hk=>rcl_new hk) (R_col HH.out.hT (fun k_ hk=>rcl_old hk)) HB.out HB.out.size (by have:=LN.out;omega) ?_
         intro v1 wlb ho hb hg hat
         have HP:=HH.out.putT hg ho
         have HM:=Aside0.mk HP.1
         have HO19:=(B_gr HH.out.hO HH.out.cO hg HH.out.hT.1 (by decide)).1
         have HC3:=Aside0.mk (B_gr BL.out HC.out hg HH.out.hT.1 (by decide))
         replace HH:=Aside0.mk HP.2
         clear HP
         have HB2:=Aside0.mk hb
         refine hK.out _ _ ⟨(blk_cell HO19 4).trans rfl,HM.out⟩ (fun hHeld=>?_)
         clear hK K ho hb hg hat HO19
         refine no_ (some 131) ?_
         refine last_ (i:=14) (N:=none) (bl_ 15 32767) rfl rfl (one_of HT_.out (by kernel_rfl)) (by decide) (fun K hK=>?_)
         have hput:(Instr.mapUpdate 67 (.map (some gM)) (.int .u8 84) v1).run Try.prog wlb = .ok () (setMap wlb gM (max n' 1) v1 vS'):=put_T HM.out hn0.out v1
         refine skip_ (w1:=setMap wlb gM (max n' 1) v1 vS') (by rfl) rfl ?_ ?_
         ·go_simp
         refine hK.out _ _ ?_
         clear hK K hput
         refine done_ (done_of HT_.out (by kernel_rfl)) ?_
         try go_wp2
         have hgm:gl≠gM:=fun e=>by have a1:=HC3.out.2;have a2:=HH.out.cM;rw [e] at a1;omega
         have BL2:=Aside0.mk ((setMap_far (n:=max n' 1) v1 vS' hgm).trans HC3.out.1)
         have HB3:=Aside0.mk (setMap_below (n:=max n' 1) v1 vS' HB2.out HH.out.bM)
         go_roundg 1
         case measure=>have:=HG.out;omega
         case rel=>exact ⟨1,max n' 1,_,_,_,_,_,_,_,_,(by first | rfl | (simp;done) | (simp [*];done)),⟨by omega⟩,⟨by omega⟩,HT,⟨⟨fun e=>absurd e (by decide),fun _=>by have:=hn0.out;omega,fun e=>absurd e (by decide)⟩⟩,⟨HC3.out.2⟩,BL2,HH,HB3⟩
       ·have H:=HS.out
        clear HS
        rw [if_neg hj0] at H
        have hjb:=decide_eq_false hj0
        have hlen:=cp_ H
        replace H:=Option.some.inj (ca_ H)
        subst H
        rw [if_pos rfl,if_pos rfl] at HT
        have LN:=Aside0.mk hlen
        clear hlen SL13 Y0 Y1 BX NE GX
        generalize hcc:rcl w13.heap.size col' 0 = colc at HH HC
        clear hcc
        go_upto_region 21 with (fail)
        replace HH:=Aside0.mk (HH.out.below (below_drew1 (Below.refl _ _)))
        replace BL:=Aside0.mk (blk_drew BL.out)
        replace HB:=Aside0.mk (below_drew1 HB.out)
        refine start_ (n:=15) (S:=fun w'=>w'.cell? ⟨gO,4,none⟩ = some (.map (some gM))∧w'.heap[gM]? = some (mapO n' vT' vS')) (ds:=[14]) (bl_ 15 0) (by kernel_rfl) rfl (by kernel_rfl) ⟨(blk_cell HH.out.hO 4).trans rfl,HH.out.hM⟩ (fun hHeld=>?_)
        refine with_tabW orb_tab21 orb_bits21 (fun HT_ HW_=>?_)
        generalize w17.drew = w18 at HH BL HB hHeld ⊢
        refine pu_ 0 (some 118) (bl_ 15 1) HT_ ?_
        refine pu_ 1 (some 119) (bl_ 15 3) HT_ ?_
        refine pu_ 2 (some 120) (bl_ 15 7) HT_ ?_
        refine ta_ 3 (some 121) (bl_ 15 15) HT_ HW_ hHeld ?_
        refine pu_ 4 (some 122) (bl_ 15 31) HT_ ?_
        refine pu_ 5 (some 123) (bl_ 15 63) HT_ ?_
        refine pu_ 6 (some 124) (bl_ 15 127) HT_ ?_
        refine pu_ 7 (some 125) (bl_ 15 255) HT_ ?_
        refine ta_ 8 (some 126) (bl_ 15 511) HT_ HW_ hHeld ?_
        refine pu_ 9 (some 127) (bl_ 15 1023) HT_ ?_
        have hlk:∀ w',w'.heap[gM]? = some (mapO n' vT' vS')→(Instr.lookup 67 (.map (some gM)) (.int .u8 84) false).run Try.prog w' = .ok vT' w':=fun w' h_=>by
         have hn:=hn0.out
         have:=look_T h_ (by omega)
         rw [HH.out.look.1] at this
         exact this
        refine ta_ 10 (some 128) (v:=vT') (bl_ 15 2047) HT_ HW_ hHeld ?_ (hy:=Or.inl ⟨by rfl,fun w' hs_=>?_⟩)
        rotate_left
        ·have hq:=hlk w' hs_.2
         go_simp
        clear hlk
        refine pu_ 11 (some 129) (bl_ 15 4095) HT_ ?_
        refine on_ 12 (some 130) (bl_ 15 8191) HT_ (fun K hK=>?_)
        refine value_ (w1:=?_) (v:=?_) (by rfl) rfl ?_ ?_
        rotate_left 2
        ·go_simp
         constructor
         ·rfl
         ·rfl
        refine hK.out _ _ ⟨((below_alloc (Below.refl _ _) _).cell (World.block_lt_of_cell? _ _ hHeld.1)).trans hHeld.1,blk_alloc hHeld.2 _⟩ (fun hHeld=>?_)
        clear hK K
        refine no_ (some 130) ?_
        refine on_ 13 (some 131) (bl_ 15 16383) HT_ (fun K hK=>?_)
        refine Kd.R_append_step (Kd.int .i64) (w0:=w) w.heap.size (by rfl) (.tmp 128) (.tmp 130) 23 3 (.int .i64 0) 8 rfl Try.underlying23 info3 rfl (by decide) (by omega) vT' s'.T (j) [.int .i64 (j)] (fun k_=>rcl w18.heap.size colc 4 k_ = 4) (fun _=>False) rfl rfl rfl (fun _ hk=>hk.elim) (fun k_ hk=>rcl_new hk) (R_col HH.out.hT (fun k_ hk=>rcl_old hk)) HB.out HB.out.size (by have:=LN.out;omega) ?_
        intro v1 w18b ho hb hg hat
        have HP:=HH.out.putT hg ho
        have HM:=Aside0.mk HP.1
        have HO19:=(B_gr HH.out.hO HH.out.cO hg HH.out.hT.1 (by decide)).1
        have HC3:=Aside0.mk (B_gr BL.out HC.out hg HH.out.hT.1 (by decide))
        replace HH:=Aside0.mk HP.2
        clear HP
        have HB2:=Aside0.mk hb
        refine hK.out _ _ ⟨(blk_cell HO19 4).trans rfl,HM.out⟩ (fun hHeld=>?_)
        clear hK K ho hb hg hat HO19
        refine no_ (some 131) ?_
        refine last_ (i:=14) (N:=none) (bl_ 15 32767) rfl rfl (one_of HT_.out (by kernel_rfl)) (by decide) (fun K hK=>?_)
        have hput:(Instr.mapUpdate 67 (.map (some gM)) (.int .u8 84) v1).run Try.prog w18b = .ok () (setMap w18b gM (max n' 1) v1 vS'):=put_T HM.out hn0.out v1
        refine skip_ (w1:=setMap w18b gM (max n' 1) v1 vS') (by rfl) rfl ?_ ?_
        ·go_simp
        refine hK.out _ _ ?_
        clear hK K hput
        refine done_ (done_of HT_.out (by kernel_rfl)) ?_
        try go_wp2
        have hgm:gl≠gM:=fun e=>by have a1:=HC3.out.2;have a2:=HH.out.cM;rw [e] at a1;omega
        have BL2:=Aside0.mk ((setMap_far (n:=max n' 1) v1 vS' hgm).trans HC3.out.1)
        have HB3:=Aside0.mk (setMap_below (n:=max n' 1) v1 vS' HB2.out HH.out.bM)
        go_roundg 1
        case measure=>have:=HG.out;omega
        case rel=>exact ⟨1,max n' 1,_,_,_,_,_,_,_,_,(by first | rfl | (simp;done) | (simp [*];done)),⟨by omega⟩,⟨by omega⟩,HT,⟨⟨fun e=>absurd e (by decide),fun _=>by have:=hn0.out;omega,fun e=>absurd e (by decide)⟩⟩,⟨HC3.out.2⟩,BL2,HH,HB3⟩
      ·skip
       have hn0:=Aside0.mk (HN.out.2.1 rfl)
       have H:=AZ.out
       clear AZ
       change innerO k1 x7 (83 :: []) s' = some z at H
       simp only [innerO] at H
       obtain ⟨zz,AS,H⟩:=bi_ H
       have HT:=Aside0.mk H
       have H:=AS.out
       clear AS
       unfold stpO at H
       have hi0:=cp_ H
       replace H:=ca_ H
       have hi1:=cp_ H
       replace H:=ca_ H
       obtain ⟨⟨x1,x2⟩,AX,H⟩:=bi_ H
       obtain ⟨⟨y1',y2',yb⟩,AY,H⟩:=bi_ H
       obtain ⟨j,AJ,H⟩:=bi_ H
       dsimp only at H AY AJ
       have HS:=Aside0.mk H
       clear H
       obtain ⟨adx,Ax0,cx0,Ax1,cx1,ex,hx0,hx1,hlx0,hix0,hlx1,hix1⟩:=at_T25 (Kd.S_reads' HH.out.hL).2.2 x7 hi0 hi1
       cases ex
       have X0:=Aside0.mk hix0;have X1:=Aside0.mk hix1;have LX0:=Aside0.mk hlx0;have LX1:=Aside0.mk hlx1
       clear hix0 hix1 hlx0 hlx1
       have ti0:=eq_true hi0
       have ti1:=eq_true hi1
       have td1:=decide_eq_true hi1
       go_upto_region 12 with (first | ((with_reducible refine gate_callee (f:=63) rfl ?_);refine gL_ (some 52) Try.func63 #[.agg #[.slice Ax0 (rd_T25 s'.L x7).f0.length cx0,.slice Ax1 (rd_T25 s'.L x7).f1.length cx1],.int .u8 83] rfl qa_ ?_;(with_reducible refine (Z8.calls k1 _ _ (rd_T25 s'.L x7).f0 _ _ (rd_T25 s'.L x7).f1 83 x1 x2 _ X0.out LX0.out X1.out LX1.out AX.out).mono ?_);rintro e w13 ⟨v0,v1,rfl,ho0,ho1,hb⟩;refine ⟨_,rfl,?_⟩;replace HH:=Aside0.mk (HH.out.below hb);replace BL:=bb_ BL hb;replace HB:=b1_ hb;clear hb;obtain ⟨Al0,cl0,el0⟩:=Kd.R_slice ho0;subst el0;obtain ⟨Al1,cl1,el1⟩:=Kd.R_slice ho1;subst el1;have LT0:=Aside0.mk (Kd.R_reads' ho0).2;have LT1:=Aside0.mk (Kd.R_reads' ho1).2;clear ho0 ho1) | ((with_reducible refine gate_callee (f:=28) rfl ?_);refine gL_ (some 53) Try.func28 #[.agg #[.slice Al0 x1.length cl0,.slice Al1 x2.length cl1]] rfl qa_ ?_;(with_reducible refine (Z50.calls k1 _ _ x1 _ _ x2 y1' y2' yb _ LT0.out.2 LT0.out.1 LT1.out.2 LT1.out.1 AY.out).mono ?_);rintro e w14 ⟨v0,v1,rfl,ho0,ho1,hb⟩;refine ⟨_,rfl,?_⟩;have ZC:=Aside0.mk (below_size hB_:w.heap.size≤w13.heap.size);have ZD:=Aside0.mk hb.size;have SL13:=Aside0.mk (Kd.S_below (Kd.S_mono (ok':=fun k_=>col' k_ = 0∧k_ < w13.heap.size) (Kd.S_bound HH.out.hL) (fun k_ hk_=>⟨hk_.1,hk_.2.2.1⟩)) hb);replace HH:=Aside0.mk ((HH.out.recol (col':=rcl w13.heap.size col' 0) (fun k hk=>rcl_old hk)).below hb);replace HC:=Aside0.mk ((rcl_old (blk_lt BL.out)).trans HC.out:rcl w13.heap.size col' 0 gl = 8);replace BL:=bb_ BL hb;replace HB:=b1_ hb;clear hb;obtain ⟨Ay0,cy0,ey0⟩:=Kd.R_slice ho0;subst ey0;obtain ⟨Ay1,cy1,ey1⟩:=Kd.R_slice ho1;subst ey1;have Y0:=Aside0.mk ho0;have Y1:=Aside0.mk ho1;clear ho0 ho1) | ((with_reducible refine gate_dst (N:=10) rfl ?_);refine bx_ 10 #[.slice none 0 0,.slice none 0 0] 25 ?_;intro gx hg w15 hbox hb;have GX:=Aside0.mk (show w14.heap.size≤gx from Nat.le_of_eq hg.symm);have BX:=Aside0.mk hbox;have B3:=Aside0.mk hb;clear hb hbox hg;obtain ⟨hcf0,hcf1,hff0,hff1⟩:=c2_ BX))
       obtain ⟨hbox,hkp,hB2⟩:=box_store (w0:=w14) BX.out (.slice Ay0 y1'.length cy0) (.slice Ay1 y2'.length cy1) B3.out GX.out
       generalize hw:((w15.setCell ⟨gx,0,none⟩ (.slice Ay0 y1'.length cy0)).setCell ⟨gx,1,none⟩ (.slice Ay1 y2'.length cy1)) = w16 at hbox hkp hB2 ⊢
       clear hw hcf0 hcf1 hff0 hff1 hcl0 hcl1 hfl0 hfl1 hco0 hfo0 hx0 hx1 X0 X1 LX0 LX1 LT0 LT1
       have NE:=Aside0.mk (show NeRow (.slice Ay0 y1'.length cy0) (.slice Ay1 y2'.length cy1) from fun k_ e1_ e2_=>(Y0.out.1 k_ e1_) e2_.symm)
       replace HH:=Aside0.mk (HH.out.below hB2)
       replace BL:=Aside0.mk (blk_below BL.out hB2)
       replace Y0:=Aside0.mk (Kd.R_below (Kd.R_bound Y0.out) hB2)
       replace Y1:=Aside0.mk (Kd.R_below (Kd.R_bound Y1.out) hB2)
       replace SL13:=Aside0.mk (Kd.S_below SL13.out hB2)
       replace HB:=Aside0.mk (below_step HB.out hB2)
       replace BX:=Aside0.mk (show w16.heap[gx]? = some (.cells #[.slice Ay0 y1'.length cy0,.slice Ay1 y2'.length cy1] 25 (0,0)) from hbox)
       have ZE:=Aside0.mk hB2.size
       clear hbox hkp hB2 B3
       obtain ⟨hcx0,hcx1,hfx0,hfx1⟩:=c2_ BX
       have hLr:=(Kd.S_reads' HH.out.hL).2
       have RL:=Aside0.mk hLr
       clear hLr
       go_upto_region 13 with (first | ((with_reducible refine gate_callee (f:=72) rfl ?_);refine gL_ (some 58) Try.func72 #[.pointer (some ⟨gO,0,none⟩),.agg #[.slice Ay0 y1'.length cy0,.slice Ay1 y2'.length cy1]] rfl qa_ ?_;(with_reducible refine (index_calls k1 gO _ _ s'.L _ _ _ _ _ _ y1' _ _ y2' j _ RL.out.2 RL.out.1 (Kd.R_reads' Y0.out).2.2 (Kd.R_reads' Y0.out).2.1 (Kd.R_reads' Y1.out).2.2 (Kd.R_reads' Y1.out).2.1 HH.out.hO AJ.out).mono ?_);rintro e w17 ⟨rfl,hb⟩;refine ⟨_,rfl,?_⟩;have ZF:=Aside0.mk hb.size;replace HH:=Aside0.mk (HH.out.below hb);replace BL:=bb_ BL hb;replace BX:=bb_ BX hb;replace Y0:=Aside0.mk (Kd.R_below Y0.out hb);replace Y1:=Aside0.mk (Kd.R_below Y1.out hb);replace SL13:=Aside0.mk (Kd.S_below SL13.out hb);replace HB:=b1_ hb;clear hb))
       clear hcx0 hcx1 hfx0 hfx1 RL
       have ZW:=Aside0.mk (show w13.heap.size≤w17.heap.size from Nat.le_trans ZD.out (Nat.le_trans ZE.out ZF.out))
       clear ZD ZE ZF
       by_cases hj0:j < 0
       ·have H:=HS.out
        clear HS
        rw [if_pos hj0] at H
        have hjb:=decide_eq_true hj0
        have hco0:w17.cell? ⟨gO,0,none⟩ = some (.slice (some adx) s'.L.length cL'):=(blk_cell HH.out.hO 0).trans rfl
        have hfo0:=blk_frozen HH.out.hO 0
        by_cases hq5:(s'.L.length:Int) = 120
        ·rw [if_pos hq5] at H
         obtain rfl:=Option.some.inj H
         clear H
         have hzn:z = none:=(Option.some.inj HT.out).symm
         subst hzn
         have hRn:R = none:=(Option.some.inj HR.out).symm
         subst hRn
         have e5b:((s'.L.length:Int) == 120) = true:=beq_iff_eq.mpr hq5
         clear hq5
         go_wp2
         go_ret2
         exact ⟨qb_,hB_⟩
        ·rw [if_neg hq5] at H
         have e5b:((s'.L.length:Int) == 120) = false:=beq_eq_false_iff_ne.mpr hq5
         clear hq5
         have hlen:=cp_ H
         replace H:=ca_ H
         have hiW:=cp_ H
         replace H:=ca_ H
         have hsz:=cp_ H
         replace H:=Option.some.inj (ca_ H)
         subst H
         rw [if_neg (by decide),if_neg (by decide)] at HT
         have LN:=Aside0.mk hlen
         have LS:=Aside0.mk hsz
         clear hlen hsz
         go_upto_region 17 with (fail)
         clear hco0 hfo0 e5b
         replace HH:=Aside0.mk (HH.out.below (below_drew1 (Below.refl _ _)))
         replace BL:=Aside0.mk (blk_drew BL.out)
         replace BX:=Aside0.mk (blk_drew BX.out)
         replace HB:=Aside0.mk (below_drew1 HB.out)
         replace Y0:=Aside0.mk (Kd.R_bound (Kd.R_drew Y0.out))
         replace Y1:=Aside0.mk (Kd.R_bound (Kd.R_drew Y1.out))
         replace SL13:=Aside0.mk (Kd.S_drew SL13.out)
         replace ZW:=Aside0.mk (show w13.heap.size≤w17.drew.heap.size from ZW.out)
         refine start_ (n:=11) (S:=fun w'=>w'.cell? ⟨gO,0,none⟩ = some (.slice (some adx) s'.L.length cL')∧w'.cell? ⟨gx,0,none⟩ = some (.slice Ay0 y1'.length cy0)∧w'.cell? ⟨gx,1,none⟩ = some (.slice Ay1 y2'.length cy1)) (ds:=[7,10]) (bl_ 11 0) (by kernel_rfl) rfl (by kernel_rfl) ⟨(blk_cell HH.out.hO 0).trans rfl,(blk_cell BX.out 0).trans rfl,(blk_cell BX.out 1).trans rfl⟩ (fun hHeld=>?_)
         refine with_tabW orb_tab17 orb_bits17 (fun HT_ HW_=>?_)
         generalize w17.drew = wa at HH BL BX HB Y0 Y1 SL13 ZW hHeld ⊢
         refine pu_ 0 (some 68) (bl_ 11 1) HT_ ?_
         refine pu_ 1 (some 69) (bl_ 11 3) HT_ ?_
         refine pu_ 2 (some 70) (bl_ 11 7) HT_ ?_
         refine pu_ 3 (some 71) (bl_ 11 15) HT_ ?_
         refine ta_ 4 (some 72) (bl_ 11 31) HT_ HW_ hHeld ?_
         refine ta_ 5 (some 73) (bl_ 11 63) HT_ HW_ hHeld ?_
         refine on_ 6 (some 74) (bl_ 11 127) HT_ (fun K hK=>?_)
         refine value_ (w1:=?_) (v:=?_) (by rfl) rfl ?_ ?_
         rotate_left 2
         ·go_simp
          constructor
          ·rfl
          ·rfl
         refine hK.out _ _ ⟨((below_alloc (Below.refl _ _) _).cell (World.block_lt_of_cell? _ _ hHeld.1)).trans hHeld.1,((below_alloc (Below.refl _ _) _).cell (World.block_lt_of_cell? _ _ hHeld.2.1)).trans hHeld.2.1,((below_alloc (Below.refl _ _) _).cell (World.block_lt_of_cell? _ _ hHeld.2.2)).trans hHeld.2.2⟩ (fun hHeld=>?_)
         clear hK K
         refine no_ (some 74) ?_
         refine last_ (i:=7) (N:=some 75) (bl_ 11 255) rfl rfl (one_of HT_.out (by kernel_rfl)) (by decide) (fun K hK=>?_)
         refine Kd.S_append_step k25 (w0:=w) w.heap.size (by rfl) (.tmp 72) (.tmp 74) 36 25 (.agg #[(.slice none 0 0),(.slice none 0 0)]) 48 rfl Try.underlying36 info25 rfl (by decide) (by omega) (.slice (some adx) s'.L.length cL') s'.L (⟨y1',y2'⟩:S25) [.slice Ay0 y1'.length cy0,.slice Ay1 y2'.length cy1] (fun k_=>rcl wa.heap.size (rcl w13.heap.size col' 0) 0 k_ = 0) (fun k_=>w13.heap.size≤k_∧k_ < wa.heap.size) rfl rfl ?aP ?aQ (fun k_ hk=>rcl_new hk) ?aO HB.out HB.out.size (by have:=LN.out;omega) ?_
         case aP=>exact k25_mkM _ _ _ (⟨y1',y2'⟩:S25) (Kd.R_mono (Kd.R_lower Y0.out ZC.out) (fun k_ hk=>⟨hk.2.1,hk.2.2.1⟩)) (Kd.R_mono (Kd.R_lower Y1.out ZC.out) (fun k_ hk=>⟨hk.2.1,hk.2.2.1⟩)) NE.out
         case aQ=>exact fun k_ hk=>⟨(rcl_old hk.2).trans (rcl_new hk.1),fun e=>by have:=((Kd.S_R SL13.out).1 k_ e.symm).2;have:=hk.1;omega⟩
         case aO=>exact Kd.S_mono SL13.out (fun k_ hk=>⟨(rcl_old (Nat.lt_of_lt_of_le hk.2 ZW.out)).trans ((rcl_old hk.2).trans hk.1),fun h_=>by have:=hk.2;have:=h_.1;omega⟩)
         intro v1 wb ho hb hg hat
         obtain ⟨An1,cn1,en1⟩:=Kd.S_slice ho
         subst en1
         have HO19:=(B_gr HH.out.hO HH.out.cO hg (Kd.S_R HH.out.hL).1 (by decide)).1
         have HC3:=Aside0.mk (B_gr BL.out HC.out hg (Kd.S_R HH.out.hL).1 (by decide))
         have HP:=HH.out.putL hg ho
         have HB2:=Aside0.mk hb
         refine hK.out _ _ ?_
         clear hK K ho hb hg hat SL13 Y0 Y1 BX NE GX
         refine no_ (some 75) ?_
         refine pu_ 8 (some 76) (bl_ 11 511) HT_ ?_
         refine pu_ 9 (some 77) (bl_ 11 1023) HT_ ?_
         refine last_ (i:=10) (N:=none) (bl_ 11 2047) rfl rfl (one_of HT_.out (by kernel_rfl)) (by decide) (fun K hK=>?_)
         have hs19:wb.cell? ⟨gO,0,none⟩ = some (.slice (some adx) s'.L.length cL'):=(blk_cell HO19 0).trans rfl
         have hf19:=blk_frozen HO19 0
         refine skip_ (w1:=wb.setCell ⟨gO,0,none⟩ (.slice An1 (s'.L ++ [(⟨y1',y2'⟩:S25)]).length cn1)) (by rfl) rfl ?_ ?_
         ·go_simp
         refine hK.out _ _ ?_
         clear hK K hs19 hf19
         refine done_ (done_of HT_.out (by kernel_rfl)) ?_
         have hne_:gl≠gO:=fun e=>by have a1:=HC3.out.2;have a2:=HP.cO;rw [e] at a1;omega
         have HB3:=Aside0.mk (below_set (g:=gO) (j:=0) (v:=(.slice An1 (s'.L ++ [(⟨y1',y2'⟩:S25)]).length cn1)) HB2.out HP.bO)
         have BL2:=Aside0.mk (put_far HC3.out.1 hne_ 0 (.slice An1 (s'.L ++ [(⟨y1',y2'⟩:S25)]).length cn1))
         have HCN:=HC3.out.2
         clear HH BL HB HC HC3 HB2 HO19
         generalize hwc:wb.setCell ⟨gO,0,none⟩ (.slice An1 (s'.L ++ [(⟨y1',y2'⟩:S25)]).length cn1) = wc at HP HB3 BL2 ⊢
         clear hwc
         obtain ⟨colwc,hh_,hc_⟩:∃ c_,OrbH w.heap.size c_ wc gO gM n' _ _ _ _ _ _ _∧c_ gl = 8:=⟨_,HP,HCN⟩
         have HH:=Aside0.mk hh_;have HC:=Aside0.mk hc_;have BL:=BL2;have HB:=HB3
         clear hh_ hc_ BL2 HB3 HP HCN hne_
         obtain ⟨AW,cW,eW⟩:=Kd.R_slice HH.out.hW
         subst eW
         go_upto_region 18 with (fail)
         replace HH:=Aside0.mk (HH.out.below (below_drew1 (Below.refl _ _)))
         replace BL:=Aside0.mk (blk_drew BL.out)
         replace HB:=Aside0.mk (below_drew1 HB.out)
         obtain ⟨adw,ew,hxw⟩:=Kd.at_string (Kd.R_reads' HH.out.hW).2.2 x7 hi0 hiW
         cases ew
         have tw1:=eq_true hiW
         have tw2:=decide_eq_true hiW
         refine start_ (n:=21) (S:=fun w'=>w'.cell? ⟨gO,1,none⟩ = some (.slice (some adw) s'.W.length cW)∧w'.cell? (adw.add (x7).toNat) = some (.string (rdOf ByteArray.empty s'.W x7))) (ds:=[17,20]) (bl_ 21 0) (by kernel_rfl) rfl (by kernel_rfl) ⟨(blk_cell HH.out.hO 1).trans rfl,hxw⟩ (fun hHeld=>?_)
         refine with_tabW orb_tab18 orb_bits18 (fun HT_ HW_=>?_)
         clear hxw
         generalize wc.drew = wd at HH BL HB hHeld ⊢
         refine pu_ 0 (some 78) (bl_ 21 1) HT_ ?_
         refine pu_ 1 (some 79) (bl_ 21 3) HT_ ?_
         refine pu_ 2 (some 80) (bl_ 21 7) HT_ ?_
         refine pu_ 3 (some 81) (bl_ 21 15) HT_ ?_
         refine ta_ 4 (some 82) (bl_ 21 31) HT_ HW_ hHeld ?_
         refine pu_ 5 (some 83) (bl_ 21 63) HT_ ?_
         refine pu_ 6 (some 84) (bl_ 21 127) HT_ ?_
         refine pu_ 7 (some 85) (bl_ 21 255) HT_ ?_
         refine ta_ 8 (some 86) (bl_ 21 511) HT_ HW_ hHeld ?_
         refine pu_ 9 (some 87) (bl_ 21 1023) HT_ ?_
         refine pu_ 10 (some 88) (bl_ 21 2047) HT_ ?_
         refine ta_ 11 (some 89) (bl_ 21 4095) HT_ HW_ hHeld ?_
         refine pu_ 12 (some 90) (bl_ 21 8191) HT_ ?_
         refine on_ 13 (some 91) (bl_ 21 16383) HT_ (fun K hK=>?_)
         refine Kd.R_lit_step (Kd.int .u8) _ 5 ?hg (N:=91) ?hd (xs:=([83]:List Int)) (inner:=[.int .u8 83]) (ok:=fun _=>True) (okp:=fun _=>True) ?hr ?hp (fun _ hk=>hk) trivial (Below.refl _ _) (Nat.le_refl _) (by simp) ?_;(case hd=>rfl);(case hg=>rfl);(case hr=>first | (go_simp;done) | (go_simp;rfl));(case hp=>exact (Reps.one (show Kd.M (Kd.int .u8) _ _ _ 83 [.int .u8 83] from rfl) (Reps.none _ _)))
         intro vq we hoq hb hg_ hnew_
         have hS1_:=(hb.cell (World.block_lt_of_cell? _ _ hHeld.1)).trans hHeld.1
         have hS2_:=(hb.cell (World.block_lt_of_cell? _ _ hHeld.2)).trans hHeld.2
         replace HH:=Aside0.mk (HH.out.below hb)
         replace BL:=bb_ BL hb
         replace HB:=b1_ hb
         have HOq:=Aside0.mk hoq
         clear hg_ hnew_ hb hoq
         refine hK.out _ _ ⟨hS1_,hS2_⟩ (fun hHeld=>?_)
         clear hK K hS1_ hS2_
         refine no_ (some 91) ?_
         refine on_ 14 (some 92) (bl_ 21 32767) HT_ (fun K hK=>?_)
         have hcv47:=own_string (P:=Try.prog) Try.underlying22 Try.underlying5 Try.underlying9 (Kd.own_of_R HOq.out)
         refine value_ (w1:=?_) (v:=?_) (by rfl) rfl ?_ ?_
         rotate_left 2
         ·go_simp
          constructor
          ·rfl
          ·rfl
         clear hcv47 HOq
         refine hK.out _ _ hHeld (fun hHeld=>?_)
         clear hK K
         refine no_ (some 92) ?_
         have hs1_:(strOfNums [(83:Int)]).size = 1:=by decide +kernel
         have tw3:(9223372036854775807 < (rdOf ByteArray.empty s'.W x7).size + (strOfNums [(83:Int)]).size) = False:=eq_false (by rw [hs1_];have:=LS.out;omega)
         clear hs1_
         refine pu_ 15 (some 93) (bl_ 21 65535) HT_ ?_
         clear tw3
         refine on_ 16 (some 94) (bl_ 21 131071) HT_ (fun K hK=>?_)
         refine value_ (w1:=?_) (v:=?_) (by rfl) rfl ?_ ?_
         rotate_left 2
         ·go_simp
          constructor
          ·rfl
          ·rfl
         refine hK.out _ _ ⟨((below_alloc (Below.refl _ _) _).cell (World.block_lt_of_cell? _ _ hHeld.1)).trans hHeld.1,((below_alloc (Below.refl _ _) _).cell (World.block_lt_of_cell? _ _ hHeld.2)).trans hHeld.2⟩ (fun hHeld=>?_)
         clear hK K
         refine no_ (some 94) ?_
         refine last_ (i:=17) (N:=some 95) (bl_ 21 262143) rfl rfl (one_of HT_.out (by kernel_rfl)) (by decide) (fun K hK=>?_)
         refine Kd.R_append_step Kd.string (w0:=w) w.heap.size (by rfl) (.tmp 82) (.tmp 94) 53 9 (.string ⟨#[]⟩) 16 rfl Try.underlying53 info9 rfl (by decide) (by omega) (.slice (some adw) s'.W.length cW) s'.W ((rdOf ByteArray.empty s'.W x7) ++ (strOfNums [83])) [.string ((rdOf ByteArray.empty s'.W x7) ++ (strOfNums [83]))] (fun k_=>rcl we.heap.size colwc 1 k_ = 1) (fun _=>False) rfl rfl rfl (fun _ hk=>hk.elim) (fun k_ hk=>rcl_new hk) (R_col HH.out.hW (fun k_ hk=>rcl_old hk)) HB.out HB.out.size (by have:=LN.out;omega) ?_
         intro v2 wf ho hb hg hat
         obtain ⟨An2,cn2,en2⟩:=Kd.R_slice ho
         subst en2
         have HO19:=(B_gr HH.out.hO HH.out.cO hg HH.out.hW.1 (by decide)).1
         have HC3:=Aside0.mk (B_gr BL.out HC.out hg HH.out.hW.1 (by decide))
         have HP:=HH.out.putW hg ho
         have HB2:=Aside0.mk hb
         refine hK.out _ _ ?_
         clear hK K ho hb hg hat
         refine no_ (some 95) ?_
         refine pu_ 18 (some 96) (bl_ 21 524287) HT_ ?_
         refine pu_ 19 (some 97) (bl_ 21 1048575) HT_ ?_
         refine last_ (i:=20) (N:=none) (bl_ 21 2097151) rfl rfl (one_of HT_.out (by kernel_rfl)) (by decide) (fun K hK=>?_)
         have hs19:wf.cell? ⟨gO,1,none⟩ = some (.slice (some adw) s'.W.length cW):=(blk_cell HO19 1).trans rfl
         have hf19:=blk_frozen HO19 1
         refine skip_ (w1:=wf.setCell ⟨gO,1,none⟩ (.slice An2 (s'.W ++ [(rdOf ByteArray.empty s'.W x7) ++ (strOfNums [83])]).length cn2)) (by rfl) rfl ?_ ?_
         ·go_simp
         refine hK.out _ _ ?_
         clear hK K hs19 hf19
         refine done_ (done_of HT_.out (by kernel_rfl)) ?_
         have hne_:gl≠gO:=fun e=>by have a1:=HC3.out.2;have a2:=HP.cO;rw [e] at a1;omega
         have HB3:=Aside0.mk (below_set (g:=gO) (j:=1) (v:=(.slice An2 (s'.W ++ [(rdOf ByteArray.empty s'.W x7) ++ (strOfNums [83])]).length cn2)) HB2.out HP.bO)
         have BL2:=Aside0.mk (put_far HC3.out.1 hne_ 1 (.slice An2 (s'.W ++ [(rdOf ByteArray.empty s'.W x7) ++ (strOfNums [83])]).length cn2))
         have HCN:=HC3.out.2
         clear HH BL HB HC HC3 HB2 HO19
         generalize hwc:wf.setCell ⟨gO,1,none⟩ (.slice An2 (s'.W ++ [(rdOf ByteArray.empty s'.W x7) ++ (strOfNums [83])]).length cn2) = wg at HP HB3 BL2 ⊢
         clear hwc
         obtain ⟨colwg,hh_,hc_⟩:∃ c_,OrbH w.heap.size c_ wg gO gM n' _ _ _ _ _ _ _∧c_ gl = 8:=⟨_,HP,HCN⟩
         have HH:=Aside0.mk hh_;have HC:=Aside0.mk hc_;have BL:=BL2;have HB:=HB3
         clear hh_ hc_ BL2 HB3 HP HCN hne_
         obtain ⟨AF,cF,eF⟩:=Kd.R_slice HH.out.hF
         subst eF
         go_upto_region 19 with (fail)
         have hco_:wg.cell? ⟨gO,2,none⟩ = some (.slice AF s'.F.length cF):=(blk_cell HH.out.hO 2).trans rfl
         have hfo_:=blk_frozen HH.out.hO 2
         go_upto_region 20 with (first | ((with_reducible refine gate_builtin (b:=.append) (xs:=#[.tmp 102,.tmp 104]) rfl ?_);at_builtin;refine Kd.R_append (Kd.int .i64) (w0:=w) w.heap.size rfl (.tmp 102) (.tmp 104) 23 3 (.int .i64 0) 8 rfl Try.underlying23 info3 rfl (by decide) (by omega) (.slice AF s'.F.length cF) s'.F (x7) [.int .i64 (x7)] (fun k_=>rcl wg.heap.size colwg 2 k_ = 2) (fun _=>False) rfl rfl rfl (fun _ hk=>hk.elim) (fun k_ hk=>rcl_new hk) (R_col HH.out.hF (fun k_ hk=>rcl_old hk)) HB.out HB.out.size (by have:=LN.out;omega) ?_;intro v3 wh ho hb hg hat;obtain ⟨Anv3,cnv3,env3⟩:=Kd.R_slice ho;subst env3;rw [List.length_append,List.length_singleton] at ho;have HO19:=(B_gr HH.out.hO HH.out.cO hg HH.out.hF.1 (by decide)).1;have HC3:=Aside0.mk (B_gr BL.out HC.out hg HH.out.hF.1 (by decide));have HP:=HH.out.putF hg ho;have HB2:=Aside0.mk hb;clear ho hb hg hat hco_ hfo_;have hs19:wh.cell? ⟨gO,2,none⟩ = some (.slice AF s'.F.length cF):=(blk_cell HO19 2).trans rfl;have hf19:=blk_frozen HO19 2))
         clear hs19 hf19
         have hne_:gl≠gO:=fun e=>by have a1:=HC3.out.2;have a2:=HP.cO;rw [e] at a1;omega
         have HB3:=Aside0.mk (below_set (g:=gO) (j:=2) (v:=(.slice Anv3 (s'.F.length + 1) cnv3)) HB2.out HP.bO)
         have BL2:=Aside0.mk (put_far HC3.out.1 hne_ 2 (.slice Anv3 (s'.F.length + 1) cnv3))
         have HCN:=HC3.out.2
         clear HH BL HB HC HC3 HB2 HO19
         generalize hwc:wh.setCell ⟨gO,2,none⟩ (.slice Anv3 (s'.F.length + 1) cnv3) = wi at HP HB3 BL2 ⊢
         clear hwc
         obtain ⟨colwi,hh_,hc_⟩:∃ c_,OrbH w.heap.size c_ wi gO gM n' _ _ _ _ _ _ _∧c_ gl = 8:=⟨_,HP,HCN⟩
         have HH:=Aside0.mk hh_;have HC:=Aside0.mk hc_;have BL:=BL2;have HB:=HB3
         clear hh_ hc_ BL2 HB3 HP HCN hne_
         obtain ⟨AB,cB,eB⟩:=Kd.R_slice HH.out.hB
         subst eB
         have hco_:wi.cell? ⟨gO,3,none⟩ = some (.slice AB s'.B.length cB):=(blk_cell HH.out.hO 3).trans rfl
         have hfo_:=blk_frozen HH.out.hO 3
         go_upto_region 21 with (first | ((with_reducible refine gate_builtin (b:=.append) (xs:=#[.tmp 112,.tmp 114]) rfl ?_);at_builtin;refine Kd.R_append (Kd.int .u8) (w0:=w) w.heap.size rfl (.tmp 112) (.tmp 114) 22 5 (.int .u8 0) 1 rfl Try.underlying22 info5 rfl (by decide) (by omega) (.slice AB s'.B.length cB) s'.B (83) [.int .u8 (83)] (fun k_=>rcl wi.heap.size colwi 3 k_ = 3) (fun _=>False) rfl rfl rfl (fun _ hk=>hk.elim) (fun k_ hk=>rcl_new hk) (R_col HH.out.hB (fun k_ hk=>rcl_old hk)) HB.out HB.out.size (by have:=LN.out;omega) ?_;intro v4 wj ho hb hg hat;obtain ⟨Anv4,cnv4,env4⟩:=Kd.R_slice ho;subst env4;rw [List.length_append,List.length_singleton] at ho;have HO19:=(B_gr HH.out.hO HH.out.cO hg HH.out.hB.1 (by decide)).1;have HC3:=Aside0.mk (B_gr BL.out HC.out hg HH.out.hB.1 (by decide));have HP:=HH.out.putB hg ho;have HB2:=Aside0.mk hb;clear ho hb hg hat hco_ hfo_;have hs19:wj.cell? ⟨gO,3,none⟩ = some (.slice AB s'.B.length cB):=(blk_cell HO19 3).trans rfl;have hf19:=blk_frozen HO19 3))
         clear hs19 hf19
         have hne_:gl≠gO:=fun e=>by have a1:=HC3.out.2;have a2:=HP.cO;rw [e] at a1;omega
         have HB3:=Aside0.mk (below_set (g:=gO) (j:=3) (v:=(.slice Anv4 (s'.B.length + 1) cnv4)) HB2.out HP.bO)
         have BL2:=Aside0.mk (put_far HC3.out.1 hne_ 3 (.slice Anv4 (s'.B.length + 1) cnv4))
         have HCN:=HC3.out.2
         clear HH BL HB HC HC3 HB2 HO19
         generalize hwc:wj.setCell ⟨gO,3,none⟩ (.slice Anv4 (s'.B.length + 1) cnv4) = wk at HP HB3 BL2 ⊢
         clear hwc
         obtain ⟨colwk,hh_,hc_⟩:∃ c_,OrbH w.heap.size c_ wk gO gM n' _ _ _ _ _ _ _∧c_ gl = 8:=⟨_,HP,HCN⟩
         have HH:=Aside0.mk hh_;have HC:=Aside0.mk hc_;have BL:=BL2;have HB:=HB3
         clear hh_ hc_ BL2 HB3 HP HCN hne_
         generalize hcc:colwk = colc at HH HC
         clear hcc
         go_upto_region 21 with (fail)
         replace HH:=Aside0.mk (HH.out.below (below_drew1 (Below.refl _ _)))
         replace BL:=Aside0.mk (blk_drew BL.out)
         replace HB:=Aside0.mk (below_drew1 HB.out)
         refine start_ (n:=15) (S:=fun w'=>w'.cell? ⟨gO,4,none⟩ = some (.map (some gM))∧w'.heap[gM]? = some (mapO n' vT' vS')) (ds:=[14]) (bl_ 15 0) (by kernel_rfl) rfl (by kernel_rfl) ⟨(blk_cell HH.out.hO 4).trans rfl,HH.out.hM⟩ (fun hHeld=>?_)
         refine with_tabW orb_tab21 orb_bits21 (fun HT_ HW_=>?_)
         generalize wk.drew = wl at HH BL HB hHeld ⊢
         refine pu_ 0 (some 118) (bl_ 15 1) HT_ ?_
         refine pu_ 1 (some 119) (bl_ 15 3) HT_ ?_
         refine pu_ 2 (some 120) (bl_ 15 7) HT_ ?_
         refine ta_ 3 (some 121) (bl_ 15 15) HT_ HW_ hHeld ?_
         refine pu_ 4 (some 122) (bl_ 15 31) HT_ ?_
         refine pu_ 5 (some 123) (bl_ 15 63) HT_ ?_
         refine pu_ 6 (some 124) (bl_ 15 127) HT_ ?_
         refine pu_ 7 (some 125) (bl_ 15 255) HT_ ?_
         refine ta_ 8 (some 126) (bl_ 15 511) HT_ HW_ hHeld ?_
         refine pu_ 9 (some 127) (bl_ 15 1023) HT_ ?_
         have hlk:∀ w',w'.heap[gM]? = some (mapO n' vT' vS')→(Instr.lookup 67 (.map (some gM)) (.int .u8 83) false).run Try.prog w' = .ok vS' w':=fun w' h_=>by
          have hn:=hn0.out
          have:=look_S h_ (by omega)
          rw [HH.out.look.2] at this
          exact this
         refine ta_ 10 (some 128) (v:=vS') (bl_ 15 2047) HT_ HW_ hHeld ?_ (hy:=Or.inl ⟨by rfl,fun w' hs_=>?_⟩)
         rotate_left
         ·have hq:=hlk w' hs_.2
          go_simp
         clear hlk
         refine pu_ 11 (some 129) (bl_ 15 4095) HT_ ?_
         refine on_ 12 (some 130) (bl_ 15 8191) HT_ (fun K hK=>?_)
         refine value_ (w1:=?_) (v:=?_) (by rfl) rfl ?_ ?_
         rotate_left 2
         ·go_simp
          constructor
          ·rfl
          ·rfl
         refine hK.out _ _ ⟨((below_alloc (Below.refl _ _) _).cell (World.block_lt_of_cell? _ _ hHeld.1)).trans hHeld.1,blk_alloc hHeld.2 _⟩ (fun hHeld=>?_)
         clear hK K
         refine no_ (some 130) ?_
         refine on_ 13 (some 131) (bl_ 15 16383) HT_ (fun K hK=>?_)
         refine Kd.R_append_step (Kd.int .i64) (w0:=w) w.heap.size (by rfl) (.tmp 128) (.tmp 130) 23 3 (.int .i64 0) 8 rfl Try.underlying23 info3 rfl (by decide) (by omega) vS' s'.S ((s'.L.length:Int)) [.int .i64 ((s'.L.length:Int))] (fun k_=>rcl wl.heap.size colc 5 k_ = 5) (fun _=>False) rfl rfl rfl (fun _ hk=>hk.elim) (fun k_ hk=>rcl_new hk) (R_col HH.out.hS (fun k_ hk=>rcl_old hk)) HB.out HB.out.size (by have:=LN.out;omega) ?_
         intro v1 wlb ho hb hg hat
         have HP:=HH.out.putS hn0.out hg ho
         have HM:=Aside0.mk HP.1
         have HO19:=(B_gr HH.out.hO HH.out.cO hg HH.out.hS.1 (by decide)).1
         have HC3:=Aside0.mk (B_gr BL.out HC.out hg HH.out.hS.1 (by decide))
         replace HH:=Aside0.mk HP.2
         clear HP
         have HB2:=Aside0.mk hb
         refine hK.out _ _ ⟨(blk_cell HO19 4).trans rfl,HM.out⟩ (fun hHeld=>?_)
         clear hK K ho hb hg hat HO19
         refine no_ (some 131) ?_
         refine last_ (i:=14) (N:=none) (bl_ 15 32767) rfl rfl (one_of HT_.out (by kernel_rfl)) (by decide) (fun K hK=>?_)
         have hput:(Instr.mapUpdate 67 (.map (some gM)) (.int .u8 83) v1).run Try.prog wlb = .ok () (setMap wlb gM 2 vT' v1):=put_S HM.out hn0.out v1
         refine skip_ (w1:=setMap wlb gM 2 vT' v1) (by rfl) rfl ?_ ?_
         ·go_simp
         refine hK.out _ _ ?_
         clear hK K hput
         refine done_ (done_of HT_.out (by kernel_rfl)) ?_
         try go_wp2
         have hgm:gl≠gM:=fun e=>by have a1:=HC3.out.2;have a2:=HH.out.cM;rw [e] at a1;omega
         have BL2:=Aside0.mk ((setMap_far (n:=2) vT' v1 hgm).trans HC3.out.1)
         have HB3:=Aside0.mk (setMap_below (n:=2) vT' v1 HB2.out HH.out.bM)
         go_roundg 0
         case measure=>have:=HG.out;omega
         case rel=>exact ⟨2,2,_,_,_,_,_,_,_,_,(by first | rfl | (simp;done) | (simp [*];done)),⟨by omega⟩,⟨by omega⟩,HT,⟨⟨fun e=>absurd e (by decide),fun e=>absurd e (by decide),fun _=>rfl⟩⟩,⟨HC3.out.2⟩,BL2,HH,HB3⟩
       ·have H:=HS.out
        clear HS
        rw [if_neg hj0] at H
        have hjb:=decide_eq_false hj0
        have hlen:=cp_ H
        replace H:=Option.some.inj (ca_ H)
        subst H
        rw [if_neg (by decide),if_neg (by decide)] at HT
        have LN:=Aside0.mk hlen
        clear hlen SL13 Y0 Y1 BX NE GX
        generalize hcc:rcl w13.heap.size col' 0 = colc at HH HC
        clear hcc
        go_upto_region 21 with (fail)
        replace HH:=Aside0.mk (HH.out.below (below_drew1 (Below.refl _ _)))
        replace BL:=Aside0.mk (blk_drew BL.out)
        replace HB:=Aside0.mk (below_drew1 HB.out)
        refine start_ (n:=15) (S:=fun w'=>w'.cell? ⟨gO,4,none⟩ = some (.map (some gM))∧w'.heap[gM]? = some (mapO n' vT' vS')) (ds:=[14]) (bl_ 15 0) (by kernel_rfl) rfl (by kernel_rfl) ⟨(blk_cell HH.out.hO 4).trans rfl,HH.out.hM⟩ (fun hHeld=>?_)
        refine with_tabW orb_tab21 orb_bits21 (fun HT_ HW_=>?_)
        generalize w17.drew = w18 at HH BL HB hHeld ⊢
        refine pu_ 0 (some 118) (bl_ 15 1) HT_ ?_
        refine pu_ 1 (some 119) (bl_ 15 3) HT_ ?_
        refine pu_ 2 (some 120) (bl_ 15 7) HT_ ?_
        refine ta_ 3 (some 121) (bl_ 15 15) HT_ HW_ hHeld ?_
        refine pu_ 4 (some 122) (bl_ 15 31) HT_ ?_
        refine pu_ 5 (some 123) (bl_ 15 63) HT_ ?_
        refine pu_ 6 (some 124) (bl_ 15 127) HT_ ?_
        refine pu_ 7 (some 125) (bl_ 15 255) HT_ ?_
        refine ta_ 8 (some 126) (bl_ 15 511) HT_ HW_ hHeld ?_
        refine pu_ 9 (some 127) (bl_ 15 1023) HT_ ?_
        have hlk:∀ w',w'.heap[gM]? = some (mapO n' vT' vS')→(Instr.lookup 67 (.map (some gM)) (.int .u8 83) false).run Try.prog w' = .ok vS' w':=fun w' h_=>by
         have hn:=hn0.out
         have:=look_S h_ (by omega)
         rw [HH.out.look.2] at this
         exact this
        refine ta_ 10 (some 128) (v:=vS') (bl_ 15 2047) HT_ HW_ hHeld ?_ (hy:=Or.inl ⟨by rfl,fun w' hs_=>?_⟩)
        rotate_left
        ·have hq:=hlk w' hs_.2
         go_simp
        clear hlk
        refine pu_ 11 (some 129) (bl_ 15 4095) HT_ ?_
        refine on_ 12 (some 130) (bl_ 15 8191) HT_ (fun K hK=>?_)
        refine value_ (w1:=?_) (v:=?_) (by rfl) rfl ?_ ?_
        rotate_left 2
        ·go_simp
         constructor
         ·rfl
         ·rfl
        refine hK.out _ _ ⟨((below_alloc (Below.refl _ _) _).cell (World.block_lt_of_cell? _ _ hHeld.1)).trans hHeld.1,blk_alloc hHeld.2 _⟩ (fun hHeld=>?_)
        clear hK K
        refine no_ (some 130) ?_
        refine on_ 13 (some 131) (bl_ 15 16383) HT_ (fun K hK=>?_)
        refine Kd.R_append_step (Kd.int .i64) (w0:=w) w.heap.size (by rfl) (.tmp 128) (.tmp 130) 23 3 (.int .i64 0) 8 rfl Try.underlying23 info3 rfl (by decide) (by omega) vS' s'.S (j) [.int .i64 (j)] (fun k_=>rcl w18.heap.size colc 5 k_ = 5) (fun _=>False) rfl rfl rfl (fun _ hk=>hk.elim) (fun k_ hk=>rcl_new hk) (R_col HH.out.hS (fun k_ hk=>rcl_old hk)) HB.out HB.out.size (by have:=LN.out;omega) ?_
        intro v1 w18b ho hb hg hat
        have HP:=HH.out.putS hn0.out hg ho
        have HM:=Aside0.mk HP.1
        have HO19:=(B_gr HH.out.hO HH.out.cO hg HH.out.hS.1 (by decide)).1
        have HC3:=Aside0.mk (B_gr BL.out HC.out hg HH.out.hS.1 (by decide))
        replace HH:=Aside0.mk HP.2
        clear HP
        have HB2:=Aside0.mk hb
        refine hK.out _ _ ⟨(blk_cell HO19 4).trans rfl,HM.out⟩ (fun hHeld=>?_)
        clear hK K ho hb hg hat HO19
        refine no_ (some 131) ?_
        refine last_ (i:=14) (N:=none) (bl_ 15 32767) rfl rfl (one_of HT_.out (by kernel_rfl)) (by decide) (fun K hK=>?_)
        have hput:(Instr.mapUpdate 67 (.map (some gM)) (.int .u8 83) v1).run Try.prog w18b = .ok () (setMap w18b gM 2 vT' v1):=put_S HM.out hn0.out v1
        refine skip_ (w1:=setMap w18b gM 2 vT' v1) (by rfl) rfl ?_ ?_
        ·go_simp
        refine hK.out _ _ ?_
        clear hK K hput
        refine done_ (done_of HT_.out (by kernel_rfl)) ?_
        try go_wp2
        have hgm:gl≠gM:=fun e=>by have a1:=HC3.out.2;have a2:=HH.out.cM;rw [e] at a1;omega
        have BL2:=Aside0.mk ((setMap_far (n:=2) vT' v1 hgm).trans HC3.out.1)
        have HB3:=Aside0.mk (setMap_below (n:=2) vT' v1 HB2.out HH.out.bM)
        go_roundg 0
        case measure=>have:=HG.out;omega
        case rel=>exact ⟨2,2,_,_,_,_,_,_,_,_,(by first | rfl | (simp;done) | (simp [*];done)),⟨by omega⟩,⟨by omega⟩,HT,⟨⟨fun e=>absurd e (by decide),fun e=>absurd e (by decide),fun _=>rfl⟩⟩,⟨HC3.out.2⟩,BL2,HH,HB3⟩
     ·have hj2':jj = 2:=by omega
      subst hj2'
      have hn2:=Aside0.mk (HN.out.2.2 rfl)
      have H:=AZ.out
      clear AZ
      change innerO k1 x7 [] s' = some z at H
      simp only [innerO] at H
      obtain rfl:=Option.some.inj H
      clear H
      clear hcl0 hcl1 hfl0 hfl1 hco0 hfo0
      go_wp2
      go_roundg k1
      case measure=>have:=HK.out;omega
      case rel=>exact ⟨wrap64 (x7 + 1),n',_,_,_,_,_,_,_,s',(by first | rfl | (simp;done) | (simp [*];done)),HR,⟨by have:=HK.out;omega⟩,⟨.inr hn2.out⟩,HH,HB⟩
   ·rw [if_neg hq1] at H
    have c1b:=decide_eq_false hq1
    obtain rfl:=Option.some.inj H
    clear H hq1
    go_wp2
    go_ret2
    exact ⟨gO,gM,n,col,_,_,_,_,_,_,rfl,HH.out,HB.out⟩
theorem orbit_calls (k:Nat) (A0:Option Addr) (c0:Nat) (l0:List Int) (A1:Option Addr) (c1:Nat) (l1:List Int) (R:Option Orb) (w:World) (h0:Kd.C (Kd.int .i64) w A0 l0.length l0) (g0:l0.length≤c0) (h1:Kd.C (Kd.int .i64) w A1 l1.length l1) (g1:l1.length≤c1) (h:orbitO k l0 l1 = some R) :
  Calls Try.prog 59 #[.agg #[.slice A0 l0.length c0,.slice A1 l1.length c1]] w fun e w'=>OrbPost w w' e R:=by
 unfold orbitO at h
 obtain ⟨⟨y1,y2,yb⟩,a,h⟩:=Option.bind_eq_some_iff.mp h
 cases yb with
 | false =>
  have e:none = R:=Option.some.inj h
  subst e
  exact orbit_no k A0 c0 l0 A1 c1 l1 y1 y2 w h0 g0 h1 g1 a
 | true=>exact orbit_yes k A0 c0 l0 A1 c1 l1 y1 y2 R w h0 g0 h1 g1 a h
end Go.Proofs.Ytcggfjpnfodbaaa.M
end
section
/- Finding the orbit: more rounds give the same answer. No conditions. -/
namespace Go.Proofs.Ytcggfjpnfodbaaa.M
set_option linter.unusedVariables false
set_option linter.unusedSimpArgs false
open Go Go.RowKit Go.Proofs.YtcggfjpnfodbaaaW.PrintWords Go.Proofs.YtcggfjpnfodbaaaW.PrintLast Go.Proofs.YtcggfjpnfodbaaaW.PrintMore Go.Proofs.Ytcggfjpnfodbaaa.A
theorem idxS_mono (k:Nat) (r u:List Int):∀ (l:List S25) (i:Nat),LeO (idxS k r u l i) (idxS (k + 1) r u l i):=by
 intro l
 induction l with
 | nil=>intro i;exact LeO.refl _
 | cons x l ih =>
  intro i
  unfold idxS
  refine LeO.bind (Z16.mono _ _ _ _ _) (fun b=>LeO.ite (LeO.refl _) (ih _))
theorem indexO_mono (k:Nat) (l:List S25) (r u:List Int):LeO (indexO k l r u) (indexO (k + 1) l r u):=by
 unfold indexO
 exact LeO.ite (idxS_mono _ _ _ _ _) (LeO.refl _)
theorem stpO_mono (k:Nat) (i c:Int) (s:Orb):LeO (stpO k i c s) (stpO (k + 1) i c s):=by
 unfold stpO
 refine LeO.ite (LeO.ite (LeO.bind (Z8.mono _ _ _ _) (fun x=>LeO.bind (Z50.mono _ _ _) (fun y=>LeO.bind (indexO_mono _ _ _ _) (fun j=>LeO.refl _)))) (LeO.refl _)) (LeO.refl _)
theorem innerO_mono (k:Nat) (i:Int):∀ (cs:List Int) (s:Orb),LeO (innerO k i cs s) (innerO (k + 1) i cs s):=by
 intro cs
 induction cs with
 | nil=>intro s;exact LeO.refl _
 | cons c cs ih =>
  intro s
  unfold innerO
  refine LeO.bind (stpO_mono _ _ _ _) (fun z=>?_)
  cases z with
  | none=>exact LeO.refl _
  | some s'=>exact ih s'
theorem loopO_mono:∀ (k:Nat) (s:Orb) (i:Int),LeO (loopO k s i) (loopO (k + 1) s i):=by
 intro k
 induction k with
 | zero=>intro s i;exact LeO.none _
 | succ k ih =>
  intro s i
  rw [loopO,loopO]
  refine LeO.ite (LeO.bind (innerO_mono _ _ _ _) (fun z=>?_)) (LeO.refl _)
  cases z with
  | none=>exact LeO.refl _
  | some s'=>exact ih s' _
theorem orbitO_mono (k:Nat) (r u:List Int):LeO (orbitO k r u) (orbitO (k + 1) r u):=by
 unfold orbitO
 exact LeO.bind (Z50.mono _ _ _) (fun y=>LeO.ite (loopO_mono _ _ _) (LeO.refl _))
end Go.Proofs.Ytcggfjpnfodbaaa.M
end
section
namespace Go.Proofs.Ytcggfjpnfodbaaa.A
open Go.RowKit Go.Proofs.YtcggfjpnfodbaaaW.PrintWords Go.Proofs.YtcggfjpnfodbaaaW.PrintLast Go.Proofs.YtcggfjpnfodbaaaW.PrintMore
attribute [local go_sem] max2_int min2_int max_two min_two max_three min_three max_four min_four
set_option linter.unusedVariables false
set_option linter.unusedSimpArgs false
def Z51.f (k:Nat) (r u:List Int):Option Int:=(M.orbitO k r u).bind fun z=>match z with | none=>some (-1) | some s=>some (s.L.length:Int)
theorem Z51.mono:∀ a0 a1 k,LeO (Z51.f k a0 a1) (Z51.f (k + 1) a0 a1):=by
 intro a0 a1 k
 unfold Z51.f
 exact LeO.bind (M.orbitO_mono _ _ _) (fun z=>LeO.refl _)
set_option maxHeartbeats 8000000 in
set_option maxRecDepth 100000 in
theorem Z51.calls (k:Nat) (A0_0:Option Addr) (c0_0:Nat) (l0_0:List Int) (A0_1:Option Addr) (c0_1:Nat) (l0_1:List Int) (r:Int) (w:World) (hr0_0:Kd.C (Kd.int .i64) w A0_0 l0_0.length l0_0) (hc0_0:l0_0.length≤c0_0) (hr0_1:Kd.C (Kd.int .i64) w A0_1 l0_1.length l0_1) (hc0_1:l0_1.length≤c0_1) (h:Z51.f k l0_0 l0_1 = some r) :
  Calls Try.prog 19 #[.agg #[.slice A0_0 l0_0.length c0_0,.slice A0_1 l0_1.length c0_1]] w fun e w'=>e = .returned (.int .i64 r)∧Below w.heap.size w w':=by
 have hu:=Try.underlying25
 have HR0_0:=A_ hr0_0;have HC0_0:=A_ hc0_0;clear hr0_0 hc0_0
 have HR0_1:=A_ hr0_1;have HC0_1:=A_ hc0_1;clear hr0_1 hc0_1
 have HB:=A_ (Below.refl w.heap.size w)
 have H:=h
 unfold Z51.f at H
 clear h
 obtain ⟨z,AZ,H⟩:=bi_ H
 cases z with
 | none =>
  obtain rfl:=Option.some.inj H
  go_enter Try.func19,Try.ntmps19
  go_wp2_with (first | ((with_reducible refine gB_ (N:=1) rfl ?_);refine bx_ 1 #[.slice A0_0 l0_0.length c0_0,.slice A0_1 l0_1.length c0_1] 25 ?_;intro gs hg wgs hbox hb;have Bgs:=A_ hbox;replace HB:=b1_ hb;clear hb hbox hg;have hczgs0:=cz0_ Bgs;have hczgs1:=cz1_ Bgs;have hfzgs0:=kD_ Bgs.out 0;have hfzgs1:=kD_ Bgs.out 1) | ((with_reducible refine gA_ (f:=59) rfl ?_);refine gL_ (some 7) Try.func59 #[.agg #[.slice A0_0 l0_0.length c0_0,.slice A0_1 l0_1.length c0_1]] rfl qa_ ?_;(with_reducible refine (M.orbit_calls k _ _ l0_0 _ _ l0_1 none _ (cb_ HR0_0) HC0_0.out (cb_ HR0_1) HC0_1.out AZ.out).mono ?_);rintro e wz ⟨rfl,hb⟩;refine ⟨_,rfl,?_⟩;replace HB:=b1_ hb;clear hb))
  go_ret
  exact ⟨qb_,hB_⟩
 | some s =>
  obtain rfl:=Option.some.inj H
  go_enter Try.func19,Try.ntmps19
  go_wp2_with (first | ((with_reducible refine gB_ (N:=1) rfl ?_);refine bx_ 1 #[.slice A0_0 l0_0.length c0_0,.slice A0_1 l0_1.length c0_1] 25 ?_;intro gs hg wgs hbox hb;have Bgs:=A_ hbox;replace HB:=b1_ hb;clear hb hbox hg;have hczgs0:=cz0_ Bgs;have hczgs1:=cz1_ Bgs;have hfzgs0:=kD_ Bgs.out 0;have hfzgs1:=kD_ Bgs.out 1) | ((with_reducible refine gA_ (f:=59) rfl ?_);refine gL_ (some 7) Try.func59 #[.agg #[.slice A0_0 l0_0.length c0_0,.slice A0_1 l0_1.length c0_1]] rfl qa_ ?_;(with_reducible refine (M.orbit_calls k _ _ l0_0 _ _ l0_1 (some s) _ (cb_ HR0_0) HC0_0.out (cb_ HR0_1) HC0_1.out AZ.out).mono ?_);rintro e wz ⟨gO,gM,nm_,col,vL,vW,vF,vB,vT,vS,rfl,hh,hb⟩;refine ⟨_,rfl,?_⟩;replace HB:=b1_ hb;have HH:=A_ hh;clear hb hh;obtain ⟨AL,cL,eL⟩:=Kd.S_slice HH.out.hL;subst eL;obtain ⟨AW,cW,eW⟩:=Kd.R_slice HH.out.hW;subst eW;have hco0:wz.cell? ⟨gO,0,none⟩ = some (.slice AL s.L.length cL):=(blk_cell HH.out.hO 0).trans rfl;have hco1:wz.cell? ⟨gO,1,none⟩ = some (.slice AW s.W.length cW):=(blk_cell HH.out.hO 1).trans rfl;have hfo0:=kD_ HH.out.hO 0;have hfo1:=kD_ HH.out.hO 1))
  go_ret
  exact ⟨qb_,hB_⟩
def Z5.f (k:Nat) (l0_0:List Int) (l0_1:List Int) (l1_0:List Int) (l1_1:List Int):Option (Bool):=(Z50.f k l0_0 l0_1).bind fun bt568=>((Z50.f k l1_0 l1_1).bind fun bt576=>(if bt568.2.2 = true then (if bt576.2.2 = true then ((Z16.f k bt568.1 bt568.2.1 bt576.1 bt576.2.1).bind fun t584=>(some t584)) else (some false)) else (some false)))
theorem Z5.mono:∀ a0 a1 a2 a3 k,LeO (Z5.f k a0 a1 a2 a3) (Z5.f (k + 1) a0 a1 a2 a3):=by
 intro a0 a1 a2 a3 k
 unfold Z5.f
 repeat' first|exact Z50.mono _ _ _|exact Z16.mono _ _ _ _ _|exact lo_|refine LeO.ite ?_ ?_|refine LeO.bind ?_ (fun _=>?_)
set_option maxHeartbeats 8000000 in
set_option maxRecDepth 100000 in
theorem Z5.calls (k:Nat) (A0_0:Option Addr) (c0_0:Nat) (l0_0:List Int) (A0_1:Option Addr) (c0_1:Nat) (l0_1:List Int) (A1_0:Option Addr) (c1_0:Nat) (l1_0:List Int) (A1_1:Option Addr) (c1_1:Nat) (l1_1:List Int) (r:Bool) (w:World) (hr0_0:Kd.C (Kd.int .i64) w A0_0 l0_0.length l0_0) (hc0_0:l0_0.length≤c0_0) (hr0_1:Kd.C (Kd.int .i64) w A0_1 l0_1.length l0_1) (hc0_1:l0_1.length≤c0_1) (hr1_0:Kd.C (Kd.int .i64) w A1_0 l1_0.length l1_0) (hc1_0:l1_0.length≤c1_0) (hr1_1:Kd.C (Kd.int .i64) w A1_1 l1_1.length l1_1) (hc1_1:l1_1.length≤c1_1) (h:Z5.f k l0_0 l0_1 l1_0 l1_1 = some r) :
  Calls Try.prog 21 #[.agg #[.slice A0_0 l0_0.length c0_0,.slice A0_1 l0_1.length c0_1],.agg #[.slice A1_0 l1_0.length c1_0,.slice A1_1 l1_1.length c1_1]] w fun e w'=>e = .returned (.bool r)∧Below w.heap.size w w':=by
 have hu25:=Try.underlying25
 have HR0_0:=A_ hr0_0
 have HC0_0:=A_ hc0_0
 clear hr0_0 hc0_0
 have HR0_1:=A_ hr0_1
 have HC0_1:=A_ hc0_1
 clear hr0_1 hc0_1
 have HR1_0:=A_ hr1_0
 have HC1_0:=A_ hc1_0
 clear hr1_0 hc1_0
 have HR1_1:=A_ hr1_1
 have HC1_1:=A_ hc1_1
 clear hr1_1 hc1_1
 have HB:=A_ (Below.refl w.heap.size w)
 have H:=h
 unfold Z5.f at H
 clear h
 obtain ⟨⟨t568,t571,t574⟩,A3,H⟩:=bi_ H
 try dsimp only at H
 obtain ⟨⟨t576,t579,t582⟩,A4,H⟩:=bi_ H
 try dsimp only at H
 by_cases c5:t574 = true
 ·subst c5
  rw [if_pos rfl] at H
  by_cases c6:t582 = true
  ·subst c6
   rw [if_pos rfl] at H
   obtain ⟨t584,A7,H⟩:=bi_ H
   obtain rfl:=Option.some.inj H
   go_enter Try.func21,Try.ntmps21
   go_wp2_with (first | ((with_reducible refine gB_ (N:=2) rfl ?_);refine bx_ 2 #[.slice A0_0 l0_0.length c0_0,.slice A0_1 l0_1.length c0_1] 25 ?_;intro gb566 hg w8 hbox hb;have BK566:=A_ hbox;have GW566:=gw_ w hg;have GE566:=GW566;replace HB:=b1_ hb;clear hb hbox hg) | ((with_reducible refine gB_ (N:=3) rfl ?_);refine bx_ 3 #[.slice A1_0 l1_0.length c1_0,.slice A1_1 l1_1.length c1_1] 25 ?_;intro gb567 hg w9 hbox hb;have BK567:=A_ hbox;have GW567:=gw_ w hg;have GE567:=GW567;replace HB:=b1_ hb;have NB566_567:=gN_ BK566 hg;have NB567_566:=gP_ BK566 hg;replace BK566:=bb_ BK566 hb;clear hb hbox hg;have hnb10:=NB566_567.out;have hnc10:=NB567_566.out;obtain ⟨hcz11_0,hcz11_1,hfz11_0,hfz11_1⟩:=c2_ BK566) | ((with_reducible refine gA_ (f:=28) rfl ?_);refine gL_ (some 11) Try.func28 #[.agg #[.slice A0_0 l0_0.length c0_0,.slice A0_1 l0_1.length c0_1]] rfl qa_ ?_;(with_reducible refine (Z50.calls k _ _ l0_0 _ _ l0_1 t568 t571 true _ (cb_ HR0_0) HC0_0.out (cb_ HR0_1) HC0_1.out A3.out).mono ?_);rintro e w12 ⟨v569,v572,rfl,ho0,ho1,hb⟩;refine ⟨_,rfl,?_⟩;have HO570:=rl_ w ho0;have HO573:=rl_ w ho1;replace BK566:=bb_ BK566 hb;replace BK567:=bb_ BK567 hb;replace HB:=b1_ hb;clear hb ho0 ho1) | ((with_reducible refine gB_ (N:=5) rfl ?_);refine bx_ 5 #[.slice none 0 0,.slice none 0 0] 25 ?_;intro gb575 hg w13 hbox hb;replace HO570:=rb_ HO570 hb;replace HO573:=rb_ HO573 hb;have BK575:=A_ hbox;have GW575:=gw_ w hg;have GE575:=GW575;replace HB:=b1_ hb;have NB566_575:=gN_ BK566 hg;have NB575_566:=gP_ BK566 hg;replace BK566:=bb_ BK566 hb;have NB567_575:=gN_ BK567 hg;have NB575_567:=gP_ BK567 hg;replace BK567:=bb_ BK567 hb;clear hb hbox hg;obtain ⟨Ao14,co14,eo14⟩:=Kd.R_slice HO570.out;subst eo14;have hnb15:=NB575_566.out;have hnc15:=NB566_575.out;have hnb16:=NB575_567.out;have hnc16:=NB567_575.out;obtain ⟨hcz17_0,hcz17_1,hfz17_0,hfz17_1⟩:=c2_ BK575;obtain ⟨Ao18,co18,eo18⟩:=Kd.R_slice HO573.out;subst eo18;obtain ⟨hcz19_0,hcz19_1,hfz19_0,hfz19_1⟩:=c2_ BK567) | ((with_reducible refine gA_ (f:=28) rfl ?_);refine gL_ (some 16) Try.func28 #[.agg #[.slice A1_0 l1_0.length c1_0,.slice A1_1 l1_1.length c1_1]] rfl qa_ ?_;(with_reducible refine (Z50.calls k _ _ l1_0 _ _ l1_1 t576 t579 true _ (cD_ HR1_0.out hB_) HC1_0.out (cD_ HR1_1.out hB_) HC1_1.out A4.out).mono ?_);rintro e w20 ⟨v577,v580,rfl,ho0,ho1,hb⟩;refine ⟨_,rfl,?_⟩;have HO578:=A_ (rE_ (Kd.R_new' (Kd.R_new' ho0 (Kd.R_lt (rw_ (fa_ HO570 BK575)))) (Kd.R_lt (rw_ (fa_ HO573 BK575)))) (bF_ hB_));have HO581:=A_ (rE_ (Kd.R_new' (Kd.R_new' ho1 (Kd.R_lt (rw_ (fa_ HO570 BK575)))) (Kd.R_lt (rw_ (fa_ HO573 BK575)))) (bF_ hB_));replace HO570:=A_ (Kd.R_mono (Kd.R_told (Kd.R_told (Kd.R_old (rw_ (fa_ HO570 BK575)) hb) (Kd.R_base ho0)) (Kd.R_base ho1)) (fun _ h_=>h_.1));replace HO573:=A_ (Kd.R_mono (Kd.R_told (Kd.R_told (Kd.R_old (rw_ (fa_ HO573 BK575)) hb) (Kd.R_base ho0)) (Kd.R_base ho1)) (fun _ h_=>h_.1));replace BK566:=A_ (kE_ (g:=gb566) (o:=.cells #[.slice A0_0 l0_0.length c0_0,.slice A0_1 l0_1.length c0_1] 25 (0,0)) (by (with_reducible repeat (first | refine kA_ ?_ _ | refine kB_ ?_ | refine kC_ ?_ _));refine blk_far ?_ NB566_575.out _;(with_reducible repeat (first | refine kA_ ?_ _ | refine kB_ ?_ | refine kC_ ?_ _));refine blk_far ?_ NB566_575.out _;(with_reducible repeat (first | refine kA_ ?_ _ | refine kB_ ?_ | refine kC_ ?_ _));exact BK566.out) hb);replace BK567:=A_ (kE_ (g:=gb567) (o:=.cells #[.slice A1_0 l1_0.length c1_0,.slice A1_1 l1_1.length c1_1] 25 (0,0)) (by (with_reducible repeat (first | refine kA_ ?_ _ | refine kB_ ?_ | refine kC_ ?_ _));refine blk_far ?_ NB567_575.out _;(with_reducible repeat (first | refine kA_ ?_ _ | refine kB_ ?_ | refine kC_ ?_ _));refine blk_far ?_ NB567_575.out _;(with_reducible repeat (first | refine kA_ ?_ _ | refine kB_ ?_ | refine kC_ ?_ _));exact BK567.out) hb);replace BK575:=A_ (kE_ (g:=gb575) (o:=.cells #[.slice Ao14 t568.length co14,.slice Ao18 t571.length co18] 25 (0,0)) qp_ hb);replace HB:=b1_ hb;clear hb ho0 ho1) | ((with_reducible refine gB_ (N:=7) rfl ?_);refine bx_ 7 #[.slice none 0 0,.slice none 0 0] 25 ?_;intro gb583 hg w21 hbox hb;replace HO570:=rb_ HO570 hb;replace HO573:=rb_ HO573 hb;replace HO578:=rb_ HO578 hb;replace HO581:=rb_ HO581 hb;have BK583:=A_ hbox;have GW583:=gw_ w hg;have GE583:=GW583;replace HB:=b1_ hb;have NB566_583:=gN_ BK566 hg;have NB583_566:=gP_ BK566 hg;replace BK566:=bb_ BK566 hb;have NB567_583:=gN_ BK567 hg;have NB583_567:=gP_ BK567 hg;replace BK567:=bb_ BK567 hb;have NB575_583:=gN_ BK575 hg;have NB583_575:=gP_ BK575 hg;replace BK575:=bb_ BK575 hb;clear hb hbox hg;obtain ⟨Ao22,co22,eo22⟩:=Kd.R_slice HO578.out;subst eo22;have hnb23:=NB583_566.out;have hnc23:=NB566_583.out;have hnb24:=NB583_567.out;have hnc24:=NB567_583.out;have hnb25:=NB583_575.out;have hnc25:=NB575_583.out;obtain ⟨hcz26_0,hcz26_1,hfz26_0,hfz26_1⟩:=c2_ BK583;obtain ⟨Ao27,co27,eo27⟩:=Kd.R_slice HO581.out;subst eo27;obtain ⟨hcz28_0,hcz28_1,hfz28_0,hfz28_1⟩:=c2_ BK575) | (go_at_call 29;(with_reducible refine (Z16.calls k _ _ t568 _ _ t571 _ _ t576 _ _ t579 t584 _ ?side1 ?side2 ?side3 ?side4 ?side5 ?side6 ?side7 ?side8 A7.out).mono ?_);(case side1=>refine (Kd.R_reads' (e:=3) (base:=w.heap.size) (ok:=fun k_=>((some k_≠(.slice Ao18 t571.length co18:Value).ownBlock∧some k_≠(.slice Ao22 t576.length co22:Value).ownBlock)∧some k_≠(.slice Ao27 t579.length co27:Value).ownBlock)) (n:=t568.length) (c:=co14) ?_).2.2;exact (rw_ (fa_ HO570 BK583)));(case side2=>exact (Kd.R_reads' HO570.out).2.1);(case side3=>refine (Kd.R_reads' (e:=3) (base:=w.heap.size) (ok:=fun k_=>((some k_≠(.slice Ao14 t568.length co14:Value).ownBlock∧some k_≠(.slice Ao22 t576.length co22:Value).ownBlock)∧some k_≠(.slice Ao27 t579.length co27:Value).ownBlock)) (n:=t571.length) (c:=co18) ?_).2.2;exact (rw_ (fa_ HO573 BK583)));(case side4=>exact (Kd.R_reads' HO573.out).2.1);(case side5=>refine (Kd.R_reads' (e:=3) (base:=w.heap.size) (ok:=fun k_=>((some k_≠(.slice Ao27 t579.length co27:Value).ownBlock∧some k_≠(.slice Ao14 t568.length co14:Value).ownBlock)∧some k_≠(.slice Ao18 t571.length co18:Value).ownBlock)) (n:=t576.length) (c:=co22) ?_).2.2;exact (rw_ (fa_ HO578 BK583)));(case side6=>exact (Kd.R_reads' HO578.out).2.1);(case side7=>refine (Kd.R_reads' (e:=3) (base:=w.heap.size) (ok:=fun k_=>((some k_≠(.slice Ao22 t576.length co22:Value).ownBlock∧some k_≠(.slice Ao14 t568.length co14:Value).ownBlock)∧some k_≠(.slice Ao18 t571.length co18:Value).ownBlock)) (n:=t579.length) (c:=co27) ?_).2.2;exact (rw_ (fa_ HO581 BK583)));(case side8=>exact (Kd.R_reads' HO581.out).2.1);rintro e w29 ⟨rfl,hb⟩;replace HO570:=A_ (rD_ (rw_ (fa_ HO570 BK583)) hb);replace HO573:=A_ (rD_ (rw_ (fa_ HO573 BK583)) hb);replace HO578:=A_ (rD_ (rw_ (fa_ HO578 BK583)) hb);replace HO581:=A_ (rD_ (rw_ (fa_ HO581 BK583)) hb);replace BK566:=A_ (kE_ (g:=gb566) (o:=.cells #[.slice A0_0 l0_0.length c0_0,.slice A0_1 l0_1.length c0_1] 25 (0,0)) (by (with_reducible repeat (first | refine kA_ ?_ _ | refine kB_ ?_ | refine kC_ ?_ _));refine blk_far ?_ NB566_583.out _;(with_reducible repeat (first | refine kA_ ?_ _ | refine kB_ ?_ | refine kC_ ?_ _));refine blk_far ?_ NB566_583.out _;(with_reducible repeat (first | refine kA_ ?_ _ | refine kB_ ?_ | refine kC_ ?_ _));exact BK566.out) hb);replace BK567:=A_ (kE_ (g:=gb567) (o:=.cells #[.slice A1_0 l1_0.length c1_0,.slice A1_1 l1_1.length c1_1] 25 (0,0)) (by (with_reducible repeat (first | refine kA_ ?_ _ | refine kB_ ?_ | refine kC_ ?_ _));refine blk_far ?_ NB567_583.out _;(with_reducible repeat (first | refine kA_ ?_ _ | refine kB_ ?_ | refine kC_ ?_ _));refine blk_far ?_ NB567_583.out _;(with_reducible repeat (first | refine kA_ ?_ _ | refine kB_ ?_ | refine kC_ ?_ _));exact BK567.out) hb);replace BK575:=A_ (kE_ (g:=gb575) (o:=.cells #[.slice Ao14 t568.length co14,.slice Ao18 t571.length co18] 25 (0,0)) (by (with_reducible repeat (first | refine kA_ ?_ _ | refine kB_ ?_ | refine kC_ ?_ _));refine blk_far ?_ NB575_583.out _;(with_reducible repeat (first | refine kA_ ?_ _ | refine kB_ ?_ | refine kC_ ?_ _));refine blk_far ?_ NB575_583.out _;(with_reducible repeat (first | refine kA_ ?_ _ | refine kB_ ?_ | refine kC_ ?_ _));exact BK575.out) hb);replace BK583:=A_ (kE_ (g:=gb583) (o:=.cells #[.slice Ao22 t576.length co22,.slice Ao27 t579.length co27] 25 (0,0)) qp_ hb);replace HB:=b1_ hb;clear hb))
   go_ret
   exact ⟨qb_,hB_⟩
  ·replace c6:=Bool.eq_false_iff.mpr c6
   subst c6
   have H1:(some false) = some r:=by rw [if_neg (show ¬ (false = true) by decide)] at H;exact H
   clear H
   have H:=H1
   clear H1
   obtain rfl:=Option.some.inj H
   go_enter Try.func21,Try.ntmps21
   go_wp2_with (first | ((with_reducible refine gB_ (N:=2) rfl ?_);refine bx_ 2 #[.slice A0_0 l0_0.length c0_0,.slice A0_1 l0_1.length c0_1] 25 ?_;intro gb566 hg w30 hbox hb;have BK566:=A_ hbox;have GW566:=gw_ w hg;have GE566:=GW566;replace HB:=b1_ hb;clear hb hbox hg) | ((with_reducible refine gB_ (N:=3) rfl ?_);refine bx_ 3 #[.slice A1_0 l1_0.length c1_0,.slice A1_1 l1_1.length c1_1] 25 ?_;intro gb567 hg w31 hbox hb;have BK567:=A_ hbox;have GW567:=gw_ w hg;have GE567:=GW567;replace HB:=b1_ hb;have NB566_567:=gN_ BK566 hg;have NB567_566:=gP_ BK566 hg;replace BK566:=bb_ BK566 hb;clear hb hbox hg;have hnb32:=NB566_567.out;have hnc32:=NB567_566.out;obtain ⟨hcz33_0,hcz33_1,hfz33_0,hfz33_1⟩:=c2_ BK566) | ((with_reducible refine gA_ (f:=28) rfl ?_);refine gL_ (some 11) Try.func28 #[.agg #[.slice A0_0 l0_0.length c0_0,.slice A0_1 l0_1.length c0_1]] rfl qa_ ?_;(with_reducible refine (Z50.calls k _ _ l0_0 _ _ l0_1 t568 t571 true _ (cb_ HR0_0) HC0_0.out (cb_ HR0_1) HC0_1.out A3.out).mono ?_);rintro e w34 ⟨v569,v572,rfl,ho0,ho1,hb⟩;refine ⟨_,rfl,?_⟩;have HO570:=rl_ w ho0;have HO573:=rl_ w ho1;replace BK566:=bb_ BK566 hb;replace BK567:=bb_ BK567 hb;replace HB:=b1_ hb;clear hb ho0 ho1) | ((with_reducible refine gB_ (N:=5) rfl ?_);refine bx_ 5 #[.slice none 0 0,.slice none 0 0] 25 ?_;intro gb575 hg w35 hbox hb;replace HO570:=rb_ HO570 hb;replace HO573:=rb_ HO573 hb;have BK575:=A_ hbox;have GW575:=gw_ w hg;have GE575:=GW575;replace HB:=b1_ hb;have NB566_575:=gN_ BK566 hg;have NB575_566:=gP_ BK566 hg;replace BK566:=bb_ BK566 hb;have NB567_575:=gN_ BK567 hg;have NB575_567:=gP_ BK567 hg;replace BK567:=bb_ BK567 hb;clear hb hbox hg;obtain ⟨Ao36,co36,eo36⟩:=Kd.R_slice HO570.out;subst eo36;have hnb37:=NB575_566.out;have hnc37:=NB566_575.out;have hnb38:=NB575_567.out;have hnc38:=NB567_575.out;obtain ⟨hcz39_0,hcz39_1,hfz39_0,hfz39_1⟩:=c2_ BK575;obtain ⟨Ao40,co40,eo40⟩:=Kd.R_slice HO573.out;subst eo40;obtain ⟨hcz41_0,hcz41_1,hfz41_0,hfz41_1⟩:=c2_ BK567) | ((with_reducible refine gA_ (f:=28) rfl ?_);refine gL_ (some 16) Try.func28 #[.agg #[.slice A1_0 l1_0.length c1_0,.slice A1_1 l1_1.length c1_1]] rfl qa_ ?_;(with_reducible refine (Z50.calls k _ _ l1_0 _ _ l1_1 t576 t579 false _ (cD_ HR1_0.out hB_) HC1_0.out (cD_ HR1_1.out hB_) HC1_1.out A4.out).mono ?_);rintro e w42 ⟨v577,v580,rfl,ho0,ho1,hb⟩;refine ⟨_,rfl,?_⟩;have HO578:=A_ (rE_ (Kd.R_new' (Kd.R_new' ho0 (Kd.R_lt (rw_ (fa_ HO570 BK575)))) (Kd.R_lt (rw_ (fa_ HO573 BK575)))) (bF_ hB_));have HO581:=A_ (rE_ (Kd.R_new' (Kd.R_new' ho1 (Kd.R_lt (rw_ (fa_ HO570 BK575)))) (Kd.R_lt (rw_ (fa_ HO573 BK575)))) (bF_ hB_));replace HO570:=A_ (Kd.R_mono (Kd.R_told (Kd.R_told (Kd.R_old (rw_ (fa_ HO570 BK575)) hb) (Kd.R_base ho0)) (Kd.R_base ho1)) (fun _ h_=>h_.1));replace HO573:=A_ (Kd.R_mono (Kd.R_told (Kd.R_told (Kd.R_old (rw_ (fa_ HO573 BK575)) hb) (Kd.R_base ho0)) (Kd.R_base ho1)) (fun _ h_=>h_.1));replace BK566:=A_ (kE_ (g:=gb566) (o:=.cells #[.slice A0_0 l0_0.length c0_0,.slice A0_1 l0_1.length c0_1] 25 (0,0)) (by (with_reducible repeat (first | refine kA_ ?_ _ | refine kB_ ?_ | refine kC_ ?_ _));refine blk_far ?_ NB566_575.out _;(with_reducible repeat (first | refine kA_ ?_ _ | refine kB_ ?_ | refine kC_ ?_ _));refine blk_far ?_ NB566_575.out _;(with_reducible repeat (first | refine kA_ ?_ _ | refine kB_ ?_ | refine kC_ ?_ _));exact BK566.out) hb);replace BK567:=A_ (kE_ (g:=gb567) (o:=.cells #[.slice A1_0 l1_0.length c1_0,.slice A1_1 l1_1.length c1_1] 25 (0,0)) (by (with_reducible repeat (first | refine kA_ ?_ _ | refine kB_ ?_ | refine kC_ ?_ _));refine blk_far ?_ NB567_575.out _;(with_reducible repeat (first | refine kA_ ?_ _ | refine kB_ ?_ | refine kC_ ?_ _));refine blk_far ?_ NB567_575.out _;(with_reducible repeat (first | refine kA_ ?_ _ | refine kB_ ?_ | refine kC_ ?_ _));exact BK567.out) hb);replace BK575:=A_ (kE_ (g:=gb575) (o:=.cells #[.slice Ao36 t568.length co36,.slice Ao40 t571.length co40] 25 (0,0)) qp_ hb);replace HB:=b1_ hb;clear hb ho0 ho1) | ((with_reducible refine gB_ (N:=7) rfl ?_);refine bx_ 7 #[.slice none 0 0,.slice none 0 0] 25 ?_;intro gb583 hg w43 hbox hb;replace HO570:=rb_ HO570 hb;replace HO573:=rb_ HO573 hb;replace HO578:=rb_ HO578 hb;replace HO581:=rb_ HO581 hb;have BK583:=A_ hbox;have GW583:=gw_ w hg;have GE583:=GW583;replace HB:=b1_ hb;have NB566_583:=gN_ BK566 hg;have NB583_566:=gP_ BK566 hg;replace BK566:=bb_ BK566 hb;have NB567_583:=gN_ BK567 hg;have NB583_567:=gP_ BK567 hg;replace BK567:=bb_ BK567 hb;have NB575_583:=gN_ BK575 hg;have NB583_575:=gP_ BK575 hg;replace BK575:=bb_ BK575 hb;clear hb hbox hg;obtain ⟨Ao44,co44,eo44⟩:=Kd.R_slice HO578.out;subst eo44;have hnb45:=NB583_566.out;have hnc45:=NB566_583.out;have hnb46:=NB583_567.out;have hnc46:=NB567_583.out;have hnb47:=NB583_575.out;have hnc47:=NB575_583.out;obtain ⟨hcz48_0,hcz48_1,hfz48_0,hfz48_1⟩:=c2_ BK583;obtain ⟨Ao49,co49,eo49⟩:=Kd.R_slice HO581.out;subst eo49))
   go_ret
   exact ⟨qb_,hB_⟩
 ·replace c5:=Bool.eq_false_iff.mpr c5
  subst c5
  have H1:(some false) = some r:=by rw [if_neg (show ¬ (false = true) by decide)] at H;exact H
  clear H
  have H:=H1
  clear H1
  obtain rfl:=Option.some.inj H
  go_enter Try.func21,Try.ntmps21
  go_wp2_with (first | ((with_reducible refine gB_ (N:=2) rfl ?_);refine bx_ 2 #[.slice A0_0 l0_0.length c0_0,.slice A0_1 l0_1.length c0_1] 25 ?_;intro gb566 hg w50 hbox hb;have BK566:=A_ hbox;have GW566:=gw_ w hg;have GE566:=GW566;replace HB:=b1_ hb;clear hb hbox hg) | ((with_reducible refine gB_ (N:=3) rfl ?_);refine bx_ 3 #[.slice A1_0 l1_0.length c1_0,.slice A1_1 l1_1.length c1_1] 25 ?_;intro gb567 hg w51 hbox hb;have BK567:=A_ hbox;have GW567:=gw_ w hg;have GE567:=GW567;replace HB:=b1_ hb;have NB566_567:=gN_ BK566 hg;have NB567_566:=gP_ BK566 hg;replace BK566:=bb_ BK566 hb;clear hb hbox hg;have hnb52:=NB566_567.out;have hnc52:=NB567_566.out;obtain ⟨hcz53_0,hcz53_1,hfz53_0,hfz53_1⟩:=c2_ BK566) | ((with_reducible refine gA_ (f:=28) rfl ?_);refine gL_ (some 11) Try.func28 #[.agg #[.slice A0_0 l0_0.length c0_0,.slice A0_1 l0_1.length c0_1]] rfl qa_ ?_;(with_reducible refine (Z50.calls k _ _ l0_0 _ _ l0_1 t568 t571 false _ (cb_ HR0_0) HC0_0.out (cb_ HR0_1) HC0_1.out A3.out).mono ?_);rintro e w54 ⟨v569,v572,rfl,ho0,ho1,hb⟩;refine ⟨_,rfl,?_⟩;have HO570:=rl_ w ho0;have HO573:=rl_ w ho1;replace BK566:=bb_ BK566 hb;replace BK567:=bb_ BK567 hb;replace HB:=b1_ hb;clear hb ho0 ho1) | ((with_reducible refine gB_ (N:=5) rfl ?_);refine bx_ 5 #[.slice none 0 0,.slice none 0 0] 25 ?_;intro gb575 hg w55 hbox hb;replace HO570:=rb_ HO570 hb;replace HO573:=rb_ HO573 hb;have BK575:=A_ hbox;have GW575:=gw_ w hg;have GE575:=GW575;replace HB:=b1_ hb;have NB566_575:=gN_ BK566 hg;have NB575_566:=gP_ BK566 hg;replace BK566:=bb_ BK566 hb;have NB567_575:=gN_ BK567 hg;have NB575_567:=gP_ BK567 hg;replace BK567:=bb_ BK567 hb;clear hb hbox hg;obtain ⟨Ao56,co56,eo56⟩:=Kd.R_slice HO570.out;subst eo56;have hnb57:=NB575_566.out;have hnc57:=NB566_575.out;have hnb58:=NB575_567.out;have hnc58:=NB567_575.out;obtain ⟨hcz59_0,hcz59_1,hfz59_0,hfz59_1⟩:=c2_ BK575;obtain ⟨Ao60,co60,eo60⟩:=Kd.R_slice HO573.out;subst eo60;obtain ⟨hcz61_0,hcz61_1,hfz61_0,hfz61_1⟩:=c2_ BK567) | ((with_reducible refine gA_ (f:=28) rfl ?_);refine gL_ (some 16) Try.func28 #[.agg #[.slice A1_0 l1_0.length c1_0,.slice A1_1 l1_1.length c1_1]] rfl qa_ ?_;(with_reducible refine (Z50.calls k _ _ l1_0 _ _ l1_1 t576 t579 t582 _ (cD_ HR1_0.out hB_) HC1_0.out (cD_ HR1_1.out hB_) HC1_1.out A4.out).mono ?_);rintro e w62 ⟨v577,v580,rfl,ho0,ho1,hb⟩;refine ⟨_,rfl,?_⟩;have HO578:=A_ (rE_ (Kd.R_new' (Kd.R_new' ho0 (Kd.R_lt (rw_ (fa_ HO570 BK575)))) (Kd.R_lt (rw_ (fa_ HO573 BK575)))) (bF_ hB_));have HO581:=A_ (rE_ (Kd.R_new' (Kd.R_new' ho1 (Kd.R_lt (rw_ (fa_ HO570 BK575)))) (Kd.R_lt (rw_ (fa_ HO573 BK575)))) (bF_ hB_));replace HO570:=A_ (Kd.R_mono (Kd.R_told (Kd.R_told (Kd.R_old (rw_ (fa_ HO570 BK575)) hb) (Kd.R_base ho0)) (Kd.R_base ho1)) (fun _ h_=>h_.1));replace HO573:=A_ (Kd.R_mono (Kd.R_told (Kd.R_told (Kd.R_old (rw_ (fa_ HO573 BK575)) hb) (Kd.R_base ho0)) (Kd.R_base ho1)) (fun _ h_=>h_.1));replace BK566:=A_ (kE_ (g:=gb566) (o:=.cells #[.slice A0_0 l0_0.length c0_0,.slice A0_1 l0_1.length c0_1] 25 (0,0)) (by (with_reducible repeat (first | refine kA_ ?_ _ | refine kB_ ?_ | refine kC_ ?_ _));refine blk_far ?_ NB566_575.out _;(with_reducible repeat (first | refine kA_ ?_ _ | refine kB_ ?_ | refine kC_ ?_ _));refine blk_far ?_ NB566_575.out _;(with_reducible repeat (first | refine kA_ ?_ _ | refine kB_ ?_ | refine kC_ ?_ _));exact BK566.out) hb);replace BK567:=A_ (kE_ (g:=gb567) (o:=.cells #[.slice A1_0 l1_0.length c1_0,.slice A1_1 l1_1.length c1_1] 25 (0,0)) (by (with_reducible repeat (first | refine kA_ ?_ _ | refine kB_ ?_ | refine kC_ ?_ _));refine blk_far ?_ NB567_575.out _;(with_reducible repeat (first | refine kA_ ?_ _ | refine kB_ ?_ | refine kC_ ?_ _));refine blk_far ?_ NB567_575.out _;(with_reducible repeat (first | refine kA_ ?_ _ | refine kB_ ?_ | refine kC_ ?_ _));exact BK567.out) hb);replace BK575:=A_ (kE_ (g:=gb575) (o:=.cells #[.slice Ao56 t568.length co56,.slice Ao60 t571.length co60] 25 (0,0)) qp_ hb);replace HB:=b1_ hb;clear hb ho0 ho1) | ((with_reducible refine gB_ (N:=7) rfl ?_);refine bx_ 7 #[.slice none 0 0,.slice none 0 0] 25 ?_;intro gb583 hg w63 hbox hb;replace HO570:=rb_ HO570 hb;replace HO573:=rb_ HO573 hb;replace HO578:=rb_ HO578 hb;replace HO581:=rb_ HO581 hb;have BK583:=A_ hbox;have GW583:=gw_ w hg;have GE583:=GW583;replace HB:=b1_ hb;have NB566_583:=gN_ BK566 hg;have NB583_566:=gP_ BK566 hg;replace BK566:=bb_ BK566 hb;have NB567_583:=gN_ BK567 hg;have NB583_567:=gP_ BK567 hg;replace BK567:=bb_ BK567 hb;have NB575_583:=gN_ BK575 hg;have NB583_575:=gP_ BK575 hg;replace BK575:=bb_ BK575 hb;clear hb hbox hg;obtain ⟨Ao64,co64,eo64⟩:=Kd.R_slice HO578.out;subst eo64;have hnb65:=NB583_566.out;have hnc65:=NB566_583.out;have hnb66:=NB583_567.out;have hnc66:=NB567_583.out;have hnb67:=NB583_575.out;have hnc67:=NB575_583.out;obtain ⟨hcz68_0,hcz68_1,hfz68_0,hfz68_1⟩:=c2_ BK583;obtain ⟨Ao69,co69,eo69⟩:=Kd.R_slice HO581.out;subst eo69))
  go_ret
  exact ⟨qb_,hB_⟩
def Z52.f (k:Nat) (r u:List Int):Option (List S25 × Bool):=(M.orbitO k r u).bind fun z=>match z with | none=>some ([],false) | some s=>some (s.L,true)
theorem Z52.mono:∀ a0 a1 k,LeO (Z52.f k a0 a1) (Z52.f (k + 1) a0 a1):=by
 intro a0 a1 k
 unfold Z52.f
 exact LeO.bind (M.orbitO_mono _ _ _) (fun z=>LeO.refl _)
set_option maxHeartbeats 8000000 in
set_option maxRecDepth 100000 in
theorem Z52.calls (k:Nat) (A0_0:Option Addr) (c0_0:Nat) (l0_0:List Int) (A0_1:Option Addr) (c0_1:Nat) (l0_1:List Int) (r1:List S25) (r2:Bool) (w:World) (hr0_0:Kd.C (Kd.int .i64) w A0_0 l0_0.length l0_0) (hc0_0:l0_0.length≤c0_0) (hr0_1:Kd.C (Kd.int .i64) w A0_1 l0_1.length l0_1) (hc0_1:l0_1.length≤c0_1) (h:Z52.f k l0_0 l0_1 = some (r1,r2)) :
  Calls Try.prog 23 #[.agg #[.slice A0_0 l0_0.length c0_0,.slice A0_1 l0_1.length c0_1]] w fun e w'=>∃ v0_:Value,e = .returned (.tuple #[v0_,.bool r2])∧Kd.S k25 25 w' w.heap.size (fun _=>True) v0_ r1∧Below w.heap.size w w':=by
 have hu:=Try.underlying25
 have HR0_0:=A_ hr0_0;have HC0_0:=A_ hc0_0;clear hr0_0 hc0_0
 have HR0_1:=A_ hr0_1;have HC0_1:=A_ hc0_1;clear hr0_1 hc0_1
 have HB:=A_ (Below.refl w.heap.size w)
 have H:=h
 unfold Z52.f at H
 clear h
 obtain ⟨z,AZ,H⟩:=bi_ H
 cases z with
 | none =>
  have e0:(([]:List S25),false) = (r1,r2):=Option.some.inj H
  injection e0 with e1 e2
  subst e1 e2
  go_enter Try.func23,Try.ntmps23
  go_wp2_with (first | ((with_reducible refine gB_ (N:=1) rfl ?_);refine bx_ 1 #[.slice A0_0 l0_0.length c0_0,.slice A0_1 l0_1.length c0_1] 25 ?_;intro gs hg wgs hbox hb;have Bgs:=A_ hbox;replace HB:=b1_ hb;clear hb hbox hg;have hczgs0:=cz0_ Bgs;have hczgs1:=cz1_ Bgs;have hfzgs0:=kD_ Bgs.out 0;have hfzgs1:=kD_ Bgs.out 1) | ((with_reducible refine gA_ (f:=59) rfl ?_);refine gL_ (some 8) Try.func59 #[.agg #[.slice A0_0 l0_0.length c0_0,.slice A0_1 l0_1.length c0_1]] rfl qa_ ?_;(with_reducible refine (M.orbit_calls k _ _ l0_0 _ _ l0_1 none _ (cb_ HR0_0) HC0_0.out (cb_ HR0_1) HC0_1.out AZ.out).mono ?_);rintro e wz ⟨rfl,hb⟩;refine ⟨_,rfl,?_⟩;replace HB:=b1_ hb;clear hb))
  go_ret2
  exact ⟨_,qb_,Kd.S_nil _ _ _ _ _,hB_⟩
 | some s =>
  have e0:(s.L,true) = (r1,r2):=Option.some.inj H
  injection e0 with e1 e2
  subst e1 e2
  go_enter Try.func23,Try.ntmps23
  go_wp2_with (first | ((with_reducible refine gB_ (N:=1) rfl ?_);refine bx_ 1 #[.slice A0_0 l0_0.length c0_0,.slice A0_1 l0_1.length c0_1] 25 ?_;intro gs hg wgs hbox hb;have Bgs:=A_ hbox;replace HB:=b1_ hb;clear hb hbox hg;have hczgs0:=cz0_ Bgs;have hczgs1:=cz1_ Bgs;have hfzgs0:=kD_ Bgs.out 0;have hfzgs1:=kD_ Bgs.out 1) | ((with_reducible refine gA_ (f:=59) rfl ?_);refine gL_ (some 8) Try.func59 #[.agg #[.slice A0_0 l0_0.length c0_0,.slice A0_1 l0_1.length c0_1]] rfl qa_ ?_;(with_reducible refine (M.orbit_calls k _ _ l0_0 _ _ l0_1 (some s) _ (cb_ HR0_0) HC0_0.out (cb_ HR0_1) HC0_1.out AZ.out).mono ?_);rintro e wz ⟨gO,gM,nm_,col,vL,vW,vF,vB,vT,vS,rfl,hh,hb⟩;refine ⟨_,rfl,?_⟩;have ZZ:=A_ (bF_ hB_:w.heap.size≤_);replace HB:=b1_ hb;have HH:=A_ hh;clear hb hh;obtain ⟨AL,cL,eL⟩:=Kd.S_slice HH.out.hL;subst eL;obtain ⟨AW,cW,eW⟩:=Kd.R_slice HH.out.hW;subst eW;have hco0:wz.cell? ⟨gO,0,none⟩ = some (.slice AL s.L.length cL):=(blk_cell HH.out.hO 0).trans rfl;have hco1:wz.cell? ⟨gO,1,none⟩ = some (.slice AW s.W.length cW):=(blk_cell HH.out.hO 1).trans rfl;have hfo0:=kD_ HH.out.hO 0;have hfo1:=kD_ HH.out.hO 1))
  go_ret2
  exact ⟨_,qb_,Kd.S_mono (Kd.S_lower HH.out.hL ZZ.out) (fun _ _=>trivial),hB_⟩
def Z70.l0:Nat→List Int→Int→Int→Int→Int→Option (List Int × Int × Int)
 | 0,_,_,_,_,_=>none
 | k + 1,b,p,h,n,i=>if i < n then ((Z56.f b p h).bind fun t=>(Z70.l0 k b t.2.1 t.2.2 n (wrap64 (i + 1)))) else some (b,p,h)
def Z70.f (k:Nat) (l0:List Int) (a1:Int):Option (List Int × Int × Int):=(Z67.f k l0).bind fun t=>(Z70.l0 k t.1 t.2.1 t.2.2 a1 0)
theorem Z70.mono_l:∀ k,(∀ y0 y1 y2 y3 y4,LeO (Z70.l0 k y0 y1 y2 y3 y4) (Z70.l0 (k + 1) y0 y1 y2 y3 y4))
 | 0=>fun _ _ _ _ _ r h=>by simp [Z70.l0] at h
 | k + 1=>by
  have ih0:=Z70.mono_l k
  ·intro y0 y1 y2 y3 y4
   unfold Z70.l0
   repeat' first|exact ih0 _ _ _ _ _|exact lo_|refine LeO.ite ?_ ?_|refine LeO.bind ?_ (fun _=>?_)
theorem Z70.mono:∀ a0 a1 k,LeO (Z70.f k a0 a1) (Z70.f (k + 1) a0 a1):=by
 intro a0 a1 k
 unfold Z70.f
 exact LeO.bind (Z67.mono _ _) (fun _=>Z70.mono_l k _ _ _ _ _)
theorem below_keep {w0 w w1 w2:World} {g:Nat} (h0:Below w0.heap.size w0 w) (h1:Below w.heap.size w w1) (h2:Below w0.heap.size w0 w2) (k:KeepBut w1 w2 g none) (hg:w.heap.size≤g):Below w.heap.size w w2 :=
 ⟨h2.os.trans h0.os.symm,h2.tape.trans h0.tape.symm,h2.output.trans h0.output.symm,Nat.le_trans h1.size k.1,fun i hi=>(k.2 i (Nat.lt_of_lt_of_le hi h1.size) (by omega) (by simp)).trans (h1.block i hi)⟩
set_option maxHeartbeats 8000000 in
set_option maxRecDepth 100000 in
theorem Z70.calls (k:Nat) (A0:Option Addr) (c0:Nat) (l0:List Int) (a1:Int) (r1:List Int) (r2:Int) (r3:Int) (w0 w:World) (hB:Below w0.heap.size w0 w) (hr0:Kd.C (Kd.int .u8) w0 A0 l0.length l0) (hc0:l0.length≤c0) (h:Z70.f k l0 a1 = some (r1,r2,r3)) :
  Calls Try.prog 70 #[.slice A0 l0.length c0,.int .i64 a1] w fun e w'=>∃ g_:Nat,e = .returned (.pointer (some ⟨g_,0,none⟩))∧IsS99 w0 w' g_ r1 r2 r3∧Below w0.heap.size w0 w'∧Below w.heap.size w w':=by
 have HR0:=A_ hr0
 have HC0:=A_ hc0
 have HB:=A_ hB
 clear hr0 hc0 hB
 unfold Z70.f at h
 obtain ⟨⟨b1,p1,h1⟩,F1,H⟩:=Option.bind_eq_some_iff.mp h
 have F1:=A_ F1
 have H':=A_ (show Z70.l0 k b1 p1 h1 a1 0 = some (r1,r2,r3) from H)
 clear H h
 go_enter Try.func70,Try.ntmps70
 go_wp2_with ((with_reducible refine gA_ (f:=58) rfl ?_);refine goesL_ _ rfl rfl Try.func58 (by kernel_rfl) rfl #[.slice A0 l0.length c0] rfl (by (try simp only [mA_,mB_,mC_]);first | done | rfl) ?_;refine (Z67.callsW k A0 c0 l0 b1 p1 h1 w0 _ HB.out HR0.out HC0.out F1.out).mono ?_;rintro e w1 ⟨g,rfl,hI,hB0,hBW,hg⟩;refine ⟨_,rfl,?_⟩;have HI:=A_ hI;have HB0:=A_ hB0;have HBW:=A_ hBW;have HG:=A_ hg;clear hI hB0 hBW hg)
 go_loopg [6] k (fun kq v6 w'=>∃ (p i h:Int),v6 = .int .i64 i∧Aside0 (Z70.l0 kq b1 p h a1 i = some (r1,r2,r3))∧Aside0 (kq≤k)∧Aside0 (IsS99 w0 w' g b1 p h)∧Aside0 (Below w0.heap.size w0 w')∧Aside0 (Below w.heap.size w w'))
 case atStart=>exact ⟨p1,0,h1,rfl,H',⟨nA_ _⟩,HI,HB0,HBW⟩
 case round =>
  clear H' HI HB0 HBW
  obtain ⟨p,i,h,rfl,HA,HK1,HI,HB0,HBW⟩:=hrel
  cases gk with
  | zero=>exact absurd HA.out (by simp [Z70.l0])
  | succ k1 =>
   have H:=HA.out
   clear HA
   simp only [Z70.l0] at H
   by_cases c3:i < a1
   ·rw [if_pos c3] at H
    have c3b0:=oC_ c3
    clear c3
    obtain ⟨⟨x,p2,h2⟩,F2,H⟩:=Option.bind_eq_some_iff.mp H
    have F2:=A_ F2
    have H':=A_ H
    clear H
    go_wp2_with ((with_reducible refine gA_ (f:=71) rfl ?_);refine goesL_ _ rfl rfl Try.func71 (by kernel_rfl) rfl #[.pointer (some ⟨g,0,none⟩)] rfl (by (try simp only [mA_,mB_,mC_]);first | done | rfl) ?_;refine (Z56.calls g b1 p h x p2 h2 w0 _ HI.out HB0.out F2.out).mono ?_;rintro e w2 ⟨rfl,hI,hB0,hk⟩;refine ⟨_,rfl,?_⟩;replace HI:=A_ hI;replace HB0:=A_ hB0;replace HBW:=A_ (below_keep HB.out HBW.out hB0 hk HG.out);clear hI hB0 hk)
    go_roundg k1
    case measure=>have:=HK1.out;omega
    case rel=>exact ⟨p2,wrap64 (i + 1),h2,rfl,H',⟨by have:=HK1.out;omega⟩,HI,HB0,HBW⟩
   ·rw [if_neg c3] at H
    have c3b0:=oD_ c3
    clear c3
    simp only [Option.some.injEq,Prod.mk.injEq] at H
    obtain ⟨rfl,rfl,rfl⟩:=H
    go_wp2
    go_ret
    exact ⟨g,rfl,HI.out,HB0.out,HBW.out⟩
def Z55.f (k:Nat) (l0:List Int) (a1:Int):Option (Int):=(Z70.f k l0 a1).bind fun bt612=>((Z56.f bt612.1 bt612.2.1 bt612.2.2).bind fun bt616=>((Z56.f bt612.1 bt616.2.1 bt616.2.2).bind fun bt619=>(some (wrap64 ((wrap64 (bt616.1 * 256)) + bt619.1)))))
theorem Z55.mono:∀ a0 a1 k,LeO (Z55.f k a0 a1) (Z55.f (k + 1) a0 a1):=by
 intro a0 a1 k
 unfold Z55.f
 repeat' first|exact Z70.mono _ _ _|exact lo_|refine LeO.ite ?_ ?_|refine LeO.bind ?_ (fun _=>?_)
set_option maxHeartbeats 8000000 in
set_option maxRecDepth 100000 in
theorem Z55.calls (k:Nat) (A0:Option Addr) (c0:Nat) (l0:List Int) (a1:Int) (r:Int) (w:World) (hr0:Kd.C (Kd.int .u8) w A0 l0.length l0) (hc0:l0.length≤c0) (h:Z55.f k l0 a1 = some r) :
  Calls Try.prog 24 #[.slice A0 l0.length c0,.int .i64 a1] w fun e w'=>e = .returned (.int .i64 r)∧Below w.heap.size w w':=by
 have HR0:=A_ hr0
 have HC0:=A_ hc0
 clear hr0 hc0
 have HB:=A_ (Below.refl w.heap.size w)
 have H:=h
 unfold Z55.f at H
 clear h
 obtain ⟨⟨t612,t613,t614⟩,A3,H⟩:=bi_ H
 try dsimp only at H
 obtain ⟨⟨t616,t617,t618⟩,A4,H⟩:=bi_ H
 try dsimp only at H
 obtain ⟨⟨t619,t620,t621⟩,A5,H⟩:=bi_ H
 try dsimp only at H
 obtain rfl:=Option.some.inj H
 go_enter Try.func24,Try.ntmps24
 go_wp2_with (first | ((with_reducible refine gA_ (f:=70) rfl ?_);refine gL_ (some 8) Try.func70 #[.slice A0 l0.length c0,.int .i64 a1] rfl qa_ ?_;(with_reducible refine (Z70.calls k _ _ l0 a1 t612 t613 t614 w _ ?side1 ?side2 ?side3 A3.out).mono ?_);(case side1=>repeat (first | (with_reducible first | exact HB.out | apply bA_ | apply bB_ | apply bC_) | exact HB.out));(case side2=>exact HR0.out);(case side3=>exact HC0.out);rintro e w6 ⟨g615,rfl,hi,hb,hb2⟩;refine ⟨_,rfl,?_⟩;replace HB:=A_ hb;have HI615:=A_ hi;clear hb hb2 hi) | ((with_reducible refine gA_ (f:=71) rfl ?_);refine gL_ (some 10) Try.func71 #[.pointer (some ⟨g615,0,none⟩)] rfl qa_ ?_;(with_reducible refine (Z56.calls g615 t612 t613 t614 t616 t617 t618 w _ ?side1 ?side2 A4.out).mono ?_);(case side1=>repeat (first | (with_reducible first | exact HI615.out | apply IsS99.alloc | apply IsS99.drewN | apply IsS99.drew | apply IsS99.set_1 | apply IsS99.set_2) | exact HI615.out));(case side2=>repeat (first | (with_reducible first | exact HB.out | apply bA_ | apply bB_ | apply bC_ | refine bD_ ?_ (IsS99.ge HI615.out)) | exact HB.out));rintro e w7 ⟨rfl,hi,hb,hk⟩;refine ⟨_,rfl,?_⟩;replace HB:=A_ hb;replace HI615:=A_ hi;clear hb hk hi) | ((with_reducible refine gA_ (f:=71) rfl ?_);refine gL_ (some 13) Try.func71 #[.pointer (some ⟨g615,0,none⟩)] rfl qa_ ?_;(with_reducible refine (Z56.calls g615 t612 t617 t618 t619 t620 t621 w _ ?side1 ?side2 A5.out).mono ?_);(case side1=>repeat (first | (with_reducible first | exact HI615.out | apply IsS99.alloc | apply IsS99.drewN | apply IsS99.drew | apply IsS99.set_1 | apply IsS99.set_2) | exact HI615.out));(case side2=>repeat (first | (with_reducible first | exact HB.out | apply bA_ | apply bB_ | apply bC_ | refine bD_ ?_ (IsS99.ge HI615.out)) | exact HB.out));rintro e w8 ⟨rfl,hi,hb,hk⟩;refine ⟨_,rfl,?_⟩;replace HB:=A_ hb;replace HI615:=A_ hi;clear hb hk hi))
 go_ret
 exact ⟨qb_,hBI_⟩
def Z27.f (k:Nat) (r u r1 u1:List Int):Option (ByteArray × Bool):=(M.orbitO k r u).bind fun z=>((Z50.f k r1 u1).bind fun y=>(match z with | none=>some ((⟨#[]⟩:ByteArray),false) | some s=>if y.2.2 = true then ((M.indexO k s.L y.1 y.2.1).bind fun j=>if j < 0 then some ((⟨#[]⟩:ByteArray),false) else (if j < (s.W.length:Int) then (if ((rdOf ByteArray.empty s.W j).size:Int) > 40 then some ((⟨#[]⟩:ByteArray),false) else some (rdOf ByteArray.empty s.W j,true)) else none)) else some ((⟨#[]⟩:ByteArray),false)))
theorem Z27.mono:∀ a0 a1 a2 a3 k,LeO (Z27.f k a0 a1 a2 a3) (Z27.f (k + 1) a0 a1 a2 a3):=by
 intro a0 a1 a2 a3 k
 unfold Z27.f
 refine LeO.bind (M.orbitO_mono _ _ _) (fun z=>LeO.bind (Z50.mono _ _ _) (fun y=>?_))
 cases z with
 | none=>exact LeO.refl _
 | some s=>exact LeO.ite (LeO.bind (M.indexO_mono _ _ _ _) (fun j=>LeO.refl _)) (LeO.refl _)
set_option maxHeartbeats 8000000 in
set_option maxRecDepth 100000 in
theorem Z27.calls (k:Nat) (A0_0:Option Addr) (c0_0:Nat) (l0_0:List Int) (A0_1:Option Addr) (c0_1:Nat) (l0_1:List Int) (A1_0:Option Addr) (c1_0:Nat) (l1_0:List Int) (A1_1:Option Addr) (c1_1:Nat) (l1_1:List Int) (r1:ByteArray) (r2:Bool) (w:World) (hr0_0:Kd.C (Kd.int .i64) w A0_0 l0_0.length l0_0) (hc0_0:l0_0.length≤c0_0) (hr0_1:Kd.C (Kd.int .i64) w A0_1 l0_1.length l0_1) (hc0_1:l0_1.length≤c0_1) (hr1_0:Kd.C (Kd.int .i64) w A1_0 l1_0.length l1_0) (hc1_0:l1_0.length≤c1_0) (hr1_1:Kd.C (Kd.int .i64) w A1_1 l1_1.length l1_1) (hc1_1:l1_1.length≤c1_1) (h:Z27.f k l0_0 l0_1 l1_0 l1_1 = some (r1,r2)) :
  Calls Try.prog 25 #[.agg #[.slice A0_0 l0_0.length c0_0,.slice A0_1 l0_1.length c0_1],.agg #[.slice A1_0 l1_0.length c1_0,.slice A1_1 l1_1.length c1_1]] w fun e w'=>e = .returned (.tuple #[.string r1,.bool r2])∧Below w.heap.size w w':=by
 have hu:=Try.underlying25
 have HR0_0:=A_ hr0_0;have HC0_0:=A_ hc0_0;clear hr0_0 hc0_0
 have HR0_1:=A_ hr0_1;have HC0_1:=A_ hc0_1;clear hr0_1 hc0_1
 have HR1_0:=A_ hr1_0;have HC1_0:=A_ hc1_0;clear hr1_0 hc1_0
 have HR1_1:=A_ hr1_1;have HC1_1:=A_ hc1_1;clear hr1_1 hc1_1
 have HB:=A_ (Below.refl w.heap.size w)
 have H:=h
 unfold Z27.f at H
 clear h
 obtain ⟨z,AZ,H⟩:=bi_ H
 obtain ⟨⟨y1,y2,yb⟩,AY,H⟩:=bi_ H
 dsimp only at H
 cases z with
 | none =>
  have e0:((⟨#[]⟩:ByteArray),false) = (r1,r2):=Option.some.inj H
  injection e0 with e1 e2
  subst e1 e2
  go_enter Try.func25,Try.ntmps25
  go_upto_region 3 with (first | ((with_reducible refine gB_ (N:=2) rfl ?_);refine bx_ 2 #[.slice A0_0 l0_0.length c0_0,.slice A0_1 l0_1.length c0_1] 25 ?_;intro gs hg wgs hbox hb;have Bgs:=A_ hbox;replace HB:=b1_ hb;clear hb hbox hg;have hczgs0:=cz0_ Bgs;have hczgs1:=cz1_ Bgs;have hfzgs0:=kD_ Bgs.out 0;have hfzgs1:=kD_ Bgs.out 1) | ((with_reducible refine gB_ (N:=3) rfl ?_);refine bx_ 3 #[.slice A1_0 l1_0.length c1_0,.slice A1_1 l1_1.length c1_1] 25 ?_;intro gt hg wgt hbox hb;have Bgt:=A_ hbox;replace Bgs:=bb_ Bgs hb;have hcy0:=cz0_ Bgs;have hcy1:=cz1_ Bgs;have hfy0:=kD_ Bgs.out 0;have hfy1:=kD_ Bgs.out 1;replace HB:=b1_ hb;clear hb hbox hg;have hczgt0:=cz0_ Bgt;have hczgt1:=cz1_ Bgt;have hfzgt0:=kD_ Bgt.out 0;have hfzgt1:=kD_ Bgt.out 1) | ((with_reducible refine gA_ (f:=59) rfl ?_);refine gL_ (some 13) Try.func59 #[.agg #[.slice A0_0 l0_0.length c0_0,.slice A0_1 l0_1.length c0_1]] rfl qa_ ?_;(with_reducible refine (M.orbit_calls k _ _ l0_0 _ _ l0_1 none _ (cb_ HR0_0) HC0_0.out (cb_ HR0_1) HC0_1.out AZ.out).mono ?_);rintro e wz ⟨rfl,hb⟩;refine ⟨_,rfl,?_⟩;replace Bgt:=bb_ Bgt hb;have hcu0:=cz0_ Bgt;have hcu1:=cz1_ Bgt;have hfu0:=kD_ Bgt.out 0;have hfu1:=kD_ Bgt.out 1;replace HB:=b1_ hb;clear hb) | ((with_reducible refine gA_ (f:=28) rfl ?_);refine gL_ (some 18) Try.func28 #[.agg #[.slice A1_0 l1_0.length c1_0,.slice A1_1 l1_1.length c1_1]] rfl qa_ ?_;(with_reducible refine (Z50.calls k _ _ l1_0 _ _ l1_1 y1 y2 _ _ (cb_ HR1_0) HC1_0.out (cb_ HR1_1) HC1_1.out AY.out).mono ?_);rintro e wy ⟨v0,v1,rfl,ho0,ho1,hb⟩;refine ⟨_,rfl,?_⟩;replace HB:=b1_ hb;clear hb;obtain ⟨Ay0,cy0,ey0⟩:=Kd.R_slice ho0;subst ey0;obtain ⟨Ay1,cy1,ey1⟩:=Kd.R_slice ho1;subst ey1;have Y0:=A_ ho0;have Y1:=A_ ho1;clear ho0 ho1) | ((with_reducible refine gB_ (N:=8) rfl ?_);refine bx_ 8 #[.slice none 0 0,.slice none 0 0] 25 ?_;intro gx hg wx hbox hb;have GX:=A_ (show wy.heap.size≤gx from Nat.le_of_eq hg.symm);have BX:=A_ hbox;have B3:=A_ hb;clear hb hbox hg;have hcf0:=cz0_ BX;have hcf1:=cz1_ BX;have hff0:=kD_ BX.out 0;have hff1:=kD_ BX.out 1))
  obtain ⟨hbox,hkp,hB2⟩:=M.box_store (w0:=wy) BX.out (.slice Ay0 y1.length cy0) (.slice Ay1 y2.length cy1) B3.out GX.out
  generalize hw:((wx.setCell ⟨gx,0,none⟩ (.slice Ay0 y1.length cy0)).setCell ⟨gx,1,none⟩ (.slice Ay1 y2.length cy1)) = wv at hbox hkp hB2 ⊢
  clear hw hcf0 hcf1 hff0 hff1
  replace Y0:=A_ (rD_ Y0.out hB2)
  replace Y1:=A_ (rD_ Y1.out hB2)
  replace HB:=A_ (bE_ HB.out hB2)
  replace BX:=A_ (show wv.heap[gx]? = some (.cells #[.slice Ay0 y1.length cy0,.slice Ay1 y2.length cy1] 25 (0,0)) from hbox)
  clear hbox hkp hB2 B3
  obtain ⟨hcx0,hcx1,hfx0,hfx1⟩:=c2_ BX
  go_wp2
  go_ret2
  exact ⟨qb_,hB_⟩
 | some s =>
  dsimp only at H
  cases yb with
  | false =>
   rw [if_neg (by decide)] at H
   have e0:((⟨#[]⟩:ByteArray),false) = (r1,r2):=Option.some.inj H
   injection e0 with e1 e2
   subst e1 e2
   go_enter Try.func25,Try.ntmps25
   go_upto_region 3 with (first | ((with_reducible refine gB_ (N:=2) rfl ?_);refine bx_ 2 #[.slice A0_0 l0_0.length c0_0,.slice A0_1 l0_1.length c0_1] 25 ?_;intro gs hg wgs hbox hb;have Bgs:=A_ hbox;replace HB:=b1_ hb;clear hb hbox hg;have hczgs0:=cz0_ Bgs;have hczgs1:=cz1_ Bgs;have hfzgs0:=kD_ Bgs.out 0;have hfzgs1:=kD_ Bgs.out 1) | ((with_reducible refine gB_ (N:=3) rfl ?_);refine bx_ 3 #[.slice A1_0 l1_0.length c1_0,.slice A1_1 l1_1.length c1_1] 25 ?_;intro gt hg wgt hbox hb;have Bgt:=A_ hbox;replace Bgs:=bb_ Bgs hb;have hcy0:=cz0_ Bgs;have hcy1:=cz1_ Bgs;have hfy0:=kD_ Bgs.out 0;have hfy1:=kD_ Bgs.out 1;replace HB:=b1_ hb;clear hb hbox hg;have hczgt0:=cz0_ Bgt;have hczgt1:=cz1_ Bgt;have hfzgt0:=kD_ Bgt.out 0;have hfzgt1:=kD_ Bgt.out 1) | ((with_reducible refine gA_ (f:=59) rfl ?_);refine gL_ (some 13) Try.func59 #[.agg #[.slice A0_0 l0_0.length c0_0,.slice A0_1 l0_1.length c0_1]] rfl qa_ ?_;(with_reducible refine (M.orbit_calls k _ _ l0_0 _ _ l0_1 (some s) _ (cb_ HR0_0) HC0_0.out (cb_ HR0_1) HC0_1.out AZ.out).mono ?_);rintro e wz ⟨gO,gM,nm_,col,vL,vW,vF,vB,vT,vS,rfl,hh,hb⟩;refine ⟨_,rfl,?_⟩;replace Bgt:=bb_ Bgt hb;have hcu0:=cz0_ Bgt;have hcu1:=cz1_ Bgt;have hfu0:=kD_ Bgt.out 0;have hfu1:=kD_ Bgt.out 1;replace HB:=b1_ hb;have HH:=A_ hh;clear hb hh;obtain ⟨AL,cL,eL⟩:=Kd.S_slice HH.out.hL;subst eL;obtain ⟨AW,cW,eW⟩:=Kd.R_slice HH.out.hW;subst eW;have hco0:wz.cell? ⟨gO,0,none⟩ = some (.slice AL s.L.length cL):=(blk_cell HH.out.hO 0).trans rfl;have hco1:wz.cell? ⟨gO,1,none⟩ = some (.slice AW s.W.length cW):=(blk_cell HH.out.hO 1).trans rfl;have hfo0:=kD_ HH.out.hO 0;have hfo1:=kD_ HH.out.hO 1) | ((with_reducible refine gA_ (f:=28) rfl ?_);refine gL_ (some 18) Try.func28 #[.agg #[.slice A1_0 l1_0.length c1_0,.slice A1_1 l1_1.length c1_1]] rfl qa_ ?_;(with_reducible refine (Z50.calls k _ _ l1_0 _ _ l1_1 y1 y2 _ _ (cb_ HR1_0) HC1_0.out (cb_ HR1_1) HC1_1.out AY.out).mono ?_);rintro e wy ⟨v0,v1,rfl,ho0,ho1,hb⟩;refine ⟨_,rfl,?_⟩;replace HH:=A_ (HH.out.below hb);replace HB:=b1_ hb;clear hb;obtain ⟨Ay0,cy0,ey0⟩:=Kd.R_slice ho0;subst ey0;obtain ⟨Ay1,cy1,ey1⟩:=Kd.R_slice ho1;subst ey1;have Y0:=A_ ho0;have Y1:=A_ ho1;clear ho0 ho1) | ((with_reducible refine gB_ (N:=8) rfl ?_);refine bx_ 8 #[.slice none 0 0,.slice none 0 0] 25 ?_;intro gx hg wx hbox hb;have GX:=A_ (show wy.heap.size≤gx from Nat.le_of_eq hg.symm);have BX:=A_ hbox;have B3:=A_ hb;clear hb hbox hg;have hcf0:=cz0_ BX;have hcf1:=cz1_ BX;have hff0:=kD_ BX.out 0;have hff1:=kD_ BX.out 1))
   obtain ⟨hbox,hkp,hB2⟩:=M.box_store (w0:=wy) BX.out (.slice Ay0 y1.length cy0) (.slice Ay1 y2.length cy1) B3.out GX.out
   generalize hw:((wx.setCell ⟨gx,0,none⟩ (.slice Ay0 y1.length cy0)).setCell ⟨gx,1,none⟩ (.slice Ay1 y2.length cy1)) = wv at hbox hkp hB2 ⊢
   clear hw hcf0 hcf1 hff0 hff1
   replace HH:=A_ (HH.out.below hB2)
   replace Y0:=A_ (rD_ Y0.out hB2)
   replace Y1:=A_ (rD_ Y1.out hB2)
   replace HB:=A_ (bE_ HB.out hB2)
   replace BX:=A_ (show wv.heap[gx]? = some (.cells #[.slice Ay0 y1.length cy0,.slice Ay1 y2.length cy1] 25 (0,0)) from hbox)
   clear hbox hkp hB2 B3
   obtain ⟨hcx0,hcx1,hfx0,hfx1⟩:=c2_ BX
   go_wp2
   go_ret2
   exact ⟨qb_,hB_⟩
  | true =>
   rw [if_pos rfl] at H
   obtain ⟨j,AJ,H⟩:=bi_ H
   by_cases hj:j < 0
   ·rw [if_pos hj] at H
    have e0:((⟨#[]⟩:ByteArray),false) = (r1,r2):=Option.some.inj H
    injection e0 with e1 e2
    subst e1 e2
    have hjb:=oC_ hj
    go_enter Try.func25,Try.ntmps25
    go_upto_region 3 with (first | ((with_reducible refine gB_ (N:=2) rfl ?_);refine bx_ 2 #[.slice A0_0 l0_0.length c0_0,.slice A0_1 l0_1.length c0_1] 25 ?_;intro gs hg wgs hbox hb;have Bgs:=A_ hbox;replace HB:=b1_ hb;clear hb hbox hg;have hczgs0:=cz0_ Bgs;have hczgs1:=cz1_ Bgs;have hfzgs0:=kD_ Bgs.out 0;have hfzgs1:=kD_ Bgs.out 1) | ((with_reducible refine gB_ (N:=3) rfl ?_);refine bx_ 3 #[.slice A1_0 l1_0.length c1_0,.slice A1_1 l1_1.length c1_1] 25 ?_;intro gt hg wgt hbox hb;have Bgt:=A_ hbox;replace Bgs:=bb_ Bgs hb;have hcy0:=cz0_ Bgs;have hcy1:=cz1_ Bgs;have hfy0:=kD_ Bgs.out 0;have hfy1:=kD_ Bgs.out 1;replace HB:=b1_ hb;clear hb hbox hg;have hczgt0:=cz0_ Bgt;have hczgt1:=cz1_ Bgt;have hfzgt0:=kD_ Bgt.out 0;have hfzgt1:=kD_ Bgt.out 1) | ((with_reducible refine gA_ (f:=59) rfl ?_);refine gL_ (some 13) Try.func59 #[.agg #[.slice A0_0 l0_0.length c0_0,.slice A0_1 l0_1.length c0_1]] rfl qa_ ?_;(with_reducible refine (M.orbit_calls k _ _ l0_0 _ _ l0_1 (some s) _ (cb_ HR0_0) HC0_0.out (cb_ HR0_1) HC0_1.out AZ.out).mono ?_);rintro e wz ⟨gO,gM,nm_,col,vL,vW,vF,vB,vT,vS,rfl,hh,hb⟩;refine ⟨_,rfl,?_⟩;replace Bgt:=bb_ Bgt hb;have hcu0:=cz0_ Bgt;have hcu1:=cz1_ Bgt;have hfu0:=kD_ Bgt.out 0;have hfu1:=kD_ Bgt.out 1;replace HB:=b1_ hb;have HH:=A_ hh;clear hb hh;obtain ⟨AL,cL,eL⟩:=Kd.S_slice HH.out.hL;subst eL;obtain ⟨AW,cW,eW⟩:=Kd.R_slice HH.out.hW;subst eW;have hco0:wz.cell? ⟨gO,0,none⟩ = some (.slice AL s.L.length cL):=(blk_cell HH.out.hO 0).trans rfl;have hco1:wz.cell? ⟨gO,1,none⟩ = some (.slice AW s.W.length cW):=(blk_cell HH.out.hO 1).trans rfl;have hfo0:=kD_ HH.out.hO 0;have hfo1:=kD_ HH.out.hO 1) | ((with_reducible refine gA_ (f:=28) rfl ?_);refine gL_ (some 18) Try.func28 #[.agg #[.slice A1_0 l1_0.length c1_0,.slice A1_1 l1_1.length c1_1]] rfl qa_ ?_;(with_reducible refine (Z50.calls k _ _ l1_0 _ _ l1_1 y1 y2 _ _ (cb_ HR1_0) HC1_0.out (cb_ HR1_1) HC1_1.out AY.out).mono ?_);rintro e wy ⟨v0,v1,rfl,ho0,ho1,hb⟩;refine ⟨_,rfl,?_⟩;replace HH:=A_ (HH.out.below hb);replace HB:=b1_ hb;clear hb;obtain ⟨Ay0,cy0,ey0⟩:=Kd.R_slice ho0;subst ey0;obtain ⟨Ay1,cy1,ey1⟩:=Kd.R_slice ho1;subst ey1;have Y0:=A_ ho0;have Y1:=A_ ho1;clear ho0 ho1) | ((with_reducible refine gB_ (N:=8) rfl ?_);refine bx_ 8 #[.slice none 0 0,.slice none 0 0] 25 ?_;intro gx hg wx hbox hb;have GX:=A_ (show wy.heap.size≤gx from Nat.le_of_eq hg.symm);have BX:=A_ hbox;have B3:=A_ hb;clear hb hbox hg;have hcf0:=cz0_ BX;have hcf1:=cz1_ BX;have hff0:=kD_ BX.out 0;have hff1:=kD_ BX.out 1))
    obtain ⟨hbox,hkp,hB2⟩:=M.box_store (w0:=wy) BX.out (.slice Ay0 y1.length cy0) (.slice Ay1 y2.length cy1) B3.out GX.out
    generalize hw:((wx.setCell ⟨gx,0,none⟩ (.slice Ay0 y1.length cy0)).setCell ⟨gx,1,none⟩ (.slice Ay1 y2.length cy1)) = wv at hbox hkp hB2 ⊢
    clear hw hcf0 hcf1 hff0 hff1
    replace HH:=A_ (HH.out.below hB2)
    replace Y0:=A_ (rD_ Y0.out hB2)
    replace Y1:=A_ (rD_ Y1.out hB2)
    replace HB:=A_ (bE_ HB.out hB2)
    replace BX:=A_ (show wv.heap[gx]? = some (.cells #[.slice Ay0 y1.length cy0,.slice Ay1 y2.length cy1] 25 (0,0)) from hbox)
    clear hbox hkp hB2 B3
    obtain ⟨hcx0,hcx1,hfx0,hfx1⟩:=c2_ BX
    have hLr:=(Kd.S_reads' HH.out.hL).2
    have RL:=A_ hLr
    clear hLr
    go_wp2_with (first | ((with_reducible refine gA_ (f:=72) rfl ?_);refine gL_ (some 29) Try.func72 #[.pointer (some ⟨gO,0,none⟩),.agg #[.slice Ay0 y1.length cy0,.slice Ay1 y2.length cy1]] rfl qa_ ?_;(with_reducible refine (M.index_calls k gO _ _ s.L _ _ _ _ _ _ y1 _ _ y2 j _ RL.out.2 RL.out.1 (Kd.R_reads' Y0.out).2.2 (Kd.R_reads' Y0.out).2.1 (Kd.R_reads' Y1.out).2.2 (Kd.R_reads' Y1.out).2.1 HH.out.hO AJ.out).mono ?_);rintro e wj ⟨rfl,hb⟩;refine ⟨_,rfl,?_⟩;replace HH:=A_ (HH.out.below hb);replace HB:=b1_ hb;clear hb;have hdo1:wj.cell? ⟨gO,1,none⟩ = some (.slice AW s.W.length cW):=(blk_cell HH.out.hO 1).trans rfl;have hgo1:=kD_ HH.out.hO 1))
    go_ret2
    exact ⟨qb_,hB_⟩
   ·rw [if_neg hj] at H
    have hjb:=oD_ hj
    have hjw:=cp_ H
    replace H:=ca_ H
    have hj0:0≤j:=by omega
    by_cases h40:((rdOf ByteArray.empty s.W j).size:Int) > 40
    ·rw [if_pos h40] at H
     have e0:((⟨#[]⟩:ByteArray),false) = (r1,r2):=Option.some.inj H
     injection e0 with e1 e2
     subst e1 e2
     have h4b:decide (40 < ((rdOf ByteArray.empty s.W j).size:Int)) = true:=oC_ h40
     have h4c:decide (40 < (rdOf ByteArray.empty s.W j).size) = true:=oC_ (by omega)
     go_enter Try.func25,Try.ntmps25
     go_upto_region 3 with (first | ((with_reducible refine gB_ (N:=2) rfl ?_);refine bx_ 2 #[.slice A0_0 l0_0.length c0_0,.slice A0_1 l0_1.length c0_1] 25 ?_;intro gs hg wgs hbox hb;have Bgs:=A_ hbox;replace HB:=b1_ hb;clear hb hbox hg;have hczgs0:=cz0_ Bgs;have hczgs1:=cz1_ Bgs;have hfzgs0:=kD_ Bgs.out 0;have hfzgs1:=kD_ Bgs.out 1) | ((with_reducible refine gB_ (N:=3) rfl ?_);refine bx_ 3 #[.slice A1_0 l1_0.length c1_0,.slice A1_1 l1_1.length c1_1] 25 ?_;intro gt hg wgt hbox hb;have Bgt:=A_ hbox;replace Bgs:=bb_ Bgs hb;have hcy0:=cz0_ Bgs;have hcy1:=cz1_ Bgs;have hfy0:=kD_ Bgs.out 0;have hfy1:=kD_ Bgs.out 1;replace HB:=b1_ hb;clear hb hbox hg;have hczgt0:=cz0_ Bgt;have hczgt1:=cz1_ Bgt;have hfzgt0:=kD_ Bgt.out 0;have hfzgt1:=kD_ Bgt.out 1) | ((with_reducible refine gA_ (f:=59) rfl ?_);refine gL_ (some 13) Try.func59 #[.agg #[.slice A0_0 l0_0.length c0_0,.slice A0_1 l0_1.length c0_1]] rfl qa_ ?_;(with_reducible refine (M.orbit_calls k _ _ l0_0 _ _ l0_1 (some s) _ (cb_ HR0_0) HC0_0.out (cb_ HR0_1) HC0_1.out AZ.out).mono ?_);rintro e wz ⟨gO,gM,nm_,col,vL,vW,vF,vB,vT,vS,rfl,hh,hb⟩;refine ⟨_,rfl,?_⟩;replace Bgt:=bb_ Bgt hb;have hcu0:=cz0_ Bgt;have hcu1:=cz1_ Bgt;have hfu0:=kD_ Bgt.out 0;have hfu1:=kD_ Bgt.out 1;replace HB:=b1_ hb;have HH:=A_ hh;clear hb hh;obtain ⟨AL,cL,eL⟩:=Kd.S_slice HH.out.hL;subst eL;obtain ⟨AW,cW,eW⟩:=Kd.R_slice HH.out.hW;subst eW;have hco0:wz.cell? ⟨gO,0,none⟩ = some (.slice AL s.L.length cL):=(blk_cell HH.out.hO 0).trans rfl;have hco1:wz.cell? ⟨gO,1,none⟩ = some (.slice AW s.W.length cW):=(blk_cell HH.out.hO 1).trans rfl;have hfo0:=kD_ HH.out.hO 0;have hfo1:=kD_ HH.out.hO 1) | ((with_reducible refine gA_ (f:=28) rfl ?_);refine gL_ (some 18) Try.func28 #[.agg #[.slice A1_0 l1_0.length c1_0,.slice A1_1 l1_1.length c1_1]] rfl qa_ ?_;(with_reducible refine (Z50.calls k _ _ l1_0 _ _ l1_1 y1 y2 _ _ (cb_ HR1_0) HC1_0.out (cb_ HR1_1) HC1_1.out AY.out).mono ?_);rintro e wy ⟨v0,v1,rfl,ho0,ho1,hb⟩;refine ⟨_,rfl,?_⟩;replace HH:=A_ (HH.out.below hb);replace HB:=b1_ hb;clear hb;obtain ⟨Ay0,cy0,ey0⟩:=Kd.R_slice ho0;subst ey0;obtain ⟨Ay1,cy1,ey1⟩:=Kd.R_slice ho1;subst ey1;have Y0:=A_ ho0;have Y1:=A_ ho1;clear ho0 ho1) | ((with_reducible refine gB_ (N:=8) rfl ?_);refine bx_ 8 #[.slice none 0 0,.slice none 0 0] 25 ?_;intro gx hg wx hbox hb;have GX:=A_ (show wy.heap.size≤gx from Nat.le_of_eq hg.symm);have BX:=A_ hbox;have B3:=A_ hb;clear hb hbox hg;have hcf0:=cz0_ BX;have hcf1:=cz1_ BX;have hff0:=kD_ BX.out 0;have hff1:=kD_ BX.out 1))
     obtain ⟨hbox,hkp,hB2⟩:=M.box_store (w0:=wy) BX.out (.slice Ay0 y1.length cy0) (.slice Ay1 y2.length cy1) B3.out GX.out
     generalize hw:((wx.setCell ⟨gx,0,none⟩ (.slice Ay0 y1.length cy0)).setCell ⟨gx,1,none⟩ (.slice Ay1 y2.length cy1)) = wv at hbox hkp hB2 ⊢
     clear hw hcf0 hcf1 hff0 hff1
     replace HH:=A_ (HH.out.below hB2)
     replace Y0:=A_ (rD_ Y0.out hB2)
     replace Y1:=A_ (rD_ Y1.out hB2)
     replace HB:=A_ (bE_ HB.out hB2)
     replace BX:=A_ (show wv.heap[gx]? = some (.cells #[.slice Ay0 y1.length cy0,.slice Ay1 y2.length cy1] 25 (0,0)) from hbox)
     clear hbox hkp hB2 B3
     obtain ⟨hcx0,hcx1,hfx0,hfx1⟩:=c2_ BX
     have hLr:=(Kd.S_reads' HH.out.hL).2
     have RL:=A_ hLr
     clear hLr
     go_upto_region 6 with (first | ((with_reducible refine gA_ (f:=72) rfl ?_);refine gL_ (some 29) Try.func72 #[.pointer (some ⟨gO,0,none⟩),.agg #[.slice Ay0 y1.length cy0,.slice Ay1 y2.length cy1]] rfl qa_ ?_;(with_reducible refine (M.index_calls k gO _ _ s.L _ _ _ _ _ _ y1 _ _ y2 j _ RL.out.2 RL.out.1 (Kd.R_reads' Y0.out).2.2 (Kd.R_reads' Y0.out).2.1 (Kd.R_reads' Y1.out).2.2 (Kd.R_reads' Y1.out).2.1 HH.out.hO AJ.out).mono ?_);rintro e wj ⟨rfl,hb⟩;refine ⟨_,rfl,?_⟩;replace HH:=A_ (HH.out.below hb);replace HB:=b1_ hb;clear hb;have hdo1:wj.cell? ⟨gO,1,none⟩ = some (.slice AW s.W.length cW):=(blk_cell HH.out.hO 1).trans rfl;have hgo1:=kD_ HH.out.hO 1))
     obtain ⟨adw,ew,hxw⟩:=Kd.at_string (Kd.R_reads' HH.out.hW).2.2 j hj0 hjw
     cases ew
     have tj0:=eq_true hj0
     have tjw:=eq_true hjw
     have tjd:=oC_ hjw
     go_wp2
     go_ret2
     exact ⟨qb_,hB_⟩
    ·rw [if_neg h40] at H
     have e0:(rdOf ByteArray.empty s.W j,true) = (r1,r2):=Option.some.inj H
     injection e0 with e1 e2
     subst e1 e2
     have h4b:decide (40 < ((rdOf ByteArray.empty s.W j).size:Int)) = false:=oD_ h40
     have h4c:decide (40 < (rdOf ByteArray.empty s.W j).size) = false:=oD_ (by omega)
     go_enter Try.func25,Try.ntmps25
     go_upto_region 3 with (first | ((with_reducible refine gB_ (N:=2) rfl ?_);refine bx_ 2 #[.slice A0_0 l0_0.length c0_0,.slice A0_1 l0_1.length c0_1] 25 ?_;intro gs hg wgs hbox hb;have Bgs:=A_ hbox;replace HB:=b1_ hb;clear hb hbox hg;have hczgs0:=cz0_ Bgs;have hczgs1:=cz1_ Bgs;have hfzgs0:=kD_ Bgs.out 0;have hfzgs1:=kD_ Bgs.out 1) | ((with_reducible refine gB_ (N:=3) rfl ?_);refine bx_ 3 #[.slice A1_0 l1_0.length c1_0,.slice A1_1 l1_1.length c1_1] 25 ?_;intro gt hg wgt hbox hb;have Bgt:=A_ hbox;replace Bgs:=bb_ Bgs hb;have hcy0:=cz0_ Bgs;have hcy1:=cz1_ Bgs;have hfy0:=kD_ Bgs.out 0;have hfy1:=kD_ Bgs.out 1;replace HB:=b1_ hb;clear hb hbox hg;have hczgt0:=cz0_ Bgt;have hczgt1:=cz1_ Bgt;have hfzgt0:=kD_ Bgt.out 0;have hfzgt1:=kD_ Bgt.out 1) | ((with_reducible refine gA_ (f:=59) rfl ?_);refine gL_ (some 13) Try.func59 #[.agg #[.slice A0_0 l0_0.length c0_0,.slice A0_1 l0_1.length c0_1]] rfl qa_ ?_;(with_reducible refine (M.orbit_calls k _ _ l0_0 _ _ l0_1 (some s) _ (cb_ HR0_0) HC0_0.out (cb_ HR0_1) HC0_1.out AZ.out).mono ?_);rintro e wz ⟨gO,gM,nm_,col,vL,vW,vF,vB,vT,vS,rfl,hh,hb⟩;refine ⟨_,rfl,?_⟩;replace Bgt:=bb_ Bgt hb;have hcu0:=cz0_ Bgt;have hcu1:=cz1_ Bgt;have hfu0:=kD_ Bgt.out 0;have hfu1:=kD_ Bgt.out 1;replace HB:=b1_ hb;have HH:=A_ hh;clear hb hh;obtain ⟨AL,cL,eL⟩:=Kd.S_slice HH.out.hL;subst eL;obtain ⟨AW,cW,eW⟩:=Kd.R_slice HH.out.hW;subst eW;have hco0:wz.cell? ⟨gO,0,none⟩ = some (.slice AL s.L.length cL):=(blk_cell HH.out.hO 0).trans rfl;have hco1:wz.cell? ⟨gO,1,none⟩ = some (.slice AW s.W.length cW):=(blk_cell HH.out.hO 1).trans rfl;have hfo0:=kD_ HH.out.hO 0;have hfo1:=kD_ HH.out.hO 1) | ((with_reducible refine gA_ (f:=28) rfl ?_);refine gL_ (some 18) Try.func28 #[.agg #[.slice A1_0 l1_0.length c1_0,.slice A1_1 l1_1.length c1_1]] rfl qa_ ?_;(with_reducible refine (Z50.calls k _ _ l1_0 _ _ l1_1 y1 y2 _ _ (cb_ HR1_0) HC1_0.out (cb_ HR1_1) HC1_1.out AY.out).mono ?_);rintro e wy ⟨v0,v1,rfl,ho0,ho1,hb⟩;refine ⟨_,rfl,?_⟩;replace HH:=A_ (HH.out.below hb);replace HB:=b1_ hb;clear hb;obtain ⟨Ay0,cy0,ey0⟩:=Kd.R_slice ho0;subst ey0;obtain ⟨Ay1,cy1,ey1⟩:=Kd.R_slice ho1;subst ey1;have Y0:=A_ ho0;have Y1:=A_ ho1;clear ho0 ho1) | ((with_reducible refine gB_ (N:=8) rfl ?_);refine bx_ 8 #[.slice none 0 0,.slice none 0 0] 25 ?_;intro gx hg wx hbox hb;have GX:=A_ (show wy.heap.size≤gx from Nat.le_of_eq hg.symm);have BX:=A_ hbox;have B3:=A_ hb;clear hb hbox hg;have hcf0:=cz0_ BX;have hcf1:=cz1_ BX;have hff0:=kD_ BX.out 0;have hff1:=kD_ BX.out 1))
     obtain ⟨hbox,hkp,hB2⟩:=M.box_store (w0:=wy) BX.out (.slice Ay0 y1.length cy0) (.slice Ay1 y2.length cy1) B3.out GX.out
     generalize hw:((wx.setCell ⟨gx,0,none⟩ (.slice Ay0 y1.length cy0)).setCell ⟨gx,1,none⟩ (.slice Ay1 y2.length cy1)) = wv at hbox hkp hB2 ⊢
     clear hw hcf0 hcf1 hff0 hff1
     replace HH:=A_ (HH.out.below hB2)
     replace Y0:=A_ (rD_ Y0.out hB2)
     replace Y1:=A_ (rD_ Y1.out hB2)
     replace HB:=A_ (bE_ HB.out hB2)
     replace BX:=A_ (show wv.heap[gx]? = some (.cells #[.slice Ay0 y1.length cy0,.slice Ay1 y2.length cy1] 25 (0,0)) from hbox)
     clear hbox hkp hB2 B3
     obtain ⟨hcx0,hcx1,hfx0,hfx1⟩:=c2_ BX
     have hLr:=(Kd.S_reads' HH.out.hL).2
     have RL:=A_ hLr
     clear hLr
     go_upto_region 6 with (first | ((with_reducible refine gA_ (f:=72) rfl ?_);refine gL_ (some 29) Try.func72 #[.pointer (some ⟨gO,0,none⟩),.agg #[.slice Ay0 y1.length cy0,.slice Ay1 y2.length cy1]] rfl qa_ ?_;(with_reducible refine (M.index_calls k gO _ _ s.L _ _ _ _ _ _ y1 _ _ y2 j _ RL.out.2 RL.out.1 (Kd.R_reads' Y0.out).2.2 (Kd.R_reads' Y0.out).2.1 (Kd.R_reads' Y1.out).2.2 (Kd.R_reads' Y1.out).2.1 HH.out.hO AJ.out).mono ?_);rintro e wj ⟨rfl,hb⟩;refine ⟨_,rfl,?_⟩;replace HH:=A_ (HH.out.below hb);replace HB:=b1_ hb;clear hb;have hdo1:wj.cell? ⟨gO,1,none⟩ = some (.slice AW s.W.length cW):=(blk_cell HH.out.hO 1).trans rfl;have hgo1:=kD_ HH.out.hO 1))
     obtain ⟨adw,ew,hxw⟩:=Kd.at_string (Kd.R_reads' HH.out.hW).2.2 j hj0 hjw
     cases ew
     have tj0:=eq_true hj0
     have tjw:=eq_true hjw
     have tjd:=oC_ hjw
     go_wp2
     go_ret2
     exact ⟨qb_,hB_⟩
def Z18.f (l0_0:List Int) (l0_1:List Int):Option (List Int × List Int):=(Z40.f l0_0).bind fun t429=>((Z40.f l0_1).bind fun t432=>(some (t429,t432)))
def Z18.T1:Bool × List (List Nat × List Nat):=(true,[([],[]),([0],[0]),([1],[1]),([],[]),([3],[3]),([4,2],[4]),([2,5],[2,5]),([6,5,0,1,2,3,4,5,6],[6])])
def Z18.B1:List Nat:=[0,1,3,0,8,31,63,127]
theorem Z18.tab1:rtab .any (opsOf Try.f62 1) = Z18.T1:=by kernel_rfl
theorem Z18.bits1:waitsOk Z18.T1.2 Z18.B1 = true:=by kernel_rfl
set_option maxHeartbeats 8000000 in
set_option maxRecDepth 100000 in
theorem Z18.calls (A0_0:Option Addr) (c0_0:Nat) (l0_0:List Int) (A0_1:Option Addr) (c0_1:Nat) (l0_1:List Int) (r1:List Int) (r2:List Int) (w:World) (hr0_0:Kd.C (Kd.int .i64) w A0_0 l0_0.length l0_0) (hc0_0:l0_0.length≤c0_0) (hr0_1:Kd.C (Kd.int .i64) w A0_1 l0_1.length l0_1) (hc0_1:l0_1.length≤c0_1) (h:Z18.f l0_0 l0_1 = some (r1,r2)) :
  Calls Try.prog 62 #[.agg #[.slice A0_0 l0_0.length c0_0,.slice A0_1 l0_1.length c0_1]] w fun e w'=>∃ v0_ v1_:Value,e = .returned (.agg #[v0_,v1_])∧Kd.R (Kd.int .i64) 3 w' w.heap.size (fun k_=>some k_≠(v1_:Value).ownBlock) v0_ r1∧Kd.R (Kd.int .i64) 3 w' w.heap.size (fun k_=>some k_≠(v0_:Value).ownBlock) v1_ r2∧Below w.heap.size w w':=by
 have hu25:=Try.underlying25
 have HR0_0:=A_ hr0_0
 have HC0_0:=A_ hc0_0
 clear hr0_0 hc0_0
 have HR0_1:=A_ hr0_1
 have HC0_1:=A_ hc0_1
 clear hr0_1 hc0_1
 have HB:=A_ (Below.refl w.heap.size w)
 have H:=h
 unfold Z18.f at H
 clear h
 obtain ⟨t429,A2,H⟩:=bi_ H
 obtain ⟨t432,A3,H⟩:=bi_ H
 simp only [Option.some.injEq,Prod.mk.injEq] at H
 obtain ⟨rfl,rfl⟩:=H
 go_enter Try.func62,Try.ntmps62
 try go_wp2_with (first | ((with_reducible refine gB_ (N:=1) rfl ?_);refine bx_ 1 #[.slice A0_0 l0_0.length c0_0,.slice A0_1 l0_1.length c0_1] 25 ?_;intro gb427 hg w4 hbox hb;have BK427:=A_ hbox;have GW427:=gw_ w hg;have GE427:=GW427;replace HB:=b1_ hb;clear hb hbox hg) | ((with_reducible refine gB_ (N:=2) rfl ?_);refine bx_ 2 #[.slice none 0 0,.slice none 0 0] 25 ?_;intro gb428 hg w5 hbox hb;have BK428:=A_ hbox;have GW428:=gw_ w hg;have GE428:=GW428;replace HB:=b1_ hb;have NB427_428:=gN_ BK427 hg;have NB428_427:=gP_ BK427 hg;replace BK427:=bb_ BK427 hb;clear hb hbox hg))
 replace BK427:=A_ (kB_ BK427.out)
 replace BK428:=A_ (kB_ BK428.out)
 replace HB:=A_ (bC_ HB.out)
 refine start_ (n:=8) (S:=fun w'=>w'.cell? ⟨gb427,0,none⟩ = some (.slice A0_0 l0_0.length c0_0)∧w'.cell? ⟨gb427,1,none⟩ = some (.slice A0_1 l0_1.length c0_1)) (ds:=[]) (bl_ 8 0) (by kernel_rfl) rfl (by kernel_rfl) ⟨cz0_ BK427,cz1_ BK427⟩ (fun hHeld=>?_);refine with_tabW Z18.tab1 Z18.bits1 (fun HT_ HW_=>?_)
 generalize w5.drew = w6 at BK427 BK428 HB hHeld ⊢
 refine pu_ 0 (some 3) (bl_ 8 1) HT_ ?_
 refine pu_ 3 (some 6) (bl_ 8 9) HT_ ?_
 refine ta_ 1 (some 4) (bl_ 8 11) HT_ HW_ hHeld ?_
 refine ta_ 4 (some 7) (bl_ 8 27) HT_ HW_ hHeld ?_
 refine on_ 2 (some 5) (bl_ 8 31) HT_ (fun K hK=>?_)
 refine gO_ Try.func67 #[.slice A0_0 l0_0.length c0_0] (by rfl) rfl rfl qa_ ?_
 with_reducible refine (Z40.calls _ _ l0_0 t429 _ (cb_ HR0_0) HC0_0.out A2.out).mono ?_
 rintro e w7 ⟨v430,rfl,ho0,hb⟩
 refine ⟨_,rfl,?_⟩
 have HO431:=rl_ w ho0
 replace BK427:=bb_ BK427 hb
 replace BK428:=bb_ BK428 hb
 replace HB:=b1_ hb
 clear hb ho0
 refine hK.out _ _ ⟨cz0_ BK427,cz1_ BK427⟩ (fun hHeld=>?_)
 clear hK K
 refine no_ (some 5) ?_
 refine on_ 5 (some 8) (bl_ 8 63) HT_ (fun K hK=>?_)
 refine gO_ Try.func67 #[.slice A0_1 l0_1.length c0_1] (by rfl) rfl rfl qa_ ?_
 with_reducible refine (Z40.calls _ _ l0_1 t432 _ (cb_ HR0_1) HC0_1.out A3.out).mono ?_
 rintro e w8 ⟨v433,rfl,ho0,hb⟩
 refine ⟨_,rfl,?_⟩
 have HO434:=A_ (rE_ (Kd.R_new' ho0 (Kd.R_lt (rr_ HO431))) (bF_ hB_))
 replace HO431:=A_ (Kd.R_elder' (rr_ HO431) (Kd.R_base ho0) hb)
 replace BK427:=bb_ BK427 hb
 replace BK428:=bb_ BK428 hb
 replace HB:=b1_ hb
 clear hb ho0
 obtain ⟨Ao9,co9,eo9⟩:=Kd.R_slice HO434.out
 (first|subst eo9|(injection eo9 with a_ b_ c_;have a_:=a_.symm;have c_:=c_.symm;clear b_;subst a_;subst c_))
 obtain ⟨Ao10,co10,eo10⟩:=Kd.R_slice HO431.out
 (first|subst eo10|(injection eo10 with a_ b_ c_;have a_:=a_.symm;have c_:=c_.symm;clear b_;subst a_;subst c_))
 refine hK.out _ _ ⟨cz0_ BK427,cz1_ BK427⟩ (fun hHeld=>?_)
 clear hK K
 refine no_ (some 8) ?_
 refine pu_ 6 (some 9) (bl_ 8 127) HT_ ?_
 refine on_ 7 (none) (bl_ 8 255) HT_ (fun K hK=>?_)
 have hs11:w8.cell? ⟨gb428,0,none⟩ = some (.slice none 0 0):=cz0_ BK428
 have hfs11:=kD_ BK428.out 0
 have hns11_0:=NB427_428.out
 have hms11_0:=NB428_427.out
 have hs12:w8.cell? ⟨gb428,1,none⟩ = some (.slice none 0 0):=cz1_ BK428
 have hfs12:=kD_ BK428.out 1
 have hns12_0:=NB427_428.out
 have hms12_0:=NB428_427.out
 refine skip_ (w1:=?_) (by rfl) rfl ?_ ?_
 rotate_left
 ·go_simp
  rfl
 refine hK.out _ _ ⟨((cell_far (p:=⟨gb428,_,none⟩) NB427_428.out _).trans (((cell_far (p:=⟨gb428,_,none⟩) NB427_428.out _).trans (hHeld.1)))),((cell_far (p:=⟨gb428,_,none⟩) NB427_428.out _).trans (((cell_far (p:=⟨gb428,_,none⟩) NB427_428.out _).trans (hHeld.2))))⟩ (fun hHeld=>?_)
 clear hK K
 refine done_ (done_of HT_.out (by kernel_rfl)) ?_
 try go_wp2
 refine bodyPost_ret (results_cell_row rfl _ _ gb428 25 #[.slice Ao10 t429.length co10,.slice Ao9 t432.length co9] (0,0) _ rfl qp_ Try.underlying25 rfl (by kernel_rfl)) rfl ?_
 exact ⟨_,_,qb_,(rw_ (Kd.R_mono (fa_ HO431 BK428) (fun _ hk=>hk.2))),(rw_ (Kd.R_mono (fa_ HO434 BK428) (fun _ hk=>hk.2))),hB_⟩
def Z1.f (s:ByteArray) (c:Int):Option Int:=some (Lib.indexByte s.data.toList c.toNat.toUInt8)
set_option maxHeartbeats 8000000 in
set_option maxRecDepth 100000 in
theorem Z1.calls (a0:ByteArray) (a1:Int) (r:Int) (w:World) (h:Z1.f a0 a1 = some r) :
  Calls Try.prog 143 #[.string a0,.int .u8 a1] w fun e w'=>e = .returned (.int .i64 r)∧Below w.heap.size w w':=by
 unfold Z1.f at h
 obtain rfl:=Option.some.inj h
 clear h
 go_enter Try.func143,Try.ntmps143
 go_wp2
 rw [run_callFunc_extern Try.func161 (by kernel_rfl) (by kernel_rfl) (by kernel_rfl) (e:=Extern.BytealgIndexByte.indexByte) (by kernel_rfl),Lib.run_indexByteString]
 simp only [Result.andThen]
 rw [Oper.upon_value]
 go_wp2
 go_ret
 exact ⟨rfl,by repeat (first | (with_reducible first | exact Below.refl _ _ | apply bA_ | apply bB_ | apply bC_) | exact Below.refl _ _)⟩
def Z14.f (a0:ByteArray) (a1:Int):Option (Int):=(Z1.f a0 a1).bind fun t622=>(some t622)
set_option maxHeartbeats 8000000 in
set_option maxRecDepth 100000 in
theorem Z14.calls (a0:ByteArray) (a1:Int) (r:Int) (w:World) (h:Z14.f a0 a1 = some r) :
  Calls Try.prog 110 #[.string a0,.int .u8 a1] w fun e w'=>e = .returned (.int .i64 r)∧Below w.heap.size w w':=by
 have HB:=A_ (Below.refl w.heap.size w)
 have H:=h
 unfold Z14.f at H
 clear h
 obtain ⟨t622,A3,H⟩:=bi_ H
 obtain rfl:=Option.some.inj H
 go_enter Try.func110,Try.ntmps110
 go_wp2_with (first | ((with_reducible refine gA_ (f:=143) rfl ?_);refine gL_ (some 7) Try.func143 #[.string a0,.int .u8 a1] rfl qa_ ?_;(with_reducible refine (Z1.calls a0 a1 t622 _ A3.out).mono ?_);rintro e w4 ⟨rfl,hb⟩;refine ⟨_,rfl,?_⟩;replace HB:=b1_ hb;clear hb))
 go_ret
 exact ⟨qb_,hB_⟩
def Z65.l0:Nat→ByteArray→Int→Option (Bool)
 | 0,_,_=>none
 | k + 1,x0,x3=>if x3 < (x0.size:Int) then (if 0≤x3 then ((Z14.f (⟨#[84,116,83,115]⟩:ByteArray) (bt x0 x3)).bind fun t623=>(if t623 < 0 then (some false) else (Z65.l0 k x0 (wrap64 (x3 + 1))))) else (none)) else (some (decide ((x0.size:Int)≤40)))
def Z65.f (k:Nat) (a0:ByteArray):Option (Bool):=Z65.l0 k a0 0
theorem Z65.mono_l:∀ k,(∀ y0 y1,LeO (Z65.l0 k y0 y1) (Z65.l0 (k + 1) y0 y1))
 | 0=>fun _ _ r h=>by simp [Z65.l0] at h
 | k + 1=>by
  have ih0:=Z65.mono_l k
  ·intro y0 y1
   unfold Z65.l0
   repeat' first|exact ih0 _ _|exact lo_|refine LeO.ite ?_ ?_|refine LeO.bind ?_ (fun _=>?_)
theorem Z65.mono:∀ a0 k,LeO (Z65.f k a0) (Z65.f (k + 1) a0):=by
 intro a0 k
 have ih0:=Z65.mono_l k
 unfold Z65.f
 repeat' first|exact ih0 _ _|exact lo_|refine LeO.ite ?_ ?_|refine LeO.bind ?_ (fun _=>?_)
set_option maxHeartbeats 8000000 in
set_option maxRecDepth 100000 in
theorem Z65.calls (k:Nat) (a0:ByteArray) (r:Bool) (w:World) (h:Z65.f k a0 = some r) :
  Calls Try.prog 73 #[.string a0] w fun e w'=>e = .returned (.bool r)∧Below w.heap.size w w':=by
 have HB:=A_ (Below.refl w.heap.size w)
 have H:=h
 unfold Z65.f at H
 clear h
 have H':=A_ H
 clear H
 go_enter Try.func73,Try.ntmps73
 go_wp2
 go_loopg [3] k (fun kq v3 w'=>∃ (x3_1:Int),v3 = .int .i64 x3_1∧Aside0 (Z65.l0 kq a0 x3_1 = some r)∧Aside0 (kq≤k)∧Aside0 (Below w.heap.size w w'))
 case atStart=>exact ⟨(0),qc_,H',⟨nA_ _⟩,⟨hB_⟩⟩
 case round =>
  clear H'
  obtain ⟨x3_1,rfl,HA,HK1,HB⟩:=hrel
  cases gk with
  | zero=>exact absurd HA.out (by simp [Z65.l0])
  | succ k1 =>
   have H:=HA.out
   clear HA
   simp only [Z65.l0] at H
   by_cases c2:x3_1 < (a0.size:Int)
   ·rw [if_pos c2] at H
    have c2b0:=oC_ c2
    clear c2
    replace H:=cx_ H;obtain ⟨c3b0,H⟩:=H
    obtain ⟨t623,A5,H⟩:=bi_ H
    by_cases c6:t623 < 0
    ·rw [if_pos c6] at H
     have c6b0:=oC_ c6
     clear c6
     obtain rfl:=Option.some.inj H
     have p4:0≤(x3_1:Int):=oB_ qe_
     have q4:x3_1 < (a0.size:Int):=oB_ qe_
     have hx4:=bt_at a0 x3_1
     replace p4:=eq_true p4
     replace q4:=eq_true q4
     go_wp2_with (first | ((with_reducible refine gA_ (f:=110) rfl ?_);refine gL_ (some 13) Try.func110 #[.string (⟨#[84,116,83,115]⟩:ByteArray),.int .u8 (bt a0 x3_1)] rfl qa_ ?_;(with_reducible refine (Z14.calls (⟨#[84,116,83,115]⟩:ByteArray) (bt a0 x3_1) t623 _ A5.out).mono ?_);rintro e w7 ⟨rfl,hb⟩;refine ⟨_,rfl,?_⟩;replace HB:=b1_ hb;clear hb))
     go_ret
     exact ⟨qb_,hB_⟩
    ·rw [if_neg c6] at H
     have c6b0:=oD_ c6
     clear c6
     have H':=A_ H
     clear H
     have p4:0≤(x3_1:Int):=oB_ qe_
     have q4:x3_1 < (a0.size:Int):=oB_ qe_
     have hx4:=bt_at a0 x3_1
     replace p4:=eq_true p4
     replace q4:=eq_true q4
     go_wp2_with (first | ((with_reducible refine gA_ (f:=110) rfl ?_);refine gL_ (some 13) Try.func110 #[.string (⟨#[84,116,83,115]⟩:ByteArray),.int .u8 (bt a0 x3_1)] rfl qa_ ?_;(with_reducible refine (Z14.calls (⟨#[84,116,83,115]⟩:ByteArray) (bt a0 x3_1) t623 _ A5.out).mono ?_);rintro e w8 ⟨rfl,hb⟩;refine ⟨_,rfl,?_⟩;replace HB:=b1_ hb;clear hb))
     go_roundg k1
     case measure=>have:=HK1.out;omega
     case rel=>exact ⟨(wrap64 (x3_1 + 1)),qc_,H',⟨by have:=HK1.out;omega⟩,⟨hB_⟩⟩
   ·rw [if_neg c2] at H
    have c2b0:=oD_ c2
    clear c2
    obtain rfl:=Option.some.inj H
    go_wp2
    go_ret
    exact ⟨qb_,hB_⟩
end Go.Proofs.Ytcggfjpnfodbaaa.A
end
section
namespace Go.Proofs.Ytcggfjpnfodbaaa.A
open Go.RowKit Go.Proofs.YtcggfjpnfodbaaaW.PrintWords Go.Proofs.YtcggfjpnfodbaaaW.PrintLast Go.Proofs.YtcggfjpnfodbaaaW.PrintMore
attribute [local go_sem] max2_int min2_int max_two min_two max_three min_three max_four min_four
set_option linter.unusedVariables false
set_option linter.unusedSimpArgs false
mutual
def Z53.j0:Nat→ByteArray→Bool→List Int→List Int→Option (List Int × List Int × Bool)
 | 0,_,_,_,_=>none
 | k + 1,x1,x15,x625000,x625001=>if x15 = true then (some (([]:List Int),([]:List Int),false)) else ((Z18.f x625000 x625001).bind fun bt628=>(Z53.l0 k x1 0 bt628.1 bt628.2))
def Z53.l0:Nat→ByteArray→Int→List Int→List Int→Option (List Int × List Int × Bool)
 | 0,_,_,_,_=>none
 | k + 1,x1,x7,x635000,x635001=>if x7 < (x1.size:Int) then (if 0≤x7 then ((Z8.f k x635000 x635001 (bt x1 x7)).bind fun bt635=>(Z53.l0 k x1 (wrap64 (x7 + 1)) bt635.1 bt635.2)) else (none)) else (some (x635000,x635001,true))
end
def Z53.f (k:Nat) (l0_0:List Int) (l0_1:List Int) (a1:ByteArray):Option (List Int × List Int × Bool):=(Z29.f k l0_0 l0_1).bind fun t626=>(if t626 = true then ((Z65.f k a1).bind fun t627=>(Z53.j0 k a1 (!t627) l0_0 l0_1)) else (Z53.j0 k a1 true l0_0 l0_1))
theorem Z53.mono_l:∀ k,(∀ y0 y1 y2 y3,LeO (Z53.j0 k y0 y1 y2 y3) (Z53.j0 (k + 1) y0 y1 y2 y3))∧(∀ y0 y1 y2 y3,LeO (Z53.l0 k y0 y1 y2 y3) (Z53.l0 (k + 1) y0 y1 y2 y3))
 | 0=>⟨fun _ _ _ _ r h=>by simp [Z53.j0] at h,fun _ _ _ _ r h=>by simp [Z53.l0] at h⟩
 | k + 1=>by
  obtain ⟨ih0,ih1⟩:=Z53.mono_l k
  refine ⟨?_,?_⟩
  ·intro y0 y1 y2 y3
   unfold Z53.j0
   repeat' first|exact ih0 _ _ _ _|exact ih1 _ _ _ _|exact Z29.mono _ _ _|exact Z65.mono _ _|exact Z8.mono _ _ _ _|exact lo_|refine LeO.ite ?_ ?_|refine LeO.bind ?_ (fun _=>?_)
  ·intro y0 y1 y2 y3
   unfold Z53.l0
   repeat' first|exact ih0 _ _ _ _|exact ih1 _ _ _ _|exact Z29.mono _ _ _|exact Z65.mono _ _|exact Z8.mono _ _ _ _|exact lo_|refine LeO.ite ?_ ?_|refine LeO.bind ?_ (fun _=>?_)
theorem Z53.mono:∀ a0 a1 a2 k,LeO (Z53.f k a0 a1 a2) (Z53.f (k + 1) a0 a1 a2):=by
 intro a0 a1 a2 k
 obtain ⟨ih0,ih1⟩:=Z53.mono_l k
 unfold Z53.f
 repeat' first|exact ih0 _ _ _ _|exact ih1 _ _ _ _|exact Z29.mono _ _ _|exact Z65.mono _ _|exact Z8.mono _ _ _ _|exact lo_|refine LeO.ite ?_ ?_|refine LeO.bind ?_ (fun _=>?_)
set_option maxHeartbeats 8000000 in
set_option maxRecDepth 100000 in
theorem Z53.calls (k:Nat) (A0_0:Option Addr) (c0_0:Nat) (l0_0:List Int) (A0_1:Option Addr) (c0_1:Nat) (l0_1:List Int) (a1:ByteArray) (r1:List Int) (r2:List Int) (r3:Bool) (w:World) (hr0_0:Kd.C (Kd.int .i64) w A0_0 l0_0.length l0_0) (hc0_0:l0_0.length≤c0_0) (hr0_1:Kd.C (Kd.int .i64) w A0_1 l0_1.length l0_1) (hc0_1:l0_1.length≤c0_1) (h:Z53.f k l0_0 l0_1 a1 = some (r1,r2,r3)) :
  Calls Try.prog 26 #[.agg #[.slice A0_0 l0_0.length c0_0,.slice A0_1 l0_1.length c0_1],.string a1] w fun e w'=>∃ v0_ v1_:Value,e = .returned (.tuple #[.agg #[v0_,v1_],.bool r3])∧Kd.R (Kd.int .i64) 3 w' w.heap.size (fun k_=>some k_≠(v1_:Value).ownBlock) v0_ r1∧Kd.R (Kd.int .i64) 3 w' w.heap.size (fun k_=>some k_≠(v0_:Value).ownBlock) v1_ r2∧Below w.heap.size w w':=by
 have hu25:=Try.underlying25
 have HR0_0:=A_ hr0_0
 have HC0_0:=A_ hc0_0
 clear hr0_0 hc0_0
 have HR0_1:=A_ hr0_1
 have HC0_1:=A_ hc0_1
 clear hr0_1 hc0_1
 have HB:=A_ (Below.refl w.heap.size w)
 have H:=h
 unfold Z53.f at H
 clear h
 have HC3:=A_ H
 clear H
 go_enter Try.func26,Try.ntmps26
 go_upto_region 1 with (first | ((with_reducible refine gB_ (N:=2) rfl ?_);refine bx_ 2 #[.slice A0_0 l0_0.length c0_0,.slice A0_1 l0_1.length c0_1] 25 ?_;intro gb624 hg w4 hbox hb;have BK624:=A_ hbox;have GW624:=gw_ w hg;have GE624:=GW624;replace HB:=b1_ hb;clear hb hbox hg) | ((with_reducible refine gB_ (N:=4) rfl ?_);refine bx_ 4 #[.slice none 0 0,.slice none 0 0] 25 ?_;intro gb625 hg w5 hbox hb;have BK625:=A_ hbox;have GW625:=gw_ w hg;have GE625:=GW625;replace HB:=b1_ hb;have NB624_625:=gN_ BK624 hg;have NB625_624:=gP_ BK624 hg;replace BK624:=bb_ BK624 hb;clear hb hbox hg))
 (try simp only [Act.put,sA_,sB_,sC_])
 go_cut [15] (fun v15 wc=>∃ (kq:Nat) (x15_2:Bool),v15 = .bool x15_2∧Aside0 (Z53.j0 kq a1 x15_2 l0_0 l0_1 = some (r1,r2,r3))∧Aside0 (kq≤k)∧Aside0 (wc.heap[gb624]? = some (.cells #[(.slice A0_0 l0_0.length c0_0),(.slice A0_1 l0_1.length c0_1)] 25 (0,0)))∧Aside0 (wc.heap[gb625]? = some (.cells #[(.slice none 0 0),(.slice none 0 0)] 25 (0,0)))∧Aside0 (Below w.heap.size w wc))
 case first =>
  have H:=HC3.out
  clear HC3
  obtain ⟨t626,A6,H⟩:=bi_ H
  by_cases c7:t626 = true
  ·subst c7
   rw [if_pos rfl] at H
   obtain ⟨t627,A8,H⟩:=bi_ H
   have H':=A_ H
   clear H
   have hnb9:=NB624_625.out
   have hnc9:=NB625_624.out
   obtain ⟨hcz10_0,hcz10_1,hfz10_0,hfz10_1⟩:=c2_ BK624
   go_wp2_with (first | ((with_reducible refine gA_ (f:=66) rfl ?_);refine gL_ (some 9) Try.func66 #[.agg #[.slice A0_0 l0_0.length c0_0,.slice A0_1 l0_1.length c0_1]] rfl qa_ ?_;(with_reducible refine (Z29.calls k _ _ l0_0 _ _ l0_1 true _ (cb_ HR0_0) HC0_0.out (cb_ HR0_1) HC0_1.out A6.out).mono ?_);rintro e w11 ⟨rfl,hb⟩;refine ⟨_,rfl,?_⟩;replace BK624:=bb_ BK624 hb;replace BK625:=bb_ BK625 hb;replace HB:=b1_ hb;clear hb) | (go_at_call 73;(with_reducible refine (Z65.calls k a1 t627 _ A8.out).mono ?_);rintro e w12 ⟨rfl,hb⟩;replace BK624:=bb_ BK624 hb;replace BK625:=bb_ BK625 hb;replace HB:=b1_ hb;clear hb))
   go_meet
   case rel=>exact ⟨_,(!t627),qc_,H',⟨qd_⟩,⟨(kk_ BK624)⟩,⟨(kk_ BK625)⟩,⟨hB_⟩⟩
  ·replace c7:=Bool.eq_false_iff.mpr c7
   subst c7
   have H1:(Z53.j0 k a1 true l0_0 l0_1) = some (r1,r2,r3):=by rw [if_neg (show ¬ (false = true) by decide)] at H;exact H
   clear H
   have H:=H1
   clear H1
   have H':=A_ H
   clear H
   have hnb13:=NB624_625.out
   have hnc13:=NB625_624.out
   obtain ⟨hcz14_0,hcz14_1,hfz14_0,hfz14_1⟩:=c2_ BK624
   go_wp2_with (first | ((with_reducible refine gA_ (f:=66) rfl ?_);refine gL_ (some 9) Try.func66 #[.agg #[.slice A0_0 l0_0.length c0_0,.slice A0_1 l0_1.length c0_1]] rfl qa_ ?_;(with_reducible refine (Z29.calls k _ _ l0_0 _ _ l0_1 false _ (cb_ HR0_0) HC0_0.out (cb_ HR0_1) HC0_1.out A6.out).mono ?_);rintro e w15 ⟨rfl,hb⟩;refine ⟨_,rfl,?_⟩;replace BK624:=bb_ BK624 hb;replace BK625:=bb_ BK625 hb;replace HB:=b1_ hb;clear hb))
   go_meet
   case rel=>exact ⟨_,(true),qc_,H',⟨qd_⟩,⟨(kk_ BK624)⟩,⟨(kk_ BK625)⟩,⟨hB_⟩⟩
 case rest =>
  clear HC3
  obtain ⟨kq,x15_2,rfl,HA,HJ2,BK624,BK625,HB⟩:=hcut
  cases kq with
  | zero=>exact absurd HA.out (by simp [Z53.j0])
  | succ kj2 =>
   have H:=HA.out
   clear HA
   simp only [Z53.j0] at H
   by_cases c16:x15_2 = true
   ·subst c16
    rw [if_pos rfl] at H
    simp only [Option.some.injEq,Prod.mk.injEq] at H
    obtain ⟨rfl,rfl,rfl⟩:=H
    have hnb17:=NB625_624.out
    have hnc17:=NB624_625.out
    obtain ⟨hcz18_0,hcz18_1,hfz18_0,hfz18_1⟩:=c2_ BK625
    go_wp2
    refine bodyPost_ret (results_ct rfl _ _ gb625 25 #[.slice none 0 0,.slice none 0 0] (0,0) _ rfl qp_ Try.underlying25 rfl (by kernel_rfl)) rfl ?_
    exact ⟨_,_,qb_,by first | exact Kd.R_nil _ _ _ _ _ | exact Kd.N_nil _ _ _ _ _ | exact Kd.V_nil _ _ _ _ _ | exact Kd.Q_nil _ _ _ _ _ | exact Kd.S_nil _ _ _ _ _,by first | exact Kd.R_nil _ _ _ _ _ | exact Kd.N_nil _ _ _ _ _ | exact Kd.V_nil _ _ _ _ _ | exact Kd.Q_nil _ _ _ _ _ | exact Kd.S_nil _ _ _ _ _,hB_⟩
   ·replace c16:=Bool.eq_false_iff.mpr c16
    subst c16
    have H1:((Z18.f l0_0 l0_1).bind fun bt628=>(Z53.l0 kj2 a1 0 bt628.1 bt628.2)) = some (r1,r2,r3):=by rw [if_neg (show ¬ (false = true) by decide)] at H;exact H
    clear H
    have H:=H1
    clear H1
    obtain ⟨⟨t628,t631⟩,A19,H⟩:=bi_ H
    try dsimp only at H
    have H':=A_ H
    clear H
    have hnb20:=NB624_625.out
    have hnc20:=NB625_624.out
    obtain ⟨hcz21_0,hcz21_1,hfz21_0,hfz21_1⟩:=c2_ BK624
    go_wp2_with (first | ((with_reducible refine gA_ (f:=62) rfl ?_);refine gL_ (some 18) Try.func62 #[.agg #[.slice A0_0 l0_0.length c0_0,.slice A0_1 l0_1.length c0_1]] rfl qa_ ?_;(with_reducible refine (Z18.calls _ _ l0_0 _ _ l0_1 t628 t631 _ (cb_ HR0_0) HC0_0.out (cb_ HR0_1) HC0_1.out A19.out).mono ?_);rintro e w22 ⟨v629,v632,rfl,ho0,ho1,hb⟩;refine ⟨_,rfl,?_⟩;have HO630:=rl_ w ho0;have HO633:=rl_ w ho1;replace BK624:=bb_ BK624 hb;replace BK625:=bb_ BK625 hb;replace HB:=b1_ hb;clear hb ho0 ho1) | ((with_reducible refine gB_ (N:=6) rfl ?_);refine bx_ 6 #[.slice none 0 0,.slice none 0 0] 25 ?_;intro gb634 hg w23 hbox hb;replace HO630:=rb_ HO630 hb;replace HO633:=rb_ HO633 hb;have BK634:=A_ hbox;have GW634:=gw_ w hg;have GE634:=GW634;replace HB:=b1_ hb;have NB624_634:=gN_ BK624 hg;have NB634_624:=gP_ BK624 hg;replace BK624:=bb_ BK624 hb;have NB625_634:=gN_ BK625 hg;have NB634_625:=gP_ BK625 hg;replace BK625:=bb_ BK625 hb;clear hb hbox hg;obtain ⟨Ao24,co24,eo24⟩:=Kd.R_slice HO630.out;subst eo24;have hnb25:=NB634_624.out;have hnc25:=NB624_634.out;have hnb26:=NB634_625.out;have hnc26:=NB625_634.out;obtain ⟨hcz27_0,hcz27_1,hfz27_0,hfz27_1⟩:=c2_ BK634;obtain ⟨Ao28,co28,eo28⟩:=Kd.R_slice HO633.out;subst eo28))
    go_loopg [7] kj2 (fun kq v7 w'=>∃ (x7_2:Int) (x635000_2:List Int) (x635001_2:List Int) (u635000:Value) (u635001:Value),v7 = .int .i64 x7_2∧Aside0 (Z53.l0 kq a1 x7_2 x635000_2 x635001_2 = some (r1,r2,r3))∧Aside0 (kq≤kj2)∧Aside0 (Kd.R (Kd.int .i64) 3 w' w.heap.size (fun k_=>some k_≠(u635001:Value).ownBlock) u635000 x635000_2)∧Aside0 (Kd.R (Kd.int .i64) 3 w' w.heap.size (fun k_=>some k_≠(u635000:Value).ownBlock) u635001 x635001_2)∧Aside0 (w'.heap[gb624]? = some (.cells #[(.slice A0_0 l0_0.length c0_0),(.slice A0_1 l0_1.length c0_1)] 25 (0,0)))∧Aside0 (w'.heap[gb625]? = some (.cells #[(.slice none 0 0),(.slice none 0 0)] 25 (0,0)))∧Aside0 (w'.heap[gb634]? = some (.cells #[u635000,u635001] 25 (0,0)))∧Aside0 (Below w.heap.size w w'))
    case atStart=>exact ⟨(0),(t628),(t631),(.slice Ao24 t628.length co24),(.slice Ao28 t631.length co28),qc_,H',⟨nA_ _⟩,⟨(rw_ (fa_ HO630 BK634))⟩,⟨(rw_ (fa_ HO633 BK634))⟩,⟨by (with_reducible repeat (first | refine kA_ ?_ _ | refine kB_ ?_ | refine kC_ ?_ _));refine blk_far ?_ NB624_634.out _;(with_reducible repeat (first | refine kA_ ?_ _ | refine kB_ ?_ | refine kC_ ?_ _));refine blk_far ?_ NB624_634.out _;(with_reducible repeat (first | refine kA_ ?_ _ | refine kB_ ?_ | refine kC_ ?_ _));exact BK624.out⟩,⟨by (with_reducible repeat (first | refine kA_ ?_ _ | refine kB_ ?_ | refine kC_ ?_ _));refine blk_far ?_ NB625_634.out _;(with_reducible repeat (first | refine kA_ ?_ _ | refine kB_ ?_ | refine kC_ ?_ _));refine blk_far ?_ NB625_634.out _;(with_reducible repeat (first | refine kA_ ?_ _ | refine kB_ ?_ | refine kC_ ?_ _));exact BK625.out⟩,⟨qp_⟩,⟨hB_⟩⟩
    case round =>
     clear H'
     obtain ⟨x7_2,x635000_2,x635001_2,u635000,u635001,rfl,HA,HK2,HO_635000,HO_635001,BK624,BK625,BK634,HB⟩:=hrel
     cases gk with
     | zero=>exact absurd HA.out (by simp [Z53.l0])
     | succ k2 =>
      have H:=HA.out
      clear HA
      simp only [Z53.l0] at H
      by_cases c29:x7_2 < (a1.size:Int)
      ·rw [if_pos c29] at H
       have c29b0:=oC_ c29
       clear c29
       replace H:=cx_ H;obtain ⟨c30b0,H⟩:=H
       obtain ⟨⟨t635,t638⟩,A32,H⟩:=bi_ H
       try dsimp only at H
       have H':=A_ H
       clear H
       try go_wp2
       replace HO_635000:=A_ (rC_ HO_635000.out)
       replace HO_635001:=A_ (rC_ HO_635001.out)
       replace BK624:=A_ (kB_ BK624.out)
       replace BK625:=A_ (kB_ BK625.out)
       replace BK634:=A_ (kB_ BK634.out)
       replace HB:=A_ (bC_ HB.out)
       have p31:0≤(x7_2:Int):=oB_ qe_
       have q31:x7_2 < (a1.size:Int):=oB_ qe_
       have hx31:=bt_at a1 x7_2
       replace p31:=eq_true p31
       replace q31:=eq_true q31
       obtain ⟨Ao34,co34,eo34⟩:=Kd.R_slice HO_635000.out
       (first|subst eo34|(injection eo34 with a_ b_ c_;have a_:=a_.symm;have c_:=c_.symm;clear b_;subst a_;subst c_))
       obtain ⟨Ao35,co35,eo35⟩:=Kd.R_slice HO_635001.out
       (first|subst eo35|(injection eo35 with a_ b_ c_;have a_:=a_.symm;have c_:=c_.symm;clear b_;subst a_;subst c_))
       refine start_ (n:=6) (S:=fun w'=>w'.cell? ⟨gb634,0,none⟩ = some (.slice Ao34 x635000_2.length co34)∧w'.cell? ⟨gb634,1,none⟩ = some (.slice Ao35 x635001_2.length co35)) (ds:=[5]) (bl_ 6 0) (by kernel_rfl) rfl (by kernel_rfl) ⟨cz0_ BK634,cz1_ BK634⟩ (fun hHeld=>?_)
       generalize wr.drew = w33 at HO_635000 HO_635001 BK624 BK625 BK634 HB hHeld ⊢
       refine pure_ (i:=1) (N:=some 26) (v:=?_) (a':=?_) (bl_ 6 2) rfl rfl (by kernel_rfl) (fun _ _ _ h=>h) (Or.inl ⟨by rfl,?_⟩) ?_ ?_
       rotate_left
       ·intro w'
        go_simp
        with_reducible rfl
       rotate_left
       ·simp only [Act.put,sA_,sB_,sC_,i64_w,i32_w]
        rfl
       refine pure_ (i:=2) (N:=some 27) (v:=?_) (a':=?_) (bl_ 6 6) rfl rfl (by kernel_rfl) (fun _ _ _ h=>h) (Or.inl ⟨by rfl,?_⟩) ?_ ?_
       rotate_left
       ·intro w'
        go_simp
        with_reducible rfl
       rotate_left
       ·simp only [Act.put,sA_,sB_,sC_,i64_w,i32_w]
        rfl
       refine take_ (i:=0) (N:=some 25) (v:=?_) (a':=?_) (bl_ 6 7) rfl rfl (by kernel_rfl) (fun _ _ _ h=>h) (Or.inl ⟨by rfl,?_⟩) hHeld ?_ ?_
       rotate_left
       ·rintro w' ⟨s0,s1⟩
        go_simp
        with_reducible rfl
       rotate_left
       ·simp only [Act.put,sA_,sB_,sC_,i64_w,i32_w]
        rfl
       refine take_ (i:=3) (N:=some 28) (v:=?_) (a':=?_) (bl_ 6 15) rfl rfl (by kernel_rfl) (fun _ _ _ h=>h) (Or.inl ⟨by rfl,?_⟩) hHeld ?_ ?_
       rotate_left
       ·rintro w' ⟨s0,s1⟩
        go_simp
        with_reducible rfl
       rotate_left
       ·simp only [Act.put,sA_,sB_,sC_,i64_w,i32_w]
        rfl
       refine one_ (i:=4) (N:=some 29) (bl_ 6 31) rfl rfl (by kernel_rfl) (by decide) (fun K hK=>?_)
       refine gO_ Try.func63 #[.agg #[.slice Ao34 x635000_2.length co34,.slice Ao35 x635001_2.length co35],.int .u8 (bt a1 x7_2)] (by rfl) rfl rfl qa_ ?_
       with_reducible refine (Z8.calls k2 _ _ x635000_2 _ _ x635001_2 (bt a1 x7_2) t635 t638 _ (cr_ HO_635000) ((Kd.R_reads' HO_635000.out).2.1) (cr_ HO_635001) ((Kd.R_reads' HO_635001.out).2.1) A32.out).mono ?_
       rintro e w36 ⟨v636,v639,rfl,ho0,ho1,hb⟩
       refine ⟨_,rfl,?_⟩
       have HO637:=A_ (rE_ (Kd.R_new' (Kd.R_new' ho0 (Kd.R_lt (rr_ HO_635000))) (Kd.R_lt (rr_ HO_635001))) (bF_ hB_))
       have HO640:=A_ (rE_ (Kd.R_new' (Kd.R_new' ho1 (Kd.R_lt (rr_ HO_635000))) (Kd.R_lt (rr_ HO_635001))) (bF_ hB_))
       replace HO_635000:=A_ (Kd.R_mono (Kd.R_told (Kd.R_told (Kd.R_old (rr_ HO_635000) hb) (Kd.R_base ho0)) (Kd.R_base ho1)) (fun _ h_=>h_.1))
       replace HO_635001:=A_ (Kd.R_mono (Kd.R_told (Kd.R_told (Kd.R_old (rr_ HO_635001) hb) (Kd.R_base ho0)) (Kd.R_base ho1)) (fun _ h_=>h_.1))
       replace BK624:=bb_ BK624 hb
       replace BK625:=bb_ BK625 hb
       replace BK634:=bb_ BK634 hb
       replace HB:=b1_ hb
       clear hb ho0 ho1
       obtain ⟨Ao37,co37,eo37⟩:=Kd.R_slice HO637.out
       (first|subst eo37|(injection eo37 with a_ b_ c_;have a_:=a_.symm;have c_:=c_.symm;clear b_;subst a_;subst c_))
       obtain ⟨Ao39,co39,eo39⟩:=Kd.R_slice HO640.out
       (first|subst eo39|(injection eo39 with a_ b_ c_;have a_:=a_.symm;have c_:=c_.symm;clear b_;subst a_;subst c_))
       refine hK.out _ _ ⟨cz0_ BK634,cz1_ BK634⟩ (fun hHeld=>?_)
       clear hK K
       refine no_ (some 29) ?_
       refine last_ (i:=5) (N:=none) (bl_ 6 63) rfl rfl (by kernel_rfl) (by decide) (fun K hK=>?_)
       have hs38:w36.cell? ⟨gb634,0,none⟩ = some (.slice Ao34 x635000_2.length co34):=cz0_ BK634
       have hfs38:=kD_ BK634.out 0
       have hns38_0:=NB624_634.out
       have hns38_1:=NB625_634.out
       have hms38_0:=NB634_624.out
       have hms38_1:=NB634_625.out
       have hs40:w36.cell? ⟨gb634,1,none⟩ = some (.slice Ao35 x635001_2.length co35):=cz1_ BK634
       have hfs40:=kD_ BK634.out 1
       have hns40_0:=NB624_634.out
       have hns40_1:=NB625_634.out
       have hms40_0:=NB634_624.out
       have hms40_1:=NB634_625.out
       refine skip_ (w1:=?_) (by rfl) rfl ?_ ?_
       rotate_left
       ·go_simp
        rfl
       refine hK.out _ _ ?_
       clear hK K
       refine done_ (by kernel_rfl) ?_
       try go_wp2
       go_roundg k2
       case measure=>have:=HJ2.out;have:=HK2.out;omega
       case rel=>exact ⟨(wrap64 (x7_2 + 1)),(t635),(t638),(.slice Ao37 t635.length co37),(.slice Ao39 t638.length co39),qc_,H',⟨by have:=HJ2.out;have:=HK2.out;omega⟩,⟨(rw_ (Kd.R_mono (fa_ HO637 BK634) (fun _ hk=>hk.1.1)))⟩,⟨(rw_ (Kd.R_mono (fa_ HO640 BK634) (fun _ hk=>hk.1.1)))⟩,⟨by (with_reducible repeat (first | refine kA_ ?_ _ | refine kB_ ?_ | refine kC_ ?_ _));refine blk_far ?_ NB624_634.out _;(with_reducible repeat (first | refine kA_ ?_ _ | refine kB_ ?_ | refine kC_ ?_ _));refine blk_far ?_ NB624_634.out _;(with_reducible repeat (first | refine kA_ ?_ _ | refine kB_ ?_ | refine kC_ ?_ _));exact BK624.out⟩,⟨by (with_reducible repeat (first | refine kA_ ?_ _ | refine kB_ ?_ | refine kC_ ?_ _));refine blk_far ?_ NB625_634.out _;(with_reducible repeat (first | refine kA_ ?_ _ | refine kB_ ?_ | refine kC_ ?_ _));refine blk_far ?_ NB625_634.out _;(with_reducible repeat (first | refine kA_ ?_ _ | refine kB_ ?_ | refine kC_ ?_ _));exact BK625.out⟩,⟨qp_⟩,⟨hB_⟩⟩
      ·rw [if_neg c29] at H
       have c29b0:=oD_ c29
       clear c29
       simp only [Option.some.injEq,Prod.mk.injEq] at H
       obtain ⟨rfl,rfl,rfl⟩:=H
       have hnb41:=NB634_624.out
       have hnc41:=NB624_634.out
       have hnb42:=NB634_625.out
       have hnc42:=NB625_634.out
       obtain ⟨hcz43_0,hcz43_1,hfz43_0,hfz43_1⟩:=c2_ BK634
       obtain ⟨Ao44,co44,eo44⟩:=Kd.R_slice HO_635000.out
       subst eo44
       have hnb45:=NB625_624.out
       have hnc45:=NB624_625.out
       obtain ⟨hcz46_0,hcz46_1,hfz46_0,hfz46_1⟩:=c2_ BK625
       obtain ⟨Ao47,co47,eo47⟩:=Kd.R_slice HO_635001.out
       subst eo47
       go_wp2
       refine bodyPost_ret (results_ct rfl _ _ gb625 25 #[.slice Ao44 x635000_2.length co44,.slice Ao47 x635001_2.length co47] (0,0) _ rfl qp_ Try.underlying25 rfl (by kernel_rfl)) rfl ?_
       exact ⟨_,_,qb_,(rw_ (fa_ HO_635000 BK625)),(rw_ (fa_ HO_635001 BK625)),hB_⟩
end Go.Proofs.Ytcggfjpnfodbaaa.A
end
section
namespace Go.Proofs.Ytcggfjpnfodbaaa.A
open Go.RowKit Go.Proofs.YtcggfjpnfodbaaaW.PrintWords Go.Proofs.YtcggfjpnfodbaaaW.PrintLast Go.Proofs.YtcggfjpnfodbaaaW.PrintMore
attribute [local go_sem] max2_int min2_int max_two min_two max_three min_three max_four min_four
set_option linter.unusedVariables false
set_option linter.unusedSimpArgs false
def Z68.f (s0_0:List Int) (s0_1:Int) (s0_2:Int) (l1:List ByteArray):Option (ByteArray × Int × Int):=(Z44.f s0_0 s0_1 s0_2 (l1.length:Int)).bind fun bt641=>(if 0≤bt641.1 then (if bt641.1 < (l1.length:Int) then (some (rdOf ByteArray.empty l1 bt641.1,bt641.2.1,bt641.2.2)) else (none)) else (none))
set_option maxHeartbeats 8000000 in
set_option maxRecDepth 100000 in
theorem Z68.calls (g:Nat) (s0_0:List Int) (s0_1:Int) (s0_2:Int) (A1:Option Addr) (c1:Nat) (l1:List ByteArray) (r1:ByteArray) (r2:Int) (r3:Int) (w0 w:World) (hI:IsS99 w0 w g s0_0 s0_1 s0_2) (hB:Below w0.heap.size w0 w) (hr1:Kd.C Kd.string w A1 l1.length l1) (hc1:l1.length≤c1) (hf1:∀ ad,A1 = some ad→0 < l1.length→ad.block≠g) (h:Z68.f s0_0 s0_1 s0_2 l1 = some (r1,r2,r3)) :
  Calls Try.prog 111 #[.pointer (some ⟨g,0,none⟩),.slice A1 l1.length c1] w fun e w'=>e = .returned (.string r1)∧IsS99 w0 w' g s0_0 r2 r3∧Below w0.heap.size w0 w'∧KeepBut w w' g none:=by
 have HR1:=A_ hr1
 have HC1:=A_ hc1
 clear hr1 hc1
 have HI0:=A_ hI
 have HK:=A_ (KeepBut.refl w g none)
 have HL:=A_ hB.size
 clear hI
 have HW0:=A_ hB.size
 have HB:=A_ hB
 clear hB
 have H:=h
 unfold Z68.f at H
 clear h
 obtain ⟨⟨t641,t642,t643⟩,A3,H⟩:=bi_ H
 try dsimp only at H
 replace H:=cx_ H;obtain ⟨c4b0,H⟩:=H
 replace H:=cx_ H;obtain ⟨c5b0,H⟩:=H
 simp only [Option.some.injEq,Prod.mk.injEq] at H
 obtain ⟨rfl,rfl,rfl⟩:=H
 go_enter Try.func111,Try.ntmps111
 go_wp2_with (first | ((with_reducible refine gA_ (f:=94) rfl ?_);refine gL_ (some 9) Try.func94 #[.pointer (some ⟨g,0,none⟩),.int .i64 (l1.length:Int)] rfl qa_ ?_;(with_reducible refine (Z44.calls g s0_0 s0_1 s0_2 (l1.length:Int) t641 t642 t643 w0 _ ?side1 ?side2 A3.out).mono ?_);(case side1=>repeat (first | (with_reducible first | exact HI0.out | apply IsS99.alloc | apply IsS99.drewN | apply IsS99.drew | apply IsS99.set_1 | apply IsS99.set_2) | exact HI0.out));(case side2=>repeat (first | (with_reducible first | exact HB.out | apply bA_ | apply bB_ | apply bC_ | refine bD_ ?_ (IsS99.ge HI0.out)) | exact HB.out));rintro e w6 ⟨rfl,hi,hb,hk⟩;refine ⟨_,rfl,?_⟩;replace HK:=A_ (KeepBut.trans hK_ hk (.inl rfl));replace HB:=A_ hb;replace HI0:=A_ hi;clear hb hk hi;have p644:0≤(t641:Int):=oB_ qe_;have q644:t641 < (l1.length:Int):=oB_ qe_;obtain ⟨ad644,e644,hx644_0⟩:=Kd.at_string HR1.out t641 p644 q644;cases e644;replace hx644_0:=keep_cell HK.out hx644_0 (by first | (rw [add_block];exact hf1 _ rfl (by omega)) | exact hf1 _ rfl (by omega) | exact hf1 ad644 rfl (by omega));replace p644:=eq_true p644;replace q644:=eq_true q644))
 go_ret
 exact ⟨qb_,hI_IsS99_HI0,hBI_,hK_⟩
def Z62.l0:Nat→ByteArray→Int→List Int→Int→Int→Option (ByteArray × Int × Int)
 | 0,_,_,_,_,_=>none
 | k + 1,x5,x6,x1000,x1001,x1002=>if x6 > 0 then ((Z68.f x1000 x1001 x1002 (([(⟨#[84]⟩:ByteArray),(⟨#[83]⟩:ByteArray),(⟨#[116]⟩:ByteArray),(⟨#[115]⟩:ByteArray),(⟨#[84]⟩:ByteArray)]:List ByteArray))).bind fun bt651=>(if x5.size + bt651.1.size≤9223372036854775807 then (Z62.l0 k (x5 ++ bt651.1) (wrap64 (x6 - 1)) x1000 bt651.2.1 bt651.2.2) else (none))) else (some (x5,x1001,x1002))
def Z62.f (k:Nat) (s0_0:List Int) (s0_1:Int) (s0_2:Int) (a1:Int):Option (ByteArray × Int × Int):=(Z44.f s0_0 s0_1 s0_2 (wrap64 (a1 + 1))).bind fun bt645=>(Z62.l0 k (⟨#[]⟩:ByteArray) bt645.1 s0_0 bt645.2.1 bt645.2.2)
theorem Z62.mono_l:∀ k,(∀ y0 y1 y2 y3 y4,LeO (Z62.l0 k y0 y1 y2 y3 y4) (Z62.l0 (k + 1) y0 y1 y2 y3 y4))
 | 0=>fun _ _ _ _ _ r h=>by simp [Z62.l0] at h
 | k + 1=>by
  have ih0:=Z62.mono_l k
  ·intro y0 y1 y2 y3 y4
   unfold Z62.l0
   repeat' first|exact ih0 _ _ _ _ _|exact lo_|refine LeO.ite ?_ ?_|refine LeO.bind ?_ (fun _=>?_)
theorem Z62.mono:∀ a0 a1 a2 a3 k,LeO (Z62.f k a0 a1 a2 a3) (Z62.f (k + 1) a0 a1 a2 a3):=by
 intro a0 a1 a2 a3 k
 have ih0:=Z62.mono_l k
 unfold Z62.f
 repeat' first|exact ih0 _ _ _ _ _|exact lo_|refine LeO.ite ?_ ?_|refine LeO.bind ?_ (fun _=>?_)
set_option maxHeartbeats 8000000 in
set_option maxRecDepth 100000 in
theorem Z62.calls (k:Nat) (g:Nat) (s0_0:List Int) (s0_1:Int) (s0_2:Int) (a1:Int) (r1:ByteArray) (r2:Int) (r3:Int) (w0 w:World) (hI:IsS99 w0 w g s0_0 s0_1 s0_2) (hB:Below w0.heap.size w0 w) (h:Z62.f k s0_0 s0_1 s0_2 a1 = some (r1,r2,r3)) :
  Calls Try.prog 74 #[.pointer (some ⟨g,0,none⟩),.int .i64 a1] w fun e w'=>e = .returned (.string r1)∧IsS99 w0 w' g s0_0 r2 r3∧Below w0.heap.size w0 w'∧KeepBut w w' g none:=by
 have HI0:=A_ hI
 have HK:=A_ (KeepBut.refl w g none)
 have HL:=A_ hB.size
 clear hI
 have HW0:=A_ hB.size
 have HB:=A_ hB
 clear hB
 have H:=h
 unfold Z62.f at H
 clear h
 obtain ⟨⟨t645,t646,t647⟩,A3,H⟩:=bi_ H
 try dsimp only at H
 have H':=A_ H
 clear H
 go_enter Try.func74,Try.ntmps74
 go_wp2_with (first | ((with_reducible refine gA_ (f:=94) rfl ?_);refine gL_ (some 10) Try.func94 #[.pointer (some ⟨g,0,none⟩),.int .i64 (wrap64 (a1 + 1))] rfl qa_ ?_;(with_reducible refine (Z44.calls g s0_0 s0_1 s0_2 (wrap64 (a1 + 1)) t645 t646 t647 w0 _ ?side1 ?side2 A3.out).mono ?_);(case side1=>repeat (first | (with_reducible first | exact HI0.out | apply IsS99.alloc | apply IsS99.drewN | apply IsS99.drew | apply IsS99.set_1 | apply IsS99.set_2) | exact HI0.out));(case side2=>repeat (first | (with_reducible first | exact HB.out | apply bA_ | apply bB_ | apply bC_ | refine bD_ ?_ (IsS99.ge HI0.out)) | exact HB.out));rintro e w4 ⟨rfl,hi,hb,hk⟩;refine ⟨_,rfl,?_⟩;replace HK:=A_ (KeepBut.trans hK_ hk (.inl rfl));replace HB:=A_ hb;replace HI0:=A_ hi;clear hb hk hi))
 go_loopg [5,6] k (fun kq v5 v6 w'=>∃ (x5_1:ByteArray) (x6_1:Int) (x1001_1:Int) (x1002_1:Int),v5 = .string x5_1∧v6 = .int .i64 x6_1∧Aside0 (Z62.l0 kq x5_1 x6_1 s0_0 x1001_1 x1002_1 = some (r1,r2,r3))∧Aside0 (kq≤k)∧Aside0 (IsS99 w0 w' g s0_0 x1001_1 x1002_1)∧Aside0 (KeepBut w w' g none)∧Aside0 (Below w0.heap.size w0 w'))
 case atStart=>exact ⟨((⟨#[]⟩:ByteArray)),(t645),(t646),(t647),qc_,qc_,H',⟨nA_ _⟩,⟨hI_IsS99_HI0⟩,⟨hK_⟩,⟨hBI_⟩⟩
 case round =>
  clear H'
  obtain ⟨x5_1,x6_1,x1001_1,x1002_1,rfl,rfl,HA,HK1,HI0,HK,HB⟩:=hrel
  cases gk with
  | zero=>exact absurd HA.out (by simp [Z62.l0])
  | succ k1 =>
   have H:=HA.out
   clear HA
   simp only [Z62.l0] at H
   by_cases c5:x6_1 > 0
   ·rw [if_pos c5] at H
    have c5b0:decide (0 < x6_1) = true:=oC_ c5
    clear c5
    obtain ⟨y648,hy648⟩:∃ y_:List ByteArray,y_ = (([(⟨#[84]⟩:ByteArray),(⟨#[83]⟩:ByteArray),(⟨#[116]⟩:ByteArray),(⟨#[115]⟩:ByteArray),(⟨#[84]⟩:ByteArray)]:List ByteArray)):=⟨_,rfl⟩
    replace H:((Z68.f s0_0 x1001_1 x1002_1 y648).bind fun bt651=>(if x5_1.size + bt651.1.size≤9223372036854775807 then (Z62.l0 k1 (x5_1 ++ bt651.1) (wrap64 (x6_1 - 1)) s0_0 bt651.2.1 bt651.2.2) else (none))) = some (r1,r2,r3):=by first | (rw [hy648];exact H) | exact H
    have Ny648:=A_ hy648
    clear hy648
    obtain ⟨⟨t651,t652,t653⟩,A6,H⟩:=bi_ H
    try dsimp only at H
    have c7:=cp_ H
    replace H:=ca_ H
    have c7b0:=eq_true c7
    have c7b1:=oC_ c7
    try have c7b2:(9223372036854775807 < x5_1.size + t651.size) = False:=eq_false (Nat.not_lt.2 c7)
    have H':=A_ H
    clear H
    go_wp2_with (first | ((with_reducible refine gB_ (N:=17) rfl ?_);refine Kd.R_lit Kd.string _ 9 ?hg (N:=17) ?hd (xs:=([(⟨#[84]⟩:ByteArray),(⟨#[83]⟩:ByteArray),(⟨#[116]⟩:ByteArray),(⟨#[115]⟩:ByteArray),(⟨#[84]⟩:ByteArray)]:List ByteArray)) (inner:=[.string (⟨#[84]⟩:ByteArray),.string (⟨#[83]⟩:ByteArray),.string (⟨#[116]⟩:ByteArray),.string (⟨#[115]⟩:ByteArray),.string (⟨#[84]⟩:ByteArray)]) (ok:=fun _=>True) (okp:=fun _=>True) ?hr ?hp (fun _ hk=>hk) trivial (Below.refl _ _) (nA_ _) (by simp) ?_;(case hd=>rfl);(case hg=>rfl);(case hr=>first | (go_simp;done) | (go_simp;rfl));(case hp=>exact (Reps.one (show Kd.M Kd.string _ _ _ (⟨#[84]⟩:ByteArray) [.string (⟨#[84]⟩:ByteArray)] from rfl) (Reps.one (show Kd.M Kd.string _ _ _ (⟨#[83]⟩:ByteArray) [.string (⟨#[83]⟩:ByteArray)] from rfl) (Reps.one (show Kd.M Kd.string _ _ _ (⟨#[116]⟩:ByteArray) [.string (⟨#[116]⟩:ByteArray)] from rfl) (Reps.one (show Kd.M Kd.string _ _ _ (⟨#[115]⟩:ByteArray) [.string (⟨#[115]⟩:ByteArray)] from rfl) (Reps.one (show Kd.M Kd.string _ _ _ (⟨#[84]⟩:ByteArray) [.string (⟨#[84]⟩:ByteArray)] from rfl) (Reps.none _ _)))))));intro v649 w8 ho9 hb hg_ hnew_;clear hg_ hnew_;(first | rw [← Ny648.out] at ho9 | (simp only [Int.reduceToNat] at ho9;rw [← Ny648.out] at ho9));have HO650:=A_ (rE_ ho9 (keep_size (w:=w) (g:=g) (row:=none) hK_));replace HK:=A_ (KeepBut.trans hK_ (KeepBut.of_below hb g none) (.inl rfl));replace HB:=b2_ hb;replace HI0:=A_ (IsS99.below hI_IsS99_HI0 hb);clear hb ho9;obtain ⟨Ao10,co10,eo10⟩:=Kd.R_slice HO650.out;subst eo10) | ((with_reducible refine gA_ (f:=111) rfl ?_);refine gL_ (some 18) Try.func111 #[.pointer (some ⟨g,0,none⟩),.slice Ao10 y648.length co10] rfl qa_ ?_;(with_reducible refine (Z68.calls g s0_0 x1001_1 x1002_1 _ _ y648 t651 t652 t653 w0 _ ?side1 ?side2 ?side3 ?side4 ?side5 A6.out).mono ?_);(case side1=>repeat (first | (with_reducible first | exact HI0.out | apply IsS99.alloc | apply IsS99.drewN | apply IsS99.drew | apply IsS99.set_1 | apply IsS99.set_2) | exact HI0.out));(case side2=>repeat (first | (with_reducible first | exact HB.out | apply bA_ | apply bB_ | apply bC_ | refine bD_ ?_ (IsS99.ge HI0.out)) | exact HB.out));(case side3=>exact cr_ HO650);(case side4=>exact (Kd.R_reads' HO650.out).2.1);(case side5=>exact far_slice (IsS99.own_ne HI0.out HO650.out (by decide)));rintro e w11 ⟨rfl,hi,hb,hk⟩;refine ⟨_,rfl,?_⟩;replace HO650:=A_ (Kd.R_mono (Kd.R_keep (IsS99.apart (show IsS99 w0 _ g s0_0 x1001_1 x1002_1 from hI_IsS99_HI0) (rr_ HO650) (by decide)) hk (fun _ h=>h.2)) (fun _ h=>h.1));replace HK:=A_ (KeepBut.trans hK_ hk (.inl rfl));replace HB:=A_ hb;replace HI0:=A_ hi;clear hb hk hi))
    go_roundg k1
    case measure=>have:=HK1.out;omega
    case rel=>exact ⟨(x5_1 ++ t651),(wrap64 (x6_1 - 1)),(t652),(t653),qc_,qc_,H',⟨by have:=HK1.out;omega⟩,⟨hI_IsS99_HI0⟩,⟨hK_⟩,⟨hBI_⟩⟩
   ·rw [if_neg c5] at H
    have c5b0:decide (0 < x6_1) = false:=oD_ c5
    clear c5
    simp only [Option.some.injEq,Prod.mk.injEq] at H
    obtain ⟨rfl,rfl,rfl⟩:=H
    go_wp2
    go_ret
    exact ⟨qb_,hI_IsS99_HI0,hBI_,hK_⟩
def Z42.f (k:Nat) (l0:List Int) (a1:Int):Option (ByteArray):=(Z70.f k l0 a1).bind fun bt654=>((Z62.f k bt654.1 bt654.2.1 bt654.2.2 6).bind fun bt658=>(some bt658.1))
theorem Z42.mono:∀ a0 a1 k,LeO (Z42.f k a0 a1) (Z42.f (k + 1) a0 a1):=by
 intro a0 a1 k
 unfold Z42.f
 repeat' first|exact Z62.mono _ _ _ _ _|exact Z70.mono _ _ _|exact lo_|refine LeO.ite ?_ ?_|refine LeO.bind ?_ (fun _=>?_)
set_option maxHeartbeats 8000000 in
set_option maxRecDepth 100000 in
theorem Z42.calls (k:Nat) (A0:Option Addr) (c0:Nat) (l0:List Int) (a1:Int) (r:ByteArray) (w:World) (hr0:Kd.C (Kd.int .u8) w A0 l0.length l0) (hc0:l0.length≤c0) (h:Z42.f k l0 a1 = some r) :
  Calls Try.prog 27 #[.slice A0 l0.length c0,.int .i64 a1] w fun e w'=>e = .returned (.string r)∧Below w.heap.size w w':=by
 have HR0:=A_ hr0
 have HC0:=A_ hc0
 clear hr0 hc0
 have HB:=A_ (Below.refl w.heap.size w)
 have H:=h
 unfold Z42.f at H
 clear h
 obtain ⟨⟨t654,t655,t656⟩,A3,H⟩:=bi_ H
 try dsimp only at H
 obtain ⟨⟨t658,t659,t660⟩,A4,H⟩:=bi_ H
 try dsimp only at H
 obtain rfl:=Option.some.inj H
 go_enter Try.func27,Try.ntmps27
 go_wp2_with (first | ((with_reducible refine gA_ (f:=70) rfl ?_);refine gL_ (some 7) Try.func70 #[.slice A0 l0.length c0,.int .i64 a1] rfl qa_ ?_;(with_reducible refine (Z70.calls k _ _ l0 a1 t654 t655 t656 w _ ?side1 ?side2 ?side3 A3.out).mono ?_);(case side1=>repeat (first | (with_reducible first | exact HB.out | apply bA_ | apply bB_ | apply bC_) | exact HB.out));(case side2=>exact HR0.out);(case side3=>exact HC0.out);rintro e w5 ⟨g657,rfl,hi,hb,hb2⟩;refine ⟨_,rfl,?_⟩;replace HB:=A_ hb;have HI657:=A_ hi;clear hb hb2 hi) | ((with_reducible refine gA_ (f:=74) rfl ?_);refine gL_ (some 8) Try.func74 #[.pointer (some ⟨g657,0,none⟩),.int .i64 6] rfl qa_ ?_;(with_reducible refine (Z62.calls k g657 t654 t655 t656 6 t658 t659 t660 w _ ?side1 ?side2 A4.out).mono ?_);(case side1=>repeat (first | (with_reducible first | exact HI657.out | apply IsS99.alloc | apply IsS99.drewN | apply IsS99.drew | apply IsS99.set_1 | apply IsS99.set_2) | exact HI657.out));(case side2=>repeat (first | (with_reducible first | exact HB.out | apply bA_ | apply bB_ | apply bC_ | refine bD_ ?_ (IsS99.ge HI657.out)) | exact HB.out));rintro e w6 ⟨rfl,hi,hb,hk⟩;refine ⟨_,rfl,?_⟩;replace HB:=A_ hb;replace HI657:=A_ hi;clear hb hk hi))
 go_ret
 exact ⟨qb_,hBI_⟩
def Z28.f (k:Nat) (r u r1 u1:List Int):Option Bool:=(M.orbitO k r u).bind fun z=>((Z50.f k r1 u1).bind fun y=>(match z with | none=>some false | some s=>if y.2.2 = true then ((M.indexO k s.L y.1 y.2.1).bind fun j=>some (decide (0≤j))) else some false))
theorem Z28.mono:∀ a0 a1 a2 a3 k,LeO (Z28.f k a0 a1 a2 a3) (Z28.f (k + 1) a0 a1 a2 a3):=by
 intro a0 a1 a2 a3 k
 unfold Z28.f
 refine LeO.bind (M.orbitO_mono _ _ _) (fun z=>LeO.bind (Z50.mono _ _ _) (fun y=>?_))
 cases z with
 | none=>exact LeO.refl _
 | some s=>exact LeO.ite (LeO.bind (M.indexO_mono _ _ _ _) (fun j=>LeO.refl _)) (LeO.refl _)
set_option maxHeartbeats 8000000 in
set_option maxRecDepth 100000 in
theorem Z28.calls (k:Nat) (A0_0:Option Addr) (c0_0:Nat) (l0_0:List Int) (A0_1:Option Addr) (c0_1:Nat) (l0_1:List Int) (A1_0:Option Addr) (c1_0:Nat) (l1_0:List Int) (A1_1:Option Addr) (c1_1:Nat) (l1_1:List Int) (r:Bool) (w:World) (hr0_0:Kd.C (Kd.int .i64) w A0_0 l0_0.length l0_0) (hc0_0:l0_0.length≤c0_0) (hr0_1:Kd.C (Kd.int .i64) w A0_1 l0_1.length l0_1) (hc0_1:l0_1.length≤c0_1) (hr1_0:Kd.C (Kd.int .i64) w A1_0 l1_0.length l1_0) (hc1_0:l1_0.length≤c1_0) (hr1_1:Kd.C (Kd.int .i64) w A1_1 l1_1.length l1_1) (hc1_1:l1_1.length≤c1_1) (h:Z28.f k l0_0 l0_1 l1_0 l1_1 = some r) :
  Calls Try.prog 30 #[.agg #[.slice A0_0 l0_0.length c0_0,.slice A0_1 l0_1.length c0_1],.agg #[.slice A1_0 l1_0.length c1_0,.slice A1_1 l1_1.length c1_1]] w fun e w'=>e = .returned (.bool r)∧Below w.heap.size w w':=by
 have hu:=Try.underlying25
 have HR0_0:=A_ hr0_0;have HC0_0:=A_ hc0_0;clear hr0_0 hc0_0
 have HR0_1:=A_ hr0_1;have HC0_1:=A_ hc0_1;clear hr0_1 hc0_1
 have HR1_0:=A_ hr1_0;have HC1_0:=A_ hc1_0;clear hr1_0 hc1_0
 have HR1_1:=A_ hr1_1;have HC1_1:=A_ hc1_1;clear hr1_1 hc1_1
 have HB:=A_ (Below.refl w.heap.size w)
 have H:=h
 unfold Z28.f at H
 clear h
 obtain ⟨z,AZ,H⟩:=bi_ H
 obtain ⟨⟨y1,y2,yb⟩,AY,H⟩:=bi_ H
 dsimp only at H
 cases z with
 | none =>
  obtain rfl:=Option.some.inj H
  go_enter Try.func30,Try.ntmps30
  go_upto_region 3 with (first | ((with_reducible refine gB_ (N:=2) rfl ?_);refine bx_ 2 #[.slice A0_0 l0_0.length c0_0,.slice A0_1 l0_1.length c0_1] 25 ?_;intro gs hg wgs hbox hb;have Bgs:=A_ hbox;replace HB:=b1_ hb;clear hb hbox hg;have hczgs0:=cz0_ Bgs;have hczgs1:=cz1_ Bgs;have hfzgs0:=kD_ Bgs.out 0;have hfzgs1:=kD_ Bgs.out 1) | ((with_reducible refine gB_ (N:=3) rfl ?_);refine bx_ 3 #[.slice A1_0 l1_0.length c1_0,.slice A1_1 l1_1.length c1_1] 25 ?_;intro gt hg wgt hbox hb;have Bgt:=A_ hbox;replace Bgs:=bb_ Bgs hb;have hcy0:=cz0_ Bgs;have hcy1:=cz1_ Bgs;have hfy0:=kD_ Bgs.out 0;have hfy1:=kD_ Bgs.out 1;replace HB:=b1_ hb;clear hb hbox hg;have hczgt0:=cz0_ Bgt;have hczgt1:=cz1_ Bgt;have hfzgt0:=kD_ Bgt.out 0;have hfzgt1:=kD_ Bgt.out 1) | ((with_reducible refine gA_ (f:=59) rfl ?_);refine gL_ (some 11) Try.func59 #[.agg #[.slice A0_0 l0_0.length c0_0,.slice A0_1 l0_1.length c0_1]] rfl qa_ ?_;(with_reducible refine (M.orbit_calls k _ _ l0_0 _ _ l0_1 none _ (cb_ HR0_0) HC0_0.out (cb_ HR0_1) HC0_1.out AZ.out).mono ?_);rintro e wz ⟨rfl,hb⟩;refine ⟨_,rfl,?_⟩;replace Bgt:=bb_ Bgt hb;have hcu0:=cz0_ Bgt;have hcu1:=cz1_ Bgt;have hfu0:=kD_ Bgt.out 0;have hfu1:=kD_ Bgt.out 1;replace HB:=b1_ hb;clear hb) | ((with_reducible refine gA_ (f:=28) rfl ?_);refine gL_ (some 16) Try.func28 #[.agg #[.slice A1_0 l1_0.length c1_0,.slice A1_1 l1_1.length c1_1]] rfl qa_ ?_;(with_reducible refine (Z50.calls k _ _ l1_0 _ _ l1_1 y1 y2 _ _ (cb_ HR1_0) HC1_0.out (cb_ HR1_1) HC1_1.out AY.out).mono ?_);rintro e wy ⟨v0,v1,rfl,ho0,ho1,hb⟩;refine ⟨_,rfl,?_⟩;replace HB:=b1_ hb;clear hb;obtain ⟨Ay0,cy0,ey0⟩:=Kd.R_slice ho0;subst ey0;obtain ⟨Ay1,cy1,ey1⟩:=Kd.R_slice ho1;subst ey1;have Y0:=A_ ho0;have Y1:=A_ ho1;clear ho0 ho1) | ((with_reducible refine gB_ (N:=7) rfl ?_);refine bx_ 7 #[.slice none 0 0,.slice none 0 0] 25 ?_;intro gx hg wx hbox hb;have GX:=A_ (show wy.heap.size≤gx from Nat.le_of_eq hg.symm);have BX:=A_ hbox;have B3:=A_ hb;clear hb hbox hg;have hcf0:=cz0_ BX;have hcf1:=cz1_ BX;have hff0:=kD_ BX.out 0;have hff1:=kD_ BX.out 1))
  obtain ⟨hbox,hkp,hB2⟩:=M.box_store (w0:=wy) BX.out (.slice Ay0 y1.length cy0) (.slice Ay1 y2.length cy1) B3.out GX.out
  generalize hw:((wx.setCell ⟨gx,0,none⟩ (.slice Ay0 y1.length cy0)).setCell ⟨gx,1,none⟩ (.slice Ay1 y2.length cy1)) = wv at hbox hkp hB2 ⊢
  clear hw hcf0 hcf1 hff0 hff1
  replace Y0:=A_ (rD_ Y0.out hB2)
  replace Y1:=A_ (rD_ Y1.out hB2)
  replace HB:=A_ (bE_ HB.out hB2)
  replace BX:=A_ (show wv.heap[gx]? = some (.cells #[.slice Ay0 y1.length cy0,.slice Ay1 y2.length cy1] 25 (0,0)) from hbox)
  clear hbox hkp hB2 B3
  obtain ⟨hcx0,hcx1,hfx0,hfx1⟩:=c2_ BX
  go_wp2
  go_ret
  exact ⟨qb_,hB_⟩
 | some s =>
  dsimp only at H
  cases yb with
  | false =>
   rw [if_neg (by decide)] at H
   obtain rfl:=Option.some.inj H
   go_enter Try.func30,Try.ntmps30
   go_upto_region 3 with (first | ((with_reducible refine gB_ (N:=2) rfl ?_);refine bx_ 2 #[.slice A0_0 l0_0.length c0_0,.slice A0_1 l0_1.length c0_1] 25 ?_;intro gs hg wgs hbox hb;have Bgs:=A_ hbox;replace HB:=b1_ hb;clear hb hbox hg;have hczgs0:=cz0_ Bgs;have hczgs1:=cz1_ Bgs;have hfzgs0:=kD_ Bgs.out 0;have hfzgs1:=kD_ Bgs.out 1) | ((with_reducible refine gB_ (N:=3) rfl ?_);refine bx_ 3 #[.slice A1_0 l1_0.length c1_0,.slice A1_1 l1_1.length c1_1] 25 ?_;intro gt hg wgt hbox hb;have Bgt:=A_ hbox;replace Bgs:=bb_ Bgs hb;have hcy0:=cz0_ Bgs;have hcy1:=cz1_ Bgs;have hfy0:=kD_ Bgs.out 0;have hfy1:=kD_ Bgs.out 1;replace HB:=b1_ hb;clear hb hbox hg;have hczgt0:=cz0_ Bgt;have hczgt1:=cz1_ Bgt;have hfzgt0:=kD_ Bgt.out 0;have hfzgt1:=kD_ Bgt.out 1) | ((with_reducible refine gA_ (f:=59) rfl ?_);refine gL_ (some 11) Try.func59 #[.agg #[.slice A0_0 l0_0.length c0_0,.slice A0_1 l0_1.length c0_1]] rfl qa_ ?_;(with_reducible refine (M.orbit_calls k _ _ l0_0 _ _ l0_1 (some s) _ (cb_ HR0_0) HC0_0.out (cb_ HR0_1) HC0_1.out AZ.out).mono ?_);rintro e wz ⟨gO,gM,nm_,col,vL,vW,vF,vB,vT,vS,rfl,hh,hb⟩;refine ⟨_,rfl,?_⟩;replace Bgt:=bb_ Bgt hb;have hcu0:=cz0_ Bgt;have hcu1:=cz1_ Bgt;have hfu0:=kD_ Bgt.out 0;have hfu1:=kD_ Bgt.out 1;replace HB:=b1_ hb;have HH:=A_ hh;clear hb hh;obtain ⟨AL,cL,eL⟩:=Kd.S_slice HH.out.hL;subst eL;obtain ⟨AW,cW,eW⟩:=Kd.R_slice HH.out.hW;subst eW;have hco0:wz.cell? ⟨gO,0,none⟩ = some (.slice AL s.L.length cL):=(blk_cell HH.out.hO 0).trans rfl;have hco1:wz.cell? ⟨gO,1,none⟩ = some (.slice AW s.W.length cW):=(blk_cell HH.out.hO 1).trans rfl;have hfo0:=kD_ HH.out.hO 0;have hfo1:=kD_ HH.out.hO 1) | ((with_reducible refine gA_ (f:=28) rfl ?_);refine gL_ (some 16) Try.func28 #[.agg #[.slice A1_0 l1_0.length c1_0,.slice A1_1 l1_1.length c1_1]] rfl qa_ ?_;(with_reducible refine (Z50.calls k _ _ l1_0 _ _ l1_1 y1 y2 _ _ (cb_ HR1_0) HC1_0.out (cb_ HR1_1) HC1_1.out AY.out).mono ?_);rintro e wy ⟨v0,v1,rfl,ho0,ho1,hb⟩;refine ⟨_,rfl,?_⟩;replace HH:=A_ (HH.out.below hb);replace HB:=b1_ hb;clear hb;obtain ⟨Ay0,cy0,ey0⟩:=Kd.R_slice ho0;subst ey0;obtain ⟨Ay1,cy1,ey1⟩:=Kd.R_slice ho1;subst ey1;have Y0:=A_ ho0;have Y1:=A_ ho1;clear ho0 ho1) | ((with_reducible refine gB_ (N:=7) rfl ?_);refine bx_ 7 #[.slice none 0 0,.slice none 0 0] 25 ?_;intro gx hg wx hbox hb;have GX:=A_ (show wy.heap.size≤gx from Nat.le_of_eq hg.symm);have BX:=A_ hbox;have B3:=A_ hb;clear hb hbox hg;have hcf0:=cz0_ BX;have hcf1:=cz1_ BX;have hff0:=kD_ BX.out 0;have hff1:=kD_ BX.out 1))
   obtain ⟨hbox,hkp,hB2⟩:=M.box_store (w0:=wy) BX.out (.slice Ay0 y1.length cy0) (.slice Ay1 y2.length cy1) B3.out GX.out
   generalize hw:((wx.setCell ⟨gx,0,none⟩ (.slice Ay0 y1.length cy0)).setCell ⟨gx,1,none⟩ (.slice Ay1 y2.length cy1)) = wv at hbox hkp hB2 ⊢
   clear hw hcf0 hcf1 hff0 hff1
   replace HH:=A_ (HH.out.below hB2)
   replace Y0:=A_ (rD_ Y0.out hB2)
   replace Y1:=A_ (rD_ Y1.out hB2)
   replace HB:=A_ (bE_ HB.out hB2)
   replace BX:=A_ (show wv.heap[gx]? = some (.cells #[.slice Ay0 y1.length cy0,.slice Ay1 y2.length cy1] 25 (0,0)) from hbox)
   clear hbox hkp hB2 B3
   obtain ⟨hcx0,hcx1,hfx0,hfx1⟩:=c2_ BX
   go_wp2
   go_ret
   exact ⟨qb_,hB_⟩
  | true =>
   rw [if_pos rfl] at H
   obtain ⟨j,AJ,H⟩:=bi_ H
   obtain rfl:=Option.some.inj H
   go_enter Try.func30,Try.ntmps30
   go_upto_region 3 with (first | ((with_reducible refine gB_ (N:=2) rfl ?_);refine bx_ 2 #[.slice A0_0 l0_0.length c0_0,.slice A0_1 l0_1.length c0_1] 25 ?_;intro gs hg wgs hbox hb;have Bgs:=A_ hbox;replace HB:=b1_ hb;clear hb hbox hg;have hczgs0:=cz0_ Bgs;have hczgs1:=cz1_ Bgs;have hfzgs0:=kD_ Bgs.out 0;have hfzgs1:=kD_ Bgs.out 1) | ((with_reducible refine gB_ (N:=3) rfl ?_);refine bx_ 3 #[.slice A1_0 l1_0.length c1_0,.slice A1_1 l1_1.length c1_1] 25 ?_;intro gt hg wgt hbox hb;have Bgt:=A_ hbox;replace Bgs:=bb_ Bgs hb;have hcy0:=cz0_ Bgs;have hcy1:=cz1_ Bgs;have hfy0:=kD_ Bgs.out 0;have hfy1:=kD_ Bgs.out 1;replace HB:=b1_ hb;clear hb hbox hg;have hczgt0:=cz0_ Bgt;have hczgt1:=cz1_ Bgt;have hfzgt0:=kD_ Bgt.out 0;have hfzgt1:=kD_ Bgt.out 1) | ((with_reducible refine gA_ (f:=59) rfl ?_);refine gL_ (some 11) Try.func59 #[.agg #[.slice A0_0 l0_0.length c0_0,.slice A0_1 l0_1.length c0_1]] rfl qa_ ?_;(with_reducible refine (M.orbit_calls k _ _ l0_0 _ _ l0_1 (some s) _ (cb_ HR0_0) HC0_0.out (cb_ HR0_1) HC0_1.out AZ.out).mono ?_);rintro e wz ⟨gO,gM,nm_,col,vL,vW,vF,vB,vT,vS,rfl,hh,hb⟩;refine ⟨_,rfl,?_⟩;replace Bgt:=bb_ Bgt hb;have hcu0:=cz0_ Bgt;have hcu1:=cz1_ Bgt;have hfu0:=kD_ Bgt.out 0;have hfu1:=kD_ Bgt.out 1;replace HB:=b1_ hb;have HH:=A_ hh;clear hb hh;obtain ⟨AL,cL,eL⟩:=Kd.S_slice HH.out.hL;subst eL;obtain ⟨AW,cW,eW⟩:=Kd.R_slice HH.out.hW;subst eW;have hco0:wz.cell? ⟨gO,0,none⟩ = some (.slice AL s.L.length cL):=(blk_cell HH.out.hO 0).trans rfl;have hco1:wz.cell? ⟨gO,1,none⟩ = some (.slice AW s.W.length cW):=(blk_cell HH.out.hO 1).trans rfl;have hfo0:=kD_ HH.out.hO 0;have hfo1:=kD_ HH.out.hO 1) | ((with_reducible refine gA_ (f:=28) rfl ?_);refine gL_ (some 16) Try.func28 #[.agg #[.slice A1_0 l1_0.length c1_0,.slice A1_1 l1_1.length c1_1]] rfl qa_ ?_;(with_reducible refine (Z50.calls k _ _ l1_0 _ _ l1_1 y1 y2 _ _ (cb_ HR1_0) HC1_0.out (cb_ HR1_1) HC1_1.out AY.out).mono ?_);rintro e wy ⟨v0,v1,rfl,ho0,ho1,hb⟩;refine ⟨_,rfl,?_⟩;replace HH:=A_ (HH.out.below hb);replace HB:=b1_ hb;clear hb;obtain ⟨Ay0,cy0,ey0⟩:=Kd.R_slice ho0;subst ey0;obtain ⟨Ay1,cy1,ey1⟩:=Kd.R_slice ho1;subst ey1;have Y0:=A_ ho0;have Y1:=A_ ho1;clear ho0 ho1) | ((with_reducible refine gB_ (N:=7) rfl ?_);refine bx_ 7 #[.slice none 0 0,.slice none 0 0] 25 ?_;intro gx hg wx hbox hb;have GX:=A_ (show wy.heap.size≤gx from Nat.le_of_eq hg.symm);have BX:=A_ hbox;have B3:=A_ hb;clear hb hbox hg;have hcf0:=cz0_ BX;have hcf1:=cz1_ BX;have hff0:=kD_ BX.out 0;have hff1:=kD_ BX.out 1))
   obtain ⟨hbox,hkp,hB2⟩:=M.box_store (w0:=wy) BX.out (.slice Ay0 y1.length cy0) (.slice Ay1 y2.length cy1) B3.out GX.out
   generalize hw:((wx.setCell ⟨gx,0,none⟩ (.slice Ay0 y1.length cy0)).setCell ⟨gx,1,none⟩ (.slice Ay1 y2.length cy1)) = wv at hbox hkp hB2 ⊢
   clear hw hcf0 hcf1 hff0 hff1
   replace HH:=A_ (HH.out.below hB2)
   replace Y0:=A_ (rD_ Y0.out hB2)
   replace Y1:=A_ (rD_ Y1.out hB2)
   replace HB:=A_ (bE_ HB.out hB2)
   replace BX:=A_ (show wv.heap[gx]? = some (.cells #[.slice Ay0 y1.length cy0,.slice Ay1 y2.length cy1] 25 (0,0)) from hbox)
   clear hbox hkp hB2 B3
   obtain ⟨hcx0,hcx1,hfx0,hfx1⟩:=c2_ BX
   have hLr:=(Kd.S_reads' HH.out.hL).2
   have RL:=A_ hLr
   clear hLr
   go_wp2_with (first | (go_at_call 72;(with_reducible refine (M.index_calls k gO _ _ s.L _ _ _ _ _ _ y1 _ _ y2 j _ RL.out.2 RL.out.1 (Kd.R_reads' Y0.out).2.2 (Kd.R_reads' Y0.out).2.1 (Kd.R_reads' Y1.out).2.2 (Kd.R_reads' Y1.out).2.1 HH.out.hO AJ.out).mono ?_);rintro e wj ⟨rfl,hb⟩;replace HH:=A_ (HH.out.below hb);replace HB:=b1_ hb;clear hb;have hdo1:wj.cell? ⟨gO,1,none⟩ = some (.slice AW s.W.length cW):=(blk_cell HH.out.hO 1).trans rfl;have hgo1:=kD_ HH.out.hO 1))
   go_ret
   exact ⟨qb_,hB_⟩
end Go.Proofs.Ytcggfjpnfodbaaa.A
end
