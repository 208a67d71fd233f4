/- Lemmas for the row FnExactCurveGenus: the program's functions told as plain functions, and plain mathematics. No conditions. -/
import Derived.ArgAppend
import Derived.Below
import Derived.BigQuiet
import Derived.Deep.AppendLies
import Derived.Deep.CutBlock
import Derived.Deep.DeepCutAuto
import Derived.Deep.Draws
import Derived.Deep.LoopGhost
import Derived.Deep.OwnRows
import Derived.Deep.QuietTactic
import Derived.Deep.RegionHeld3
import Derived.KernelRfl
import Derived.Laws.BitsLemmas
import Derived.Laws.BytesArg
import Derived.Laws.IdiomCopy
import Derived.Laws.MakeOwn
import Derived.Laws.OwnMore
import Derived.Laws.Rows
import Derived.Laws.Slices
import Derived.Laws.Tables
import Derived.Lib.AppendStr
import Derived.Lib.ConvBytes
import Derived.Maps.AppendAt
import Derived.OrdersHeld
import Derived.OwnWalk
import Derived.RowKit
import Derived.RowKit3
import Derived.Tactics
import Derived.Test.YtcggfjpnfodbaaaGreatProg
import Derived.WalkKit
import Derived.WideLaws
import Derived.Test.YtcggfjpnfodbaaaGreatQFnExactCurveGenus0
section
namespace Go.Proofs.YtcggfjpnfodbaaaGreat.A
open Go.RowKit Go.Proofs.YtcggfjpnfodbaaaGreatW.PrintWords Go.Proofs.YtcggfjpnfodbaaaGreatW.PrintLast Go.Proofs.YtcggfjpnfodbaaaGreatW.PrintMore
theorem cq0_ {w:World} {g:Nat} {t:TypeId} {a b:Value} (h:w.heap[g]? = some (.cells #[a,b] t (0,0))):w.cell? ⟨g,0,none⟩ = some a:=(blk_cell h 0).trans rfl
theorem cq1_ {w:World} {g:Nat} {t:TypeId} {a b:Value} (h:w.heap[g]? = some (.cells #[a,b] t (0,0))):w.cell? ⟨g,1,none⟩ = some b:=(blk_cell h 1).trans rfl
theorem bA_:type_of% @below_alloc:=@below_alloc
theorem bB_:type_of% @pw_below_drewN:=@pw_below_drewN
theorem bC_:type_of% @below_drew1:=@below_drew1
theorem bD_:type_of% @below_set:=@below_set
theorem bE_:type_of% @below_step:=@below_step
theorem kA_:type_of% @blk_drewN:=@blk_drewN
theorem kB_:type_of% @blk_drew:=@blk_drew
theorem kC_:type_of% @blk_alloc:=@blk_alloc
theorem cA_:type_of% @Kd.C_alloc:=@Kd.C_alloc
theorem cB_:type_of% @Kd.C_drewN:=@Kd.C_drewN
theorem cC_:type_of% @Kd.C_drew:=@Kd.C_drew
theorem rA_:type_of% @Kd.R_alloc:=@Kd.R_alloc
theorem rB_:type_of% @Kd.R_drewN:=@Kd.R_drewN
theorem rC_:type_of% @Kd.R_drew:=@Kd.R_drew
theorem cD_:type_of% @Kd.C_below:=@Kd.C_below
theorem rD_:type_of% @Kd.R_below:=@Kd.R_below
theorem kD_:type_of% @blk_frozen:=@blk_frozen
theorem A_:type_of% @Aside0.mk:=@Aside0.mk
theorem mA_:type_of% @List.map_toArray:=@List.map_toArray
theorem mB_:type_of% @List.map_cons:=@List.map_cons
theorem mC_:type_of% @List.map_nil:=@List.map_nil
theorem sA_:type_of% @List.setIfInBounds_toArray:=@List.setIfInBounds_toArray
theorem sB_:type_of% @List.set_cons_zero:=@List.set_cons_zero
theorem sC_:type_of% @List.set_cons_succ:=@List.set_cons_succ
theorem lA_:type_of% @List.length_drop:=@List.length_drop
theorem lB_:type_of% @List.length_take:=@List.length_take
theorem gA_:type_of% @gate_callee:=@gate_callee
theorem gB_:type_of% @gate_dst:=@gate_dst
theorem oB_:type_of% @of_decide_eq_true:=@of_decide_eq_true
theorem oC_:type_of% @decide_eq_true:=@decide_eq_true
theorem oD_:type_of% @decide_eq_false:=@decide_eq_false
theorem rE_:type_of% @Kd.R_lower:=@Kd.R_lower
theorem bF_:type_of% @below_size:=@below_size
theorem kE_:type_of% @blk_below:=@blk_below
theorem nA_:type_of% @Nat.le_refl:=@Nat.le_refl
end Go.Proofs.YtcggfjpnfodbaaaGreat.A
end
section
namespace Go.Proofs.YtcggfjpnfodbaaaGreat.A
open Go.RowKit Go.Proofs.YtcggfjpnfodbaaaGreatW.PrintWords Go.Proofs.YtcggfjpnfodbaaaGreatW.PrintLast Go.Proofs.YtcggfjpnfodbaaaGreatW.PrintMore
attribute [local go_sem] max2_int min2_int max_two min_two max_three min_three max_four min_four
set_option linter.unusedVariables false
set_option linter.unusedSimpArgs false
def errW:Option Int→Value
 | none=>.nilIface
 | some c=>.iface 0 (.int .i64 c)
theorem errW_none:errW none = .nilIface:=rfl
theorem errW_some (c:Int):errW (some c) = .iface 0 (.int .i64 c):=rfl
theorem info3:(Tryz.prog.info? 3).map (fun i=>(i.zero,i.size,i.bytes)) = some (some (.int .i64 0),1,8):=by kernel_rfl
theorem info4:(Tryz.prog.info? 4).map (fun i=>(i.zero,i.size,i.bytes)) = some (some (.bool false),1,1):=by kernel_rfl
theorem info5:(Tryz.prog.info? 5).map (fun i=>(i.zero,i.size,i.bytes)) = some (some (.int .u8 0),1,1):=by kernel_rfl
theorem info9:(Tryz.prog.info? 9).map (fun i=>(i.zero,i.size,i.bytes)) = some (some (.string ⟨#[]⟩),1,16):=by kernel_rfl
theorem info27:(Tryz.prog.info? 27).map (fun i=>(i.zero,i.size,i.bytes)) = some (some (.agg #[(.slice none 0 0),(.slice none 0 0)]),2,48):=by kernel_rfl
structure S27 where
 f0:(List Int)
 f1:(List Int)
def z27:S27:=⟨([]:List Int),([]:List Int)⟩
def pairN {α β:Type} (a:Kd α) (b:Kd β):Kd (α × β) where
 sz:=a.sz + b.sz
 E:=a.E ++ b.E
 K:=(Kd.pair a b).K
 M:=fun w base ok x cs=>∃ c0 c1,cs = c0 ++ c1∧a.M w base ok x.1 c0∧b.M w base ok x.2 c1∧∀ u ∈ c0,∀ v ∈ c1,NeRow u v
 K_len:=(Kd.pair a b).K_len
 K_one:=(Kd.pair a b).K_one
 K_below:=(Kd.pair a b).K_below
 K_of_M:=fun ⟨c0,c1,e,h0,h1,_⟩=>(Kd.pair a b).K_of_M ⟨c0,c1,e,h0,h1⟩
 M_mono:=fun hok ⟨c0,c1,e,h0,h1,n⟩=>⟨c0,c1,e,a.M_mono hok h0,b.M_mono hok h1,n⟩
 M_bound:=by
  rintro w base ok x cs ⟨c0,c1,rfl,h0,h1,n⟩
  refine ⟨c0,c1,rfl,a.M_mono ?_ (a.M_bound h0),b.M_mono ?_ (b.M_bound h1),n⟩
  ·rintro k ⟨h2,h3,h4,q,hq,hc⟩
   exact ⟨h2,h3,h4,q,List.mem_append_left _ hq,hc⟩
  ·rintro k ⟨h2,h3,h4,q,hq,hc⟩
   exact ⟨h2,h3,h4,q,List.mem_append_right _ hq,hc⟩
 M_move:=fun hm ⟨c0,c1,e,h0,h1,n⟩=>⟨c0,c1,e,a.M_move hm h0,b.M_move hm h1,n⟩
 M_lower:=fun hb ⟨c0,c1,e,h0,h1,n⟩=>⟨c0,c1,e,a.M_lower hb h0,b.M_lower hb h1,n⟩
def k27:Kd S27:=Kd.iso (pairN (Kd.slice 3 (Kd.int .i64)) (Kd.slice 3 (Kd.int .i64))) (fun x:S27=>(x.f0,x.f1))
theorem k27_open {w:World} {x:S27} {cs:List Value} (h:k27.K w x cs):∃ A0 c0 A1 c1,cs = [.slice A0 x.f0.length c0,.slice A1 x.f1.length c1]∧x.f0.length≤c0∧(Kd.int .i64).C w A0 x.f0.length x.f0∧x.f1.length≤c1∧(Kd.int .i64).C w A1 x.f1.length x.f1:=by
 obtain ⟨_,_,rfl,⟨A0,c0,rfl,l0,g0⟩,⟨A1,c1,rfl,l1,g1⟩⟩:=h
 exact ⟨A0,c0,A1,c1,rfl,l0,g0,l1,g1⟩
theorem k27_openN {w:World} {base:Nat} {ok:Nat→Prop} {x:S27} {cs:List Value} (h:k27.M w base ok x cs):∃ v0 v1,cs = [v0,v1]∧(Kd.int .i64).R 3 w base ok v0 x.f0∧(Kd.int .i64).R 3 w base ok v1 x.f1∧NeRow v0 v1:=by
 obtain ⟨_,_,rfl,⟨v0,rfl,g0⟩,⟨v1,rfl,g1⟩,n⟩:=h
 exact ⟨v0,v1,rfl,g0,g1,n v0 (by simp) v1 (by simp)⟩
theorem k27_mk (w:World) (x:S27) {A0:Option Addr} {c0:Nat} (l0:x.f0.length≤c0) (g0:(Kd.int .i64).C w A0 x.f0.length x.f0) {A1:Option Addr} {c1:Nat} (l1:x.f1.length≤c1) (g1:(Kd.int .i64).C w A1 x.f1.length x.f1):k27.K w x [.slice A0 x.f0.length c0,.slice A1 x.f1.length c1]:=⟨[.slice A0 x.f0.length c0],[.slice A1 x.f1.length c1],rfl,⟨A0,c0,rfl,l0,g0⟩,⟨A1,c1,rfl,l1,g1⟩⟩
theorem k27_mkM (w:World) (base:Nat) (ok:Nat→Prop) (x:S27) {v0:Value} (g0:(Kd.int .i64).R 3 w base ok v0 x.f0) {v1:Value} (g1:(Kd.int .i64).R 3 w base ok v1 x.f1) (ne:NeRow v0 v1):k27.M w base ok x [v0,v1]:=⟨[v0],[v1],rfl,⟨v0,rfl,g0⟩,⟨v1,rfl,g1⟩,fun u hu v hv=>by rw [List.mem_singleton.1 hu,List.mem_singleton.1 hv];exact ne⟩
theorem k27_openF {W:World} {ok:Nat→Prop} {x:S27} {cs:List Value} (h:Kd.FK k27 W ok x cs):∃ A0 c0 A1 c1,cs = [.slice A0 x.f0.length c0,.slice A1 x.f1.length c1]∧x.f0.length≤c0∧Kd.F (Kd.int .i64) W ok A0 x.f0.length x.f0∧x.f1.length≤c1∧Kd.F (Kd.int .i64) W ok A1 x.f1.length x.f1:=by
 obtain ⟨A0,c0,A1,c1,rfl,l0,_,l1,_⟩:=k27_open (Kd.FK_now h)
 exact ⟨A0,c0,A1,c1,rfl,l0,(fun W' hW=>by obtain ⟨A0_,c0_,A1_,c1_,he,l0_,g0_,l1_,g1_⟩:=k27_open (h W' hW);injection (Option.some.inj (show some (Value.slice A0 x.f0.length c0) = some (Value.slice A0_ x.f0.length c0_) from congrArg (fun l=>l[0]?) he)) with ha_ _ _;rw [ha_];exact g0_),l1,(fun W' hW=>by obtain ⟨A0_,c0_,A1_,c1_,he,l0_,g0_,l1_,g1_⟩:=k27_open (h W' hW);injection (Option.some.inj (show some (Value.slice A1 x.f1.length c1) = some (Value.slice A1_ x.f1.length c1_) from congrArg (fun l=>l[1]?) he)) with ha_ _ _;rw [ha_];exact g1_)⟩
theorem k27_mkF (W:World) (ok:Nat→Prop) (x:S27) {A0:Option Addr} {c0:Nat} (l0:x.f0.length≤c0) (g0:Kd.F (Kd.int .i64) W ok A0 x.f0.length x.f0) {A1:Option Addr} {c1:Nat} (l1:x.f1.length≤c1) (g1:Kd.F (Kd.int .i64) W ok A1 x.f1.length x.f1):Kd.FK k27 W ok x [.slice A0 x.f0.length c0,.slice A1 x.f1.length c1]:=fun W2 hW=>k27_mk W2 x l0 (g0 W2 hW) l1 (g1 W2 hW)
def rd_T27 (xs:List S27) (i:Int):S27:=xs.getD i.toNat z27
theorem at_T27 {w:World} {A:Option Addr} {n:Nat} {xs:List S27} (h:Kd.C k27 w A n xs) (i:Int) (h0:0≤i) (h1:i < n):∃ ad A0 c0 A1 c1,A = some ad∧w.cell? (ad.add (i.toNat * 2)) = some (.slice A0 (rd_T27 xs i).f0.length c0)∧w.cell? ⟨(ad.add (i.toNat * 2)).block,(ad.add (i.toNat * 2)).off + 1,none⟩ = some (.slice A1 (rd_T27 xs i).f1.length c1)∧(rd_T27 xs i).f0.length≤c0∧(Kd.int .i64).C w A0 (rd_T27 xs i).f0.length (rd_T27 xs i).f0∧(rd_T27 xs i).f1.length≤c1∧(Kd.int .i64).C w A1 (rd_T27 xs i).f1.length (rd_T27 xs i).f1:=by
 obtain ⟨ad,c,e,_,hK,hc0⟩:=Kd.C_get h z27 i h0 h1
 have hc:∀ j u,c[j]? = some u→w.cell? (ad.add (i.toNat * 2 + j)) = some u:=hc0
 obtain ⟨A0,c0,A1,c1,rfl,l0,g0,l1,g1⟩:=k27_open hK
 exact ⟨ad,A0,c0,A1,c1,e,hc 0 _ rfl,by rw [← add_field _ _ 1 (by omega)];exact hc 1 _ rfl,l0,g0,l1,g1⟩
end Go.Proofs.YtcggfjpnfodbaaaGreat.A
end
section
/- Short words for printed texts. No conditions. -/
namespace Go.Proofs.YtcggfjpnfodbaaaGreat.A
open Go.RowKit Go.Proofs.YtcggfjpnfodbaaaGreatW.PrintWords Go.Proofs.YtcggfjpnfodbaaaGreatW.PrintLast Go.Proofs.YtcggfjpnfodbaaaGreatW.PrintMore
set_option linter.unusedVariables false
theorem qa_ {p:Prop} (h:p:=by (try simp only [List.map_toArray,List.map_cons,List.map_nil]);first | done | rfl | (simp only [List.length_drop,List.length_take];rfl)):p:=h
theorem qb_ {p:Prop} (h:p:=by first | rfl | (simp [errW_none,errW_some] <;> rfl) | (simp [*,errW_none,errW_some] <;> rfl)):p:=h
theorem qc_ {p:Prop} (h:p:=by first | rfl | (simp;done) | (simp [*];done)):p:=h
theorem qd_ {p:Prop} (h:p:=by first | omega | exact Nat.le_refl _):p:=h
theorem qe_ {p:Prop} (h:p:=by first | (with_reducible assumption) | assumption):p:=h
theorem hB_ {p:Prop} (h:p:=by repeat (first | (with_reducible first | exact HB.out | apply below_alloc | apply pw_below_drewN | apply below_drew1 | refine below_set ?_ (Aside0.out (by assumption))) | exact HB.out)):p:=h
theorem kk_ {w W:World} {g:Nat} {o:Obj} (a:Aside0 (w.heap[g]? = some o)) (hw:Below w.heap.size w W:=by repeat (first | (with_reducible first | exact Below.refl _ _ | apply below_alloc | apply pw_below_drewN | apply below_drew1) | exact Below.refl _ _)):W.heap[g]? = some o:=blk_below a.out hw
theorem bb_ {w W w1:World} {g:Nat} {o:Obj} (a:Aside0 (w.heap[g]? = some o)) (hb:Below W.heap.size W w1) (hw:Below w.heap.size w W:=by repeat (first | (with_reducible first | exact Below.refl _ _ | apply below_alloc | apply pw_below_drewN | apply below_drew1) | exact Below.refl _ _)):Aside0 (w1.heap[g]? = some o):=⟨blk_below (blk_below a.out hw) hb⟩
section
variable {α:Type} {d:Kd α} {e n c:Nat} {b:Nat} {ok:Nat→Prop} {v:Value} {xs:List α} {A:Option Addr} {w W w1:World}
theorem rr_ (a:Aside0 (d.R e w b ok v xs)) (hw:Below w.heap.size w W:=by repeat (first | (with_reducible first | exact Below.refl _ _ | apply below_alloc | apply pw_below_drewN | apply below_drew1) | exact Below.refl _ _)):d.R e W b ok v xs:=Kd.R_below a.out hw
theorem rw_ (a:d.R e w b ok v xs) (hw:Below w.heap.size w W:=by repeat (first | (with_reducible first | exact Below.refl _ _ | apply below_alloc | apply pw_below_drewN | apply below_drew1) | exact Below.refl _ _)):d.R e W b ok v xs:=Kd.R_below a hw
theorem rb_ (a:Aside0 (d.R e w b ok v xs)) (hb:Below W.heap.size W w1) (hw:Below w.heap.size w W:=by repeat (first | (with_reducible first | exact Below.refl _ _ | apply below_alloc | apply pw_below_drewN | apply below_drew1) | exact Below.refl _ _)):Aside0 (d.R e w1 b ok v xs):=⟨Kd.R_below (Kd.R_below a.out hw) hb⟩
theorem ss_ (a:Aside0 (Kd.S d e w b ok v xs)) (hw:Below w.heap.size w W:=by repeat (first | (with_reducible first | exact Below.refl _ _ | apply below_alloc | apply pw_below_drewN | apply below_drew1) | exact Below.refl _ _)):Kd.S d e W b ok v xs:=Kd.S_below a.out hw
theorem sw_ (a:Kd.S d e w b ok v xs) (hw:Below w.heap.size w W:=by repeat (first | (with_reducible first | exact Below.refl _ _ | apply below_alloc | apply pw_below_drewN | apply below_drew1) | exact Below.refl _ _)):Kd.S d e W b ok v xs:=Kd.S_below a hw
theorem sb_ (a:Aside0 (Kd.S d e w b ok v xs)) (hb:Below W.heap.size W w1) (hw:Below w.heap.size w W:=by repeat (first | (with_reducible first | exact Below.refl _ _ | apply below_alloc | apply pw_below_drewN | apply below_drew1) | exact Below.refl _ _)):Aside0 (Kd.S d e w1 b ok v xs):=⟨Kd.S_below (Kd.S_below a.out hw) hb⟩
theorem cb_ (a:Aside0 (d.C w A n xs)) (hw:Below w.heap.size w W:=by repeat (first | (with_reducible first | exact HB.out | apply below_alloc | apply pw_below_drewN | apply below_drew1 | refine below_set ?_ (Aside0.out (by assumption))) | exact HB.out)):d.C W A n xs:=Kd.C_below a.out hw
theorem cc_ (a:Aside0 (d.C w A n xs)) (hw:Below w.heap.size w W:=by repeat (first | (with_reducible first | exact Below.refl _ _ | apply below_alloc | apply pw_below_drewN | apply below_drew1) | exact Below.refl _ _)):d.C W A n xs:=Kd.C_below a.out hw
theorem cw_ (a:d.C w A n xs) (hw:Below w.heap.size w W:=by repeat (first | (with_reducible first | exact Below.refl _ _ | apply below_alloc | apply pw_below_drewN | apply below_drew1) | exact Below.refl _ _)):d.C W A n xs:=Kd.C_below a hw
theorem cr_ (a:Aside0 (d.R e w b ok (.slice A n c) xs)) (hw:Below w.heap.size w W:=by repeat (first | (with_reducible first | exact Below.refl _ _ | apply below_alloc | apply pw_below_drewN | apply below_drew1) | exact Below.refl _ _)):d.C W A xs.length xs:=Kd.C_below (Kd.R_reads' a.out).2.2 hw
end
theorem b1_ {w W w1:World} (hb:Below W.heap.size W w1) (h:Below w.heap.size w W:=by repeat (first | (with_reducible first | exact HB.out | apply below_alloc | apply pw_below_drewN | apply below_drew1 | refine below_set ?_ (Aside0.out (by assumption))) | exact HB.out)):Aside0 (Below w.heap.size w w1):=⟨below_step h hb⟩
theorem gx_ {n m k:Nat} (hg:k = m) (h:n≤m):n≤k:=hg ▸ h
theorem gn_ {n m k:Nat} (hg:k = m) (h:n < m):n≠k:=hg ▸ Nat.ne_of_lt h
theorem gp_ {n m k:Nat} (hg:k = m) (h:n < m):k≠n:=hg ▸ Nat.ne_of_gt h
theorem cz0_ {w:World} {g:Nat} {t:TypeId} {l:List Value} {v0:Value} (h:Aside0 (w.heap[g]? = some (.cells (List.toArray (v0 :: l)) t (0,0)))):w.cell? ⟨g,0,none⟩ = some v0:=(blk_cell h.out 0).trans rfl
theorem cz1_ {w:World} {g:Nat} {t:TypeId} {l:List Value} {v0 v1:Value} (h:Aside0 (w.heap[g]? = some (.cells (List.toArray (v0 :: v1 :: l)) t (0,0)))):w.cell? ⟨g,1,none⟩ = some v1:=(blk_cell h.out 1).trans rfl
theorem c2_ {w:World} {g:Nat} {t:TypeId} {v0 v1:Value} (h:Aside0 (w.heap[g]? = some (.cells (List.toArray [v0,v1]) t (0,0)))):w.cell? ⟨g,0,none⟩ = some v0∧w.cell? ⟨g,1,none⟩ = some v1∧w.frozen? ⟨g,0,none⟩ = false∧w.frozen? ⟨g,1,none⟩ = false:=⟨cz0_ h,cz1_ h,blk_frozen h.out 0,blk_frozen h.out 1⟩
theorem gw_ (w:World) {W:World} {g:Nat} (hg:g = W.heap.size) (h:Below w.heap.size w W:=by repeat (first | (with_reducible first | exact HB.out | apply below_alloc | apply pw_below_drewN | apply below_drew1 | refine below_set ?_ (Aside0.out (by assumption))) | exact HB.out)):Aside0 (w.heap.size≤g):=⟨gx_ hg (below_size h)⟩
theorem gN_ {w W:World} {g k:Nat} {o:Obj} (a:Aside0 (w.heap[g]? = some o)) (hg:k = W.heap.size) (hw:Below w.heap.size w W:=by repeat (first | (with_reducible first | exact Below.refl _ _ | apply below_alloc | apply pw_below_drewN | apply below_drew1) | exact Below.refl _ _)):Aside0 (g≠k):=⟨gn_ hg (blk_lt (blk_below a.out hw))⟩
theorem gP_ {w W:World} {g k:Nat} {o:Obj} (a:Aside0 (w.heap[g]? = some o)) (hg:k = W.heap.size) (hw:Below w.heap.size w W:=by repeat (first | (with_reducible first | exact Below.refl _ _ | apply below_alloc | apply pw_below_drewN | apply below_drew1) | exact Below.refl _ _)):Aside0 (k≠g):=⟨gp_ hg (blk_lt (blk_below a.out hw))⟩
theorem rl_ {α:Type} {d:Kd α} {e:Nat} {ok:Nat→Prop} {v:Value} {xs:List α} (w:World) {W w1:World} (a:d.R e w1 W.heap.size ok v xs) (h:Below w.heap.size w W:=by repeat (first | (with_reducible first | exact HB.out | apply below_alloc | apply pw_below_drewN | apply below_drew1 | refine below_set ?_ (Aside0.out (by assumption))) | exact HB.out)):Aside0 (d.R e w1 w.heap.size ok v xs):=⟨Kd.R_lower a (below_size h)⟩
theorem cp_ {α:Type} {c:Prop} [Decidable c] {a:Option α} {r:α} (H:(if c then a else none) = some r):c:=Classical.byContradiction fun h=>by rw [if_neg h] at H;cases H
theorem ca_ {α:Type} {c:Prop} [Decidable c] {a:Option α} {r:α} (H:(if c then a else none) = some r):a = some r:=by rw [if_pos (cp_ H)] at H;exact H
theorem bi_ {α β:Type} {x:Option α} {f:α→Option β} {r:β} (H:x.bind f = some r):∃ a,Aside0 (x = some a)∧f a = some r:=by obtain ⟨a,h,k⟩:=Option.bind_eq_some_iff.mp H;exact ⟨a,⟨h⟩,k⟩
theorem qp_ {p:Prop} (h:p:=by (with_reducible repeat (first | refine blk_drewN ?_ _ | refine blk_drew ?_ | refine blk_alloc ?_ _));apply blk_put;(with_reducible repeat (first | refine blk_drewN ?_ _ | refine blk_drew ?_ | refine blk_alloc ?_ _));apply blk_put;(with_reducible repeat (first | refine blk_drewN ?_ _ | refine blk_drew ?_ | refine blk_alloc ?_ _));exact Aside0.out (by assumption);all_goals rfl):p:=h
theorem fa_ {α:Type} {d:Kd α} {e b g t:Nat} {ok:Nat→Prop} {v u0 u1:Value} {xs:List α} {w:World} {cs:Array Value} (a:Aside0 (d.R e w b ok v xs)) (h:Aside0 (w.heap[g]? = some (.cells cs t (0,0)))) (ht:∀ q,q ∈ e :: d.E→q≠t:=by decide):d.R e ((w.setCell ⟨g,0,none⟩ u0).setCell ⟨g,1,none⟩ u1) b ok v xs:=Kd.R_mono (Kd.R_far (p:=⟨g,1,none⟩) (Kd.R_far (p:=⟨g,0,none⟩) (Kd.R_types a.out h.out ht) (fun _ hk=>hk.2) u0) (fun _ hk=>hk.2) u1) (fun _ hk=>hk.1)
def bl_ (n m:Nat):Array Bool:=((List.range n).map fun i=>m.testBit i).toArray
theorem lo_ {α:Type} {a b:Option α} (h:LeO a b:=by first | exact LeO.refl _ | exact LeO.none _):LeO a b:=h
section
variable {P:Program} {ops:Array Oper} {rest:List Oper} {o:Oper} {a:Act} {Q:Exit→Act→World→Prop} {S:World→Prop} {ds:List Nat} {md:Region.Mode} {T:Bool × List (List Nat × List Nat)} {B:List Nat}
theorem bx_ {W:World} (N:Tmp) (cs:Array Value) (t:TypeId) (h:∀ g,g = W.heap.size→∀ w1,w1.heap[g]? = some (.cells cs t (0,0))→Below W.heap.size W w1→wpList P ops Q rest (a.put o.dst (.pointer (some ⟨g,0,none⟩))) w1) (hgd:o.guard = none:=by rfl) (hd:o.dst = some N:=by rfl) (hrun:(execOp a.eval o).run P W = .ok (.value (.pointer (some ⟨W.heap.size,0,none⟩))) (W.alloc (.cells cs t (0,0))):=by first | (go_simp;done) | (go_simp;rfl)):wpList P ops Q (o :: rest) a W:=box_event hgd hd hrun h
theorem gL_ {w : World} (N : Option Tmp) {f : FuncId} {fn : Func} {az : Array Operand} {ts : Array TypeId} (hf : P.funcs[f]? = some fn) (args : Array Value) (hop : o.op = .call { callee := .value (.func f), args := az, argTypes := ts }) (hargs : az.map a.eval = args) (h : Calls P f args w fun e w' => ∃ v, e = .returned v ∧ wpList P ops Q rest (a.put N v) w') (hd : o.dst = N := by rfl) (hg : o.guard = none := by rfl) (hname : (fn.name == "runtime.NumGoroutine") = false := by kernel_rfl) (hb : fn.body.isSome = true := by rfl) : wpList P ops Q (o :: rest) a w := goesL_ N hd hg hf hname hb args hop hargs h
theorem gO_ {N : Option Tmp} {w : World} {K : Act → World → Prop} {f : FuncId} {fn : Func} {az : Array Operand} {ts : Array TypeId} (hf : P.funcs[f]? = some fn) (args : Array Value) (hw : Region.wanted o (yielded ops a.tmps) = true) (hN : o.dst = N) (hop : o.op = .call { callee := .value (.func f), args := az, argTypes := ts }) (hargs : az.map a.eval = args) (h : Calls P f args w fun e w' => ∃ v, e = .returned v ∧ K (a.put N v) w') (hname : (fn.name == "runtime.NumGoroutine") = false := by kernel_rfl) (hb : fn.body.isSome = true := by rfl) : if Region.wanted o (yielded ops a.tmps) = true then Oper.wp P o a w K Q else K (a.put N undef) w := goes_ hf hname hb args hw hN hop hargs h
theorem goesF_ {N : Option Tmp} {w : World} {K : Act → World → Prop} {f : FuncId} {fn : Func} {c : Operand} {az : Array Operand} {ts : Array TypeId} (hf : P.funcs[f]? = some fn) (hname : (fn.name == "runtime.NumGoroutine") = false) (hb : fn.body.isSome = true) (args : Array Value) (hw : Region.wanted o (yielded ops a.tmps) = true) (hN : o.dst = N) (hop : o.op = .call { callee := .value c, args := az, argTypes := ts }) (hargs : az.map a.eval = args) (h : Calls P f args w fun e w' => ∃ v, e = .returned v ∧ K (a.put N v) w') (hc : a.eval c = .func (.func f) #[] #[] := by rfl) : if Region.wanted o (yielded ops a.tmps) = true then Oper.wp P o a w K Q else K (a.put N undef) w := by
 refine call_ f args hw hN ?_ h
 have he:=enters_ hf hname hb args w
 unfold execOp
 simp [hop,resolve,Deferred.ofValue,invoke,hargs,he,hc]
theorem pu_ (i:Nat) (N:Option Tmp) {v:Value} {fuel:Nat} {l:Array Bool} {w:World} (l':Array Bool) (hT:Aside0 (rtab md ops = T)) {a':Act} (h:wpAnyLast P md ops Q S ds fuel l' a' w) (hi:ops[i]? = some o:=by rfl) (hN:o.dst = N:=by rfl) (hc:anyT T l.toList l'.toList i = true:=by kernel_rfl) (hQ:∀ c a w,Q (.panic c) (a.put o.dst v) w→Q (.panic c) a w:=by exact fun _ _ _ h=>h) (hg:o.guard = none ∨ True:=by exact .inr trivial) (hy:Yields P ops o v a:=by exact Or.inl ⟨by rfl,by intro w';go_simp;with_reducible rfl⟩) (ha:a.put N v = a':=by simp only [Act.put,List.setIfInBounds_toArray,List.set_cons_zero,List.set_cons_succ,i64_w,i32_w];rfl):wpAnyLast P md ops Q S ds (fuel + 1) l a w:=pure_ l' hi hN (any_of hT.out hc) hQ hy ha h
theorem ta_ (i:Nat) (N:Option Tmp) {v:Value} {fuel:Nat} {l:Array Bool} {w:World} (l':Array Bool) (hT:Aside0 (rtab md ops = T)) (hB:Aside0 (waitsOk T.2 B = true)) (hS:S w) {a':Act} (h:wpAnyLast P md ops Q S ds fuel l' a' w) (hi:ops[i]? = some o:=by rfl) (hN:o.dst = N:=by rfl) (hc:takeW T B ds l.toList l'.toList i = true:=by kernel_rfl) (hQ:∀ c a w,Q (.panic c) (a.put o.dst v) w→Q (.panic c) a w:=by exact fun _ _ _ h=>h) (hy:YieldsIf P ops S o v a:=by exact Or.inl ⟨by rfl,by intro w' hs_;(repeat obtain ⟨s_,hs_⟩:=hs_);go_simp;with_reducible rfl⟩) (ha:a.put N v = a':=by simp only [Act.put,List.setIfInBounds_toArray,List.set_cons_zero,List.set_cons_succ,i64_w,i32_w];rfl):wpAnyLast P md ops Q S ds (fuel + 1) l a w:=take_ l' hi hN (take_ofW hT.out hB.out hc) hQ hy hS ha h
theorem on_ (i:Nat) (N:Option Tmp) {fuel:Nat} {l:Array Bool} {w:World} (l':Array Bool) (hT:Aside0 (rtab md ops = T)) (h:∀ K:Act→World→Prop,Shut (∀ a' w',S w'→(S w'→wpAnyLast P md ops Q S ds fuel l' a' w')→K a' w')→if Region.wanted o (yielded ops a.tmps) = true then Oper.wp P o a w K Q else K (a.put N undef) w) (hi:ops[i]? = some o:=by rfl) (hN:o.dst = N:=by rfl) (hc:(readyT T.2 l.toList == [i] && l.toList.set i true == l'.toList) = true:=by kernel_rfl) (hd:i ∉ ds:=by decide):wpAnyLast P md ops Q S ds (fuel + 1) l a w:=one_ l' hi hN (one_of hT.out hc) hd h
theorem no_ {v:Value} {fuel:Nat} {l:Array Bool} {w:World} (N:Option Tmp) {a':Act} (h:wpAnyLast P md ops Q S ds fuel l a' w) (ha:a.put N v = a':=by simp only [Act.put,List.setIfInBounds_toArray,List.set_cons_zero,List.set_cons_succ,i64_w,i32_w];rfl):wpAnyLast P md ops Q S ds fuel l (a.put N v) w:=norm_ ha h
end
end Go.Proofs.YtcggfjpnfodbaaaGreat.A
end
section
namespace Go.Proofs.YtcggfjpnfodbaaaGreat.A
open Go.RowKit Go.Proofs.YtcggfjpnfodbaaaGreatW.PrintWords Go.Proofs.YtcggfjpnfodbaaaGreatW.PrintLast Go.Proofs.YtcggfjpnfodbaaaGreatW.PrintMore
attribute [local go_sem] max2_int min2_int max_two min_two max_three min_three max_four min_four
set_option linter.unusedVariables false
set_option linter.unusedSimpArgs false
def Z78.f (l0:List Int) (a1:Int):Option (Int):=if (wrap64 (a1 - (l0.length:Int))) < 0 then (some (-1)) else (some (wrap64 (a1 - (l0.length:Int))))
set_option maxHeartbeats 8000000 in
set_option maxRecDepth 100000 in
theorem Z78.calls (A0:Option Addr) (c0:Nat) (l0:List Int) (a1:Int) (r:Int) (w:World) (hr0:Kd.C (Kd.int .i64) w A0 l0.length l0) (hc0:l0.length≤c0) (h:Z78.f l0 a1 = some r) :
  Calls Tryz.prog 9 #[.slice A0 l0.length c0,.int .i64 a1] w fun e w'=>e = .returned (.int .i64 r)∧Drawn0 w w':=by
 have HR0:=A_ hr0
 have HC0:=A_ hc0
 clear hr0 hc0
 have H:=h
 unfold Z78.f at H
 clear h
 by_cases c3:(wrap64 (a1 - (l0.length:Int))) < 0
 ·rw [if_pos c3] at H
  have c3b0:=oC_ c3
  clear c3
  obtain rfl:=Option.some.inj H
  go_enter Tryz.func9,Tryz.ntmps9
  go_wp2
  go_ret
  exact ⟨qc_,by repeat (first | exact Drawn0.refl _ | apply Drawn0.step)⟩
 ·rw [if_neg c3] at H
  have c3b0:=oD_ c3
  clear c3
  obtain rfl:=Option.some.inj H
  go_enter Tryz.func9,Tryz.ntmps9
  go_wp2
  go_ret
  exact ⟨qc_,by repeat (first | exact Drawn0.refl _ | apply Drawn0.step)⟩
def Z41.f (l0_0:List Int) (l0_1:List Int) (a1:Int):Option (Int):=(Z78.f l0_0 a1).bind fun t102=>(if t102 < 0 then (some (-1)) else ((Z78.f l0_1 t102).bind fun t103=>(if t103 < 0 then (some (-1)) else (some t103))))
set_option maxHeartbeats 8000000 in
set_option maxRecDepth 100000 in
theorem Z41.calls (A0_0:Option Addr) (c0_0:Nat) (l0_0:List Int) (A0_1:Option Addr) (c0_1:Nat) (l0_1:List Int) (a1:Int) (r:Int) (w:World) (hr0_0:Kd.C (Kd.int .i64) w A0_0 l0_0.length l0_0) (hc0_0:l0_0.length≤c0_0) (hr0_1:Kd.C (Kd.int .i64) w A0_1 l0_1.length l0_1) (hc0_1:l0_1.length≤c0_1) (h:Z41.f l0_0 l0_1 a1 = some r) :
  Calls Tryz.prog 4 #[.agg #[.slice A0_0 l0_0.length c0_0,.slice A0_1 l0_1.length c0_1],.int .i64 a1] w fun e w'=>e = .returned (.int .i64 r)∧Below w.heap.size w w':=by
 have hu24:=Tryz.underlying24
 have HR0_0:=A_ hr0_0
 have HC0_0:=A_ hc0_0
 clear hr0_0 hc0_0
 have HR0_1:=A_ hr0_1
 have HC0_1:=A_ hc0_1
 clear hr0_1 hc0_1
 have HB:=A_ (Below.refl w.heap.size w)
 have H:=h
 unfold Z41.f at H
 clear h
 obtain ⟨t102,A3,H⟩:=bi_ H
 by_cases c4:t102 < 0
 ·rw [if_pos c4] at H
  have c4b0:=oC_ c4
  clear c4
  obtain rfl:=Option.some.inj H
  go_enter Tryz.func4,Tryz.ntmps4
  go_wp2_with (first | ((with_reducible refine gB_ (N:=2) rfl ?_);refine bx_ 2 #[.slice A0_0 l0_0.length c0_0,.slice A0_1 l0_1.length c0_1] 24 ?_;intro gb101 hg w5 hbox hb;have BK101:=A_ hbox;have GW101:=gw_ w hg;have GE101:=GW101;replace HB:=b1_ hb;clear hb hbox hg;obtain ⟨hcz6_0,hcz6_1,hfz6_0,hfz6_1⟩:=c2_ BK101) | ((with_reducible refine gA_ (f:=9) rfl ?_);refine gL_ (some 8) Tryz.func9 #[.slice A0_0 l0_0.length c0_0,.int .i64 a1] rfl qa_ ?_;(with_reducible refine (Z78.calls _ _ l0_0 a1 t102 _ (cb_ HR0_0) HC0_0.out A3.out).mono ?_);rintro e w' ⟨rfl,⟨nd,rfl⟩⟩;refine ⟨_,rfl,?_⟩))
  go_ret
  exact ⟨qb_,hB_⟩
 ·rw [if_neg c4] at H
  have c4b0:=oD_ c4
  clear c4
  obtain ⟨t103,A7,H⟩:=bi_ H
  by_cases c8:t103 < 0
  ·rw [if_pos c8] at H
   have c8b0:=oC_ c8
   clear c8
   obtain rfl:=Option.some.inj H
   go_enter Tryz.func4,Tryz.ntmps4
   go_wp2_with (first | ((with_reducible refine gB_ (N:=2) rfl ?_);refine bx_ 2 #[.slice A0_0 l0_0.length c0_0,.slice A0_1 l0_1.length c0_1] 24 ?_;intro gb101 hg w9 hbox hb;have BK101:=A_ hbox;have GW101:=gw_ w hg;have GE101:=GW101;replace HB:=b1_ hb;clear hb hbox hg;obtain ⟨hcz10_0,hcz10_1,hfz10_0,hfz10_1⟩:=c2_ BK101) | ((with_reducible refine gA_ (f:=9) rfl ?_);refine gL_ (some 8) Tryz.func9 #[.slice A0_0 l0_0.length c0_0,.int .i64 a1] rfl qa_ ?_;(with_reducible refine (Z78.calls _ _ l0_0 a1 t102 _ (cb_ HR0_0) HC0_0.out A3.out).mono ?_);rintro e w' ⟨rfl,⟨nd,rfl⟩⟩;refine ⟨_,rfl,?_⟩) | ((with_reducible refine gA_ (f:=9) rfl ?_);refine gL_ (some 14) Tryz.func9 #[.slice A0_1 l0_1.length c0_1,.int .i64 t102] rfl qa_ ?_;(with_reducible refine (Z78.calls _ _ l0_1 t102 t103 _ (cw_ (cD_ HR0_1.out hB_)) HC0_1.out A7.out).mono ?_);rintro e w' ⟨rfl,⟨nd,rfl⟩⟩;refine ⟨_,rfl,?_⟩))
   go_ret
   exact ⟨qb_,hB_⟩
  ·rw [if_neg c8] at H
   have c8b0:=oD_ c8
   clear c8
   obtain rfl:=Option.some.inj H
   go_enter Tryz.func4,Tryz.ntmps4
   go_wp2_with (first | ((with_reducible refine gB_ (N:=2) rfl ?_);refine bx_ 2 #[.slice A0_0 l0_0.length c0_0,.slice A0_1 l0_1.length c0_1] 24 ?_;intro gb101 hg w11 hbox hb;have BK101:=A_ hbox;have GW101:=gw_ w hg;have GE101:=GW101;replace HB:=b1_ hb;clear hb hbox hg;obtain ⟨hcz12_0,hcz12_1,hfz12_0,hfz12_1⟩:=c2_ BK101) | ((with_reducible refine gA_ (f:=9) rfl ?_);refine gL_ (some 8) Tryz.func9 #[.slice A0_0 l0_0.length c0_0,.int .i64 a1] rfl qa_ ?_;(with_reducible refine (Z78.calls _ _ l0_0 a1 t102 _ (cb_ HR0_0) HC0_0.out A3.out).mono ?_);rintro e w' ⟨rfl,⟨nd,rfl⟩⟩;refine ⟨_,rfl,?_⟩) | ((with_reducible refine gA_ (f:=9) rfl ?_);refine gL_ (some 14) Tryz.func9 #[.slice A0_1 l0_1.length c0_1,.int .i64 t102] rfl qa_ ?_;(with_reducible refine (Z78.calls _ _ l0_1 t102 t103 _ (cw_ (cD_ HR0_1.out hB_)) HC0_1.out A7.out).mono ?_);rintro e w' ⟨rfl,⟨nd,rfl⟩⟩;refine ⟨_,rfl,?_⟩))
   go_ret
   exact ⟨qb_,hB_⟩
def Z84.f (a0:Int) (a1:Int) (a2:Int):Option (Bool):=if a0 ≥ a1 then (some (decide (a0≤a2))) else (some false)
set_option maxHeartbeats 8000000 in
set_option maxRecDepth 100000 in
theorem Z84.calls (a0:Int) (a1:Int) (a2:Int) (r:Bool) (w:World) (h:Z84.f a0 a1 a2 = some r) :
  Calls Tryz.prog 102 #[.int .i64 a0,.int .i64 a1,.int .i64 a2] w fun e w'=>e = .returned (.bool r)∧Drawn0 w w':=by
 have H:=h
 unfold Z84.f at H
 clear h
 by_cases c4:a0 ≥ a1
 ·rw [if_pos c4] at H
  have c4b0:decide (a1≤a0) = true:=oC_ c4
  clear c4
  obtain rfl:=Option.some.inj H
  go_enter Tryz.func102,Tryz.ntmps102
  go_wp2
  go_ret
  exact ⟨qc_,by repeat (first | exact Drawn0.refl _ | apply Drawn0.step)⟩
 ·rw [if_neg c4] at H
  have c4b0:decide (a1≤a0) = false:=oD_ c4
  clear c4
  obtain rfl:=Option.some.inj H
  go_enter Tryz.func102,Tryz.ntmps102
  go_wp2
  go_ret
  exact ⟨qc_,by repeat (first | exact Drawn0.refl _ | apply Drawn0.step)⟩
def Z82.l0:Nat→Int→List Int→Int→Int→Option (Bool)
 | 0,_,_,_,_=>none
 | k + 1,x1,x7,x8,x9=>if x9 < x8 then (if 0≤x9 then (if x9 < (x7.length:Int) then (if (rd x7 x9) = x1 then (some true) else (Z82.l0 k x1 x7 x8 (wrap64 (x9 + 1)))) else (none)) else (none)) else (some false)
def Z82.f (k:Nat) (l0:List Int) (a1:Int):Option (Bool):=Z82.l0 k a1 l0 (l0.length:Int) 0
theorem Z82.mono_l:∀ k,(∀ y0 y1 y2 y3,LeO (Z82.l0 k y0 y1 y2 y3) (Z82.l0 (k + 1) y0 y1 y2 y3))
 | 0=>fun _ _ _ _ r h=>by simp [Z82.l0] at h
 | k + 1=>by
  have ih0:=Z82.mono_l k
  ·intro y0 y1 y2 y3
   unfold Z82.l0
   repeat' first|exact ih0 _ _ _ _|exact lo_|refine LeO.ite ?_ ?_|refine LeO.bind ?_ (fun _=>?_)
theorem Z82.mono:∀ a0 a1 k,LeO (Z82.f k a0 a1) (Z82.f (k + 1) a0 a1):=by
 intro a0 a1 k
 have ih0:=Z82.mono_l k
 unfold Z82.f
 repeat' first|exact ih0 _ _ _ _|exact lo_|refine LeO.ite ?_ ?_|refine LeO.bind ?_ (fun _=>?_)
set_option maxHeartbeats 8000000 in
set_option maxRecDepth 100000 in
theorem Z82.calls (k:Nat) (A0:Option Addr) (c0:Nat) (l0:List Int) (a1:Int) (r:Bool) (w:World) (hr0:Kd.C (Kd.int .i64) w A0 l0.length l0) (hc0:l0.length≤c0) (h:Z82.f k l0 a1 = some r) :
  Calls Tryz.prog 103 #[.slice A0 l0.length c0,.int .i64 a1] w fun e w'=>e = .returned (.bool r)∧Drawn0 w w':=by
 have HR0:=A_ hr0
 have HC0:=A_ hc0
 clear hr0 hc0
 have H:=h
 unfold Z82.f at H
 clear h
 have H':=A_ H
 clear H
 go_enter Tryz.func103,Tryz.ntmps103
 go_wp2
 go_loopg [9] k (fun kq v9 w'=>∃ (x9_1:Int),v9 = .int .i64 x9_1∧Aside0 (Z82.l0 kq a1 l0 (l0.length:Int) x9_1 = some r)∧Aside0 (kq≤k)∧Drawn0 w w')
 case atStart=>exact ⟨(0),qc_,H',⟨nA_ _⟩,by repeat (first | exact Drawn0.refl _ | apply Drawn0.step)⟩
 case round =>
  clear H'
  obtain ⟨x9_1,rfl,HA,HK1,⟨m1,rfl⟩⟩:=hrel
  cases gk with
  | zero=>exact absurd HA.out (by simp [Z82.l0])
  | succ k1 =>
   have H:=HA.out
   clear HA
   simp only [Z82.l0] at H
   by_cases c3:x9_1 < (l0.length:Int)
   ·rw [if_pos c3] at H
    have c3b0:=oC_ c3
    clear c3
    have c4:=cp_ H
    replace H:=ca_ H
    have c4b0:=oC_ c4
    clear c4
    have c5:=cp_ H
    replace H:=ca_ H
    have c5b0:=oC_ c5
    clear c5
    by_cases c6:(rd l0 x9_1) = a1
    ·rw [if_pos c6] at H
     have c6b0:((rd l0 x9_1) == a1) = true:=beq_iff_eq.mpr c6
     have c6b1:((rd l0 x9_1) != a1) = false:=bne_eq_false_iff_eq.mpr c6
     clear c6
     obtain rfl:=Option.some.inj H
     have p104:0≤(x9_1:Int):=oB_ qe_
     have q104:x9_1 < (l0.length:Int):=oB_ qe_
     obtain ⟨ad104,e104,hx104_0⟩:=Kd.at_int HR0.out x9_1 p104 q104
     cases e104
     replace p104:=eq_true p104
     replace q104:=eq_true q104
     go_wp2
     go_ret
     exact ⟨qc_,by repeat (first | exact Drawn0.refl _ | apply Drawn0.step)⟩
    ·rw [if_neg c6] at H
     have c6b0:((rd l0 x9_1) == a1) = false:=beq_eq_false_iff_ne.mpr c6
     have c6b1:((rd l0 x9_1) != a1) = true:=bne_iff_ne.mpr c6
     have H':=A_ H
     clear H
     have p104:0≤(x9_1:Int):=oB_ qe_
     have q104:x9_1 < (l0.length:Int):=oB_ qe_
     obtain ⟨ad104,e104,hx104_0⟩:=Kd.at_int HR0.out x9_1 p104 q104
     cases e104
     replace p104:=eq_true p104
     replace q104:=eq_true q104
     go_wp2
     go_roundg k1
     case measure=>have:=HK1.out;omega
     case rel=>exact ⟨(wrap64 (x9_1 + 1)),qc_,H',⟨by have:=HK1.out;omega⟩,by repeat (first | exact Drawn0.refl _ | apply Drawn0.step)⟩
   ·rw [if_neg c3] at H
    have c3b0:=oD_ c3
    clear c3
    obtain rfl:=Option.some.inj H
    go_wp2
    go_ret
    exact ⟨qc_,by repeat (first | exact Drawn0.refl _ | apply Drawn0.step)⟩
def Z80.l0:Nat→List Int→List Int→Int→Int→Option (Bool)
 | 0,_,_,_,_=>none
 | k + 1,x0,x8,x9,x10=>if x10 < x9 then (if 0≤x10 then (if x10 < (x8.length:Int) then ((Z84.f (rd x8 x10) 0 (wrap64 ((x0.length:Int) - 1))).bind fun t106=>(if t106 = true then (if x10≤(x0.length:Int) then ((Z82.f k (x0.take (x10:Int).toNat) (rd x8 x10)).bind fun t108=>(if t108 = true then (some false) else (Z80.l0 k x0 x8 x9 (wrap64 (x10 + 1))))) else (none)) else (some false))) else (none)) else (none)) else (some true)
def Z80.f (k:Nat) (l0:List Int):Option (Bool):=if (l0.length:Int) > 24 then (some false) else (Z80.l0 k l0 l0 (l0.length:Int) 0)
theorem Z80.mono_l:∀ k,(∀ y0 y1 y2 y3,LeO (Z80.l0 k y0 y1 y2 y3) (Z80.l0 (k + 1) y0 y1 y2 y3))
 | 0=>fun _ _ _ _ r h=>by simp [Z80.l0] at h
 | k + 1=>by
  have ih0:=Z80.mono_l k
  ·intro y0 y1 y2 y3
   unfold Z80.l0
   repeat' first
   | (with_reducible exact ih0 _ _ _ _)
   | (with_reducible exact Z82.mono _ _ _)
   | (with_reducible exact LeO.refl _)
   | (with_reducible exact LeO.none _)
   | (with_reducible refine LeO.ite ?_ ?_)
   | (with_reducible refine LeO.bind ?_ (fun _=>?_))
   | exact ih0 _ _ _ _
   | exact Z82.mono _ _ _
   | exact LeO.none _
   | refine LeO.ite ?_ ?_
   | refine LeO.bind ?_ (fun _=>?_)
theorem Z80.mono:∀ a0 k,LeO (Z80.f k a0) (Z80.f (k + 1) a0):=by
 intro a0 k
 have ih0:=Z80.mono_l k
 unfold Z80.f
 repeat' first
   | (with_reducible exact ih0 _ _ _ _)
   | (with_reducible exact Z82.mono _ _ _)
   | (with_reducible exact LeO.refl _)
   | (with_reducible exact LeO.none _)
   | (with_reducible refine LeO.ite ?_ ?_)
   | (with_reducible refine LeO.bind ?_ (fun _=>?_))
   | exact ih0 _ _ _ _
   | exact Z82.mono _ _ _
   | exact LeO.none _
   | refine LeO.ite ?_ ?_
   | refine LeO.bind ?_ (fun _=>?_)
set_option maxHeartbeats 8000000 in
set_option maxRecDepth 100000 in
theorem Z80.calls (k:Nat) (A0:Option Addr) (c0:Nat) (l0:List Int) (r:Bool) (w:World) (hr0:Kd.C (Kd.int .i64) w A0 l0.length l0) (hc0:l0.length≤c0) (h:Z80.f k l0 = some r) :
  Calls Tryz.prog 79 #[.slice A0 l0.length c0] w fun e w'=>e = .returned (.bool r)∧Drawn0 w w':=by
 have HR0:=A_ hr0
 have HC0:=A_ hc0
 clear hr0 hc0
 have H:(if (l0.length:Int) > 24 then (some false) else (Z80.l0 k l0 l0 (l0.length:Int) 0)) = some r:=h
 clear h
 by_cases c2:(l0.length:Int) > 24
 ·rw [if_pos c2] at H
  have c2b0:decide (24 < (l0.length:Int)) = true:=oC_ c2
  have c2b1:decide (24 < l0.length) = true:=oC_ (by omega)
  clear c2
  obtain rfl:=Option.some.inj H
  go_enter Tryz.func79,Tryz.ntmps79
  go_wp2
  go_ret
  exact ⟨by first | rfl | (simp;done) | (simp [*];done),by repeat (first | exact Drawn0.refl _ | apply Drawn0.step)⟩
 ·rw [if_neg c2] at H
  have c2b0:decide (24 < (l0.length:Int)) = false:=oD_ c2
  have c2b1:decide (24 < l0.length) = false:=oD_ (by omega)
  clear c2
  have H':=A_ H
  clear H
  go_enter Tryz.func79,Tryz.ntmps79
  go_wp2
  go_loopg [10] k (fun kq v10 w'=>∃ (x10_1:Int),v10 = .int .i64 x10_1∧Aside0 (Z80.l0 kq l0 l0 (l0.length:Int) x10_1 = some r)∧Aside0 (kq≤k)∧Drawn0 w w')
  case atStart=>exact ⟨(0),(by first | rfl | (simp;done) | (simp [*];done)),H',⟨nA_ _⟩,by repeat (first | exact Drawn0.refl _ | apply Drawn0.step)⟩
  case round =>
   clear H'
   (try clear c2);(try clear c2b0);(try clear c2b1);(try clear p2)
   obtain ⟨x10_1,rfl,HA,HK1,⟨m1,rfl⟩⟩:=hrel
   cases gk with
   | zero=>exact absurd HA.out (by simp [Z80.l0])
   | succ k1 =>
    have H:=HA.out
    clear HA
    simp only [Z80.l0] at H
    by_cases c3:x10_1 < (l0.length:Int)
    ·rw [if_pos c3] at H
     have c3b0:decide (x10_1 < (l0.length:Int)) = true:=oC_ c3
     clear c3
     by_cases c4:0≤x10_1
     ·rw [if_pos c4] at H
      have c4b0:decide (0≤x10_1) = true:=oC_ c4
      clear c4
      by_cases c5:x10_1 < (l0.length:Int)
      ·rw [if_pos c5] at H
       have c5b0:decide (x10_1 < (l0.length:Int)) = true:=oC_ c5
       clear c5
       replace H:=Option.bind_eq_some_iff.mp H
       obtain ⟨t106,A60,H⟩:=H
       replace H:(if t106 = true then (if x10_1≤(l0.length:Int) then ((Z82.f k1 (l0.take (x10_1:Int).toNat) (rd l0 x10_1)).bind fun t108=>(if t108 = true then (some false) else (Z80.l0 k1 l0 l0 (l0.length:Int) (wrap64 (x10_1 + 1))))) else (none)) else (some false)) = some r:=H
       have A6:=A_ A60
       clear A60
       by_cases c7:t106 = true
       ·subst c7
        have H1:(if x10_1≤(l0.length:Int) then ((Z82.f k1 (l0.take (x10_1:Int).toNat) (rd l0 x10_1)).bind fun t108=>(if t108 = true then (some false) else (Z80.l0 k1 l0 l0 (l0.length:Int) (wrap64 (x10_1 + 1))))) else (none)) = some r:=by rw [if_pos rfl] at H;exact H
        clear H
        have H:=H1
        clear H1
        have c8b0:=eq_true (oB_ (by first | (with_reducible assumption) | assumption):0≤x10_1)
        by_cases c9:x10_1≤(l0.length:Int)
        ·rw [if_pos c9] at H
         have c9b0:=eq_true c9
         have c9b1:decide (x10_1≤(l0.length:Int)) = true:=oC_ c9
         clear c9
         replace H:=Option.bind_eq_some_iff.mp H
         obtain ⟨t108,A100,H⟩:=H
         replace H:(if t108 = true then (some false) else (Z80.l0 k1 l0 l0 (l0.length:Int) (wrap64 (x10_1 + 1)))) = some r:=H
         have A10:=A_ A100
         clear A100
         by_cases c11:t108 = true
         ·subst c11
          have H1:(some false) = some r:=by rw [if_pos rfl] at H;exact H
          clear H
          have H:=H1
          clear H1
          obtain rfl:=Option.some.inj H
          have p105:0≤(x10_1:Int):=oB_ (by first | (with_reducible assumption) | assumption)
          have q105:x10_1 < (l0.length:Int):=oB_ (by first | (with_reducible assumption) | assumption)
          obtain ⟨ad105,e105,hx105_0⟩:=Kd.at_int HR0.out x10_1 p105 q105
          cases e105
          replace p105:=eq_true p105
          replace q105:=eq_true q105
          have HL_:=A_ (show (x10_1:Int).toNat = (l0.take (x10_1:Int).toNat).length by rw [lB_];have:=of_eq_true q105;omega)
          go_wp2_with (first | ((with_reducible refine gA_ (f:=102) rfl ?_);refine goesL_ (some 19) rfl rfl Tryz.func102 (by kernel_rfl) rfl #[.int .i64 (rd l0 x10_1),.int .i64 0,.int .i64 (wrap64 ((l0.length:Int) - 1))] rfl (by (try simp only [mA_,mB_,mC_]);first | done | rfl | (simp only [lA_,lB_];rfl)) ?_;(with_reducible refine (Z84.calls (rd l0 x10_1) 0 (wrap64 ((l0.length:Int) - 1)) true _ A6.out).mono ?_);rintro e w' ⟨rfl,⟨nd,rfl⟩⟩;refine ⟨_,rfl,?_⟩;obtain ⟨i012,hi012,_,hsz12,_⟩:=info_parts info3;obtain ⟨hcut12,hA12,hC12⟩:=print_take_of (P:=Tryz.prog) (Value.int .i64) 0 22 3 .i64 Tryz.underlying22 hi012 hsz12 (some ad105) c0 l0 x10_1 (oB_ (by first | (with_reducible assumption) | assumption)) (oB_ (by first | (with_reducible assumption) | assumption)) HC0.out;have HR107:=A_ (Kd.C_of_reads (h1:=fun _=>rfl) (hA12 _ (Kd.reads_of_C HR0.out)));have HC107:=A_ hC12;clear hA12 hC12 hi012 hsz12) | (go_at_call 103;refine calls_of_args (congrArg (fun n_=>#[Value.slice _ n_ _,_]) HL_.out) ?_;(with_reducible refine (Z82.calls k1 _ _ (l0.take (x10_1:Int).toNat) (rd l0 x10_1) true _ ?side1 ?side2 A10.out).mono ?_);(case side1=>repeat (first | exact HR107.out | (with_reducible first | refine cA_ ?_ _ | refine cB_ ?_ _ | refine cC_ ?_)));(case side2=>exact HC107.out);rintro e w' ⟨rfl,⟨nd,rfl⟩⟩))
          go_ret
          exact ⟨by first | rfl | (simp;done) | (simp [*];done),by repeat (first | exact Drawn0.refl _ | apply Drawn0.step)⟩
         ·replace c11:=Bool.eq_false_iff.mpr c11
          subst c11
          have H1:(Z80.l0 k1 l0 l0 (l0.length:Int) (wrap64 (x10_1 + 1))) = some r:=by rw [if_neg (show ¬ (false = true) by decide)] at H;exact H
          clear H
          have H:=H1
          clear H1
          have H':=A_ H
          clear H
          have p105:0≤(x10_1:Int):=oB_ (by first | (with_reducible assumption) | assumption)
          have q105:x10_1 < (l0.length:Int):=oB_ (by first | (with_reducible assumption) | assumption)
          obtain ⟨ad105,e105,hx105_0⟩:=Kd.at_int HR0.out x10_1 p105 q105
          cases e105
          replace p105:=eq_true p105
          replace q105:=eq_true q105
          have HL_:=A_ (show (x10_1:Int).toNat = (l0.take (x10_1:Int).toNat).length by rw [lB_];have:=of_eq_true q105;omega)
          go_wp2_with (first | ((with_reducible refine gA_ (f:=102) rfl ?_);refine goesL_ (some 19) rfl rfl Tryz.func102 (by kernel_rfl) rfl #[.int .i64 (rd l0 x10_1),.int .i64 0,.int .i64 (wrap64 ((l0.length:Int) - 1))] rfl (by (try simp only [mA_,mB_,mC_]);first | done | rfl | (simp only [lA_,lB_];rfl)) ?_;(with_reducible refine (Z84.calls (rd l0 x10_1) 0 (wrap64 ((l0.length:Int) - 1)) true _ A6.out).mono ?_);rintro e w' ⟨rfl,⟨nd,rfl⟩⟩;refine ⟨_,rfl,?_⟩;obtain ⟨i013,hi013,_,hsz13,_⟩:=info_parts info3;obtain ⟨hcut13,hA13,hC13⟩:=print_take_of (P:=Tryz.prog) (Value.int .i64) 0 22 3 .i64 Tryz.underlying22 hi013 hsz13 (some ad105) c0 l0 x10_1 (oB_ (by first | (with_reducible assumption) | assumption)) (oB_ (by first | (with_reducible assumption) | assumption)) HC0.out;have HR107:=A_ (Kd.C_of_reads (h1:=fun _=>rfl) (hA13 _ (Kd.reads_of_C HR0.out)));have HC107:=A_ hC13;clear hA13 hC13 hi013 hsz13) | (go_at_call 103;refine calls_of_args (congrArg (fun n_=>#[Value.slice _ n_ _,_]) HL_.out) ?_;(with_reducible refine (Z82.calls k1 _ _ (l0.take (x10_1:Int).toNat) (rd l0 x10_1) false _ ?side1 ?side2 A10.out).mono ?_);(case side1=>repeat (first | exact HR107.out | (with_reducible first | refine cA_ ?_ _ | refine cB_ ?_ _ | refine cC_ ?_)));(case side2=>exact HC107.out);rintro e w' ⟨rfl,⟨nd,rfl⟩⟩))
          go_roundg k1
          case measure=>have:=HK1.out;omega
          case rel=>exact ⟨(wrap64 (x10_1 + 1)),(by first | rfl | (simp;done) | (simp [*];done)),H',⟨by have:=HK1.out;omega⟩,by repeat (first | exact Drawn0.refl _ | apply Drawn0.step)⟩
        ·rw [if_neg c9] at H
         exact absurd H (by simp)
       ·replace c7:=Bool.eq_false_iff.mpr c7
        subst c7
        have H1:(some false) = some r:=by rw [if_neg (show ¬ (false = true) by decide)] at H;exact H
        clear H
        have H:=H1
        clear H1
        obtain rfl:=Option.some.inj H
        have p105:0≤(x10_1:Int):=oB_ (by first | (with_reducible assumption) | assumption)
        have q105:x10_1 < (l0.length:Int):=oB_ (by first | (with_reducible assumption) | assumption)
        obtain ⟨ad105,e105,hx105_0⟩:=Kd.at_int HR0.out x10_1 p105 q105
        cases e105
        replace p105:=eq_true p105
        replace q105:=eq_true q105
        have HL_:=A_ (show (x10_1:Int).toNat = (l0.take (x10_1:Int).toNat).length by rw [lB_];have:=of_eq_true q105;omega)
        go_wp2_with (first | ((with_reducible refine gA_ (f:=102) rfl ?_);refine goesL_ (some 19) rfl rfl Tryz.func102 (by kernel_rfl) rfl #[.int .i64 (rd l0 x10_1),.int .i64 0,.int .i64 (wrap64 ((l0.length:Int) - 1))] rfl (by (try simp only [mA_,mB_,mC_]);first | done | rfl | (simp only [lA_,lB_];rfl)) ?_;(with_reducible refine (Z84.calls (rd l0 x10_1) 0 (wrap64 ((l0.length:Int) - 1)) false _ A6.out).mono ?_);rintro e w' ⟨rfl,⟨nd,rfl⟩⟩;refine ⟨_,rfl,?_⟩))
        go_ret
        exact ⟨by first | rfl | (simp;done) | (simp [*];done),by repeat (first | exact Drawn0.refl _ | apply Drawn0.step)⟩
      ·rw [if_neg c5] at H
       exact absurd H (by simp)
     ·rw [if_neg c4] at H
      exact absurd H (by simp)
    ·rw [if_neg c3] at H
     have c3b0:decide (x10_1 < (l0.length:Int)) = false:=oD_ c3
     clear c3
     obtain rfl:=Option.some.inj H
     go_wp2
     go_ret
     exact ⟨by first | rfl | (simp;done) | (simp [*];done),by repeat (first | exact Drawn0.refl _ | apply Drawn0.step)⟩
end Go.Proofs.YtcggfjpnfodbaaaGreat.A
end
section
namespace Go.Proofs.YtcggfjpnfodbaaaGreat.A
open Go.RowKit Go.Proofs.YtcggfjpnfodbaaaGreatW.PrintWords Go.Proofs.YtcggfjpnfodbaaaGreatW.PrintLast Go.Proofs.YtcggfjpnfodbaaaGreatW.PrintMore
attribute [local go_sem] max2_int min2_int max_two min_two max_three min_three max_four min_four
set_option linter.unusedVariables false
set_option linter.unusedSimpArgs false
mutual
def Z56.l0:Nat→List Int→List Int→List Int→Int→Option (List Int)
 | 0,_,_,_,_=>none
 | k + 1,x0,x1,x7,x8=>if x8 < (x7.length:Int) then (if 0≤x8 then (if 0≤(rd x7 x8) then (if (rd x7 x8) < (x0.length:Int) then (if (rd x7 x8) < (x1.length:Int) then ((some (([rd x0 (rd x7 x8),rd x1 (rd x7 x8)]:List Int):List Int)).bind fun y116=>(Z56.l1 k x0 x1 x7 x8 y116 (y116.length:Int) 0)) else (none)) else (none)) else (none)) else (none)) else (some x7)
def Z56.l1:Nat→List Int→List Int→List Int→Int→List Int→Int→Int→Option (List Int)
 | 0,_,_,_,_,_,_,_=>none
 | k + 1,x0,x1,x7,x8,x33,x34,x35=>if x35 < x34 then (if 0≤x35 then (if x35 < (x33.length:Int) then ((Z82.f k x7 (rd x33 x35)).bind fun t120=>(if t120 = true then (Z56.l1 k x0 x1 x7 x8 x33 x34 (wrap64 (x35 + 1))) else (if x7.length < 17592186044416 then (Z56.l1 k x0 x1 (x7 ++ [rd x33 x35]) x8 x33 x34 (wrap64 (x35 + 1))) else (none)))) else (none)) else (none)) else (Z56.l0 k x0 x1 x7 (wrap64 (x8 + 1)))
end
def Z56.f (k:Nat) (l0:List Int) (l1:List Int) (a2:Int):Option (List Int):=Z56.l0 k l0 l1 (([a2]:List Int)) 0
theorem Z56.mono_l:∀ k,(∀ y0 y1 y2 y3,LeO (Z56.l0 k y0 y1 y2 y3) (Z56.l0 (k + 1) y0 y1 y2 y3))∧(∀ y0 y1 y2 y3 y4 y5 y6,LeO (Z56.l1 k y0 y1 y2 y3 y4 y5 y6) (Z56.l1 (k + 1) y0 y1 y2 y3 y4 y5 y6))
 | 0=>⟨fun _ _ _ _ r h=>by simp [Z56.l0] at h,fun _ _ _ _ _ _ _ r h=>by simp [Z56.l1] at h⟩
 | k + 1=>by
  obtain ⟨ih0,ih1⟩:=Z56.mono_l k
  refine ⟨?_,?_⟩
  ·intro y0 y1 y2 y3
   unfold Z56.l0
   repeat' first|exact ih0 _ _ _ _|exact ih1 _ _ _ _ _ _ _|exact Z82.mono _ _ _|exact lo_|refine LeO.ite ?_ ?_|refine LeO.bind ?_ (fun _=>?_)
  ·intro y0 y1 y2 y3 y4 y5 y6
   unfold Z56.l1
   repeat' first|exact ih0 _ _ _ _|exact ih1 _ _ _ _ _ _ _|exact Z82.mono _ _ _|exact lo_|refine LeO.ite ?_ ?_|refine LeO.bind ?_ (fun _=>?_)
theorem Z56.mono:∀ a0 a1 a2 k,LeO (Z56.f k a0 a1 a2) (Z56.f (k + 1) a0 a1 a2):=by
 intro a0 a1 a2 k
 obtain ⟨ih0,ih1⟩:=Z56.mono_l k
 unfold Z56.f
 repeat' first|exact ih0 _ _ _ _|exact ih1 _ _ _ _ _ _ _|exact Z82.mono _ _ _|exact lo_|refine LeO.ite ?_ ?_|refine LeO.bind ?_ (fun _=>?_)
def Z56.T5:Bool × List (List Nat × List Nat):=(true,[([],[]),([],[]),([],[]),([1,2],[1,2]),([3],[3]),([0,4],[0,4]),([5],[5]),([],[]),([],[]),([],[]),([8,9],[8,9]),([10],[10]),([7,11],[7,11]),([12],[12]),([6,13],[6,13]),([14],[14]),([],[])])
def Z56.B5:List Nat:=[0,0,0,6,14,31,63,0,0,0,768,1792,3968,8064,16383,32767,0]
theorem Z56.tab5:rtab .any (opsOf Tryz.f80 5) = Z56.T5:=by kernel_rfl
theorem Z56.bits5:waitsOk Z56.T5.2 Z56.B5 = true:=by kernel_rfl
set_option maxHeartbeats 8000000 in
set_option maxRecDepth 100000 in
theorem Z56.calls (k:Nat) (A0:Option Addr) (c0:Nat) (l0:List Int) (A1:Option Addr) (c1:Nat) (l1:List Int) (a2:Int) (r:List Int) (w:World) (hr0:Kd.C (Kd.int .i64) w A0 l0.length l0) (hc0:l0.length≤c0) (hr1:Kd.C (Kd.int .i64) w A1 l1.length l1) (hc1:l1.length≤c1) (h:Z56.f k l0 l1 a2 = some r) :
  Calls Tryz.prog 80 #[.slice A0 l0.length c0,.slice A1 l1.length c1,.int .i64 a2] w fun e w'=>∃ v0_:Value,e = .returned (v0_)∧Kd.R (Kd.int .i64) 3 w' w.heap.size (fun _=>True) v0_ r∧Below w.heap.size w w':=by
 have HR0:=A_ hr0
 have HC0:=A_ hc0
 clear hr0 hc0
 have HR1:=A_ hr1
 have HC1:=A_ hc1
 clear hr1 hc1
 have HB:=A_ (Below.refl w.heap.size w)
 have H:=h
 unfold Z56.f at H
 clear h
 obtain ⟨y109,hy109⟩:∃ y_:List Int,y_ = (([a2]:List Int)):=⟨_,rfl⟩
 replace H:(Z56.l0 k l0 l1 y109 0) = some r:=by first | (rw [hy109];exact H) | exact H
 have Ny109:=A_ hy109
 clear hy109
 have H':=A_ H
 clear H
 go_enter Tryz.func80,Tryz.ntmps80
 go_wp2_with (first | ((with_reducible refine gB_ (N:=12) rfl ?_);refine Kd.R_lit (Kd.int .i64) _ 3 ?hg (N:=12) ?hd (xs:=([a2]:List Int)) (inner:=[.int .i64 a2]) (ok:=fun _=>True) (okp:=fun _=>True) ?hr ?hp (fun _ hk=>hk) trivial (Below.refl _ _) (nA_ _) (by simp) ?_;(case hd=>rfl);(case hg=>rfl);(case hr=>first | (go_simp;done) | (go_simp;rfl));(case hp=>exact (Reps.one (show Kd.M (Kd.int .i64) _ _ _ a2 [.int .i64 a2] from rfl) (Reps.none _ _)));intro v110 w4 ho5 hb hg_ hnew_;clear hg_ hnew_;(first | rw [← Ny109.out] at ho5 | (simp only [Int.reduceToNat] at ho5;rw [← Ny109.out] at ho5));have HO111:=rl_ w ho5;replace HB:=b1_ hb;clear hb ho5))
 go_loopg [7,8] k (fun kq v7 v8 w'=>∃ (x7_1:List Int) (x8_1:Int),v8 = .int .i64 x8_1∧Aside0 (Z56.l0 kq l0 l1 x7_1 x8_1 = some r)∧Aside0 (kq≤k)∧Aside0 (Kd.R (Kd.int .i64) 3 w' w.heap.size (fun _=>True) v7 x7_1)∧Aside0 (Below w.heap.size w w'))
 case atStart=>exact ⟨(y109),(0),qc_,H',⟨nA_ _⟩,⟨(rr_ HO111)⟩,⟨hB_⟩⟩
 case round =>
  clear H'
  obtain ⟨x7_1,x8_1,rfl,HA,HK1,HO_7,HB⟩:=hrel
  cases gk with
  | zero=>exact absurd HA.out (by simp [Z56.l0])
  | succ k1 =>
   have H:=HA.out
   clear HA
   simp only [Z56.l0] at H
   by_cases c6:x8_1 < (x7_1.length:Int)
   ·rw [if_pos c6] at H
    have c6b0:=oC_ c6
    clear c6
    have c7:=cp_ H
    replace H:=ca_ H
    have c7b0:=oC_ c7
    clear c7
    have c8:=cp_ H
    replace H:=ca_ H
    have c8b0:=oC_ c8
    clear c8
    have c9:=cp_ H
    replace H:=ca_ H
    have c9b0:=oC_ c9
    clear c9
    have c10:=cp_ H
    replace H:=ca_ H
    have c10b0:=oC_ c10
    clear c10
    obtain ⟨y116,hy116⟩:∃ y_:List Int,y_ = (([rd l0 (rd x7_1 x8_1),rd l1 (rd x7_1 x8_1)]:List Int)):=⟨_,rfl⟩
    replace H:(Z56.l1 k1 l0 l1 x7_1 x8_1 y116 (y116.length:Int) 0) = some r:=by first | (rw [hy116];exact H) | exact H
    have Ny116:=A_ hy116
    clear hy116
    have H':=A_ H
    clear H
    obtain ⟨Ao11,co11,eo11⟩:=Kd.R_slice HO_7.out
    subst eo11
    try go_wp2
    replace HO_7:=A_ (rC_ HO_7.out)
    replace HB:=A_ (bC_ HB.out)
    have p112:0≤(x8_1:Int):=oB_ qe_
    have q112:x8_1 < (x7_1.length:Int):=oB_ qe_
    obtain ⟨ad112,e112,hx112_0⟩:=Kd.at_int (Kd.R_reads' HO_7.out).2.2 x8_1 p112 q112
    cases e112
    replace p112:=eq_true p112
    replace q112:=eq_true q112
    have p113:0≤((rd x7_1 x8_1):Int):=oB_ qe_
    have q113:(rd x7_1 x8_1) < (l0.length:Int):=oB_ qe_
    obtain ⟨ad113,e113,hx113_0⟩:=Kd.at_int HR0.out (rd x7_1 x8_1) p113 q113
    have hw113_0:=hx113_0
    cases e113
    replace hx113_0:=(HB.out.cell (World.block_lt_of_cell? w _ hx113_0)).trans hx113_0
    replace p113:=eq_true p113
    replace q113:=eq_true q113
    have p114:0≤(x8_1:Int):=oB_ qe_
    have q114:x8_1 < (x7_1.length:Int):=oB_ qe_
    obtain ⟨ad114,e114,hx114_0⟩:=Kd.at_int (Kd.R_reads' HO_7.out).2.2 x8_1 p114 q114
    obtain rfl:ad112 = ad114:=(by injection e114)
    replace p114:=eq_true p114
    replace q114:=eq_true q114
    have p115:0≤((rd x7_1 x8_1):Int):=oB_ qe_
    have q115:(rd x7_1 x8_1) < (l1.length:Int):=oB_ qe_
    obtain ⟨ad115,e115,hx115_0⟩:=Kd.at_int HR1.out (rd x7_1 x8_1) p115 q115
    have hw115_0:=hx115_0
    cases e115
    replace hx115_0:=(HB.out.cell (World.block_lt_of_cell? w _ hx115_0)).trans hx115_0
    replace p115:=eq_true p115
    replace q115:=eq_true q115
    refine start_ (n:=17) (S:=fun w'=>w'.cell? (ad112.add (x8_1).toNat) = some (.int .i64 (rd x7_1 x8_1))∧w'.cell? (ad113.add ((rd x7_1 x8_1)).toNat) = some (.int .i64 (rd l0 (rd x7_1 x8_1)))∧w'.cell? (ad112.add (x8_1).toNat) = some (.int .i64 (rd x7_1 x8_1))∧w'.cell? (ad115.add ((rd x7_1 x8_1)).toNat) = some (.int .i64 (rd l1 (rd x7_1 x8_1)))) (ds:=[]) (bl_ 17 0) (by kernel_rfl) rfl (by kernel_rfl) ⟨hx112_0,((HB.out.cell (World.block_lt_of_cell? w _ hw113_0)).trans hw113_0),hx114_0,((HB.out.cell (World.block_lt_of_cell? w _ hw115_0)).trans hw115_0)⟩ (fun hHeld=>?_);refine with_tabW Z56.tab5 Z56.bits5 (fun HT_ HW_=>?_)
    generalize wr.drew = w12 at HO_7 HB hx112_0 hx113_0 hx114_0 hx115_0 hHeld ⊢
    refine pu_ 0 (some 19) (bl_ 17 1) HT_ ?_
    refine pu_ 1 (some 20) (bl_ 17 3) HT_ ?_
    refine pu_ 2 (some 21) (bl_ 17 7) HT_ ?_
    refine pu_ 3 (some 22) (bl_ 17 15) HT_ ?_
    refine pu_ 7 (some 26) (bl_ 17 143) HT_ ?_
    refine pu_ 8 (some 27) (bl_ 17 399) HT_ ?_
    refine pu_ 9 (some 28) (bl_ 17 911) HT_ ?_
    refine pu_ 10 (some 29) (bl_ 17 1935) HT_ ?_
    refine pu_ 16 (some 35) (bl_ 17 67471) HT_ ?_
    refine ta_ 4 (some 23) (bl_ 17 67487) HT_ HW_ hHeld ?_
    refine pu_ 5 (some 24) (bl_ 17 67519) HT_ ?_
    refine ta_ 6 (some 25) (bl_ 17 67583) HT_ HW_ hHeld ?_
    refine ta_ 11 (some 30) (bl_ 17 69631) HT_ HW_ hHeld ?_
    refine pu_ 12 (some 31) (bl_ 17 73727) HT_ ?_
    refine ta_ 13 (some 32) (bl_ 17 81919) HT_ HW_ hHeld ?_
    refine on_ 14 (some 33) (bl_ 17 98303) HT_ (fun K hK=>?_)
    refine Kd.R_lit_step (Kd.int .i64) _ 3 ?hg (N:=33) ?hd (xs:=([rd l0 (rd x7_1 x8_1),rd l1 (rd x7_1 x8_1)]:List Int)) (inner:=[.int .i64 (rd l0 (rd x7_1 x8_1)),.int .i64 (rd l1 (rd x7_1 x8_1))]) (ok:=fun _=>True) (okp:=fun _=>True) ?hr ?hp (fun _ hk=>hk) trivial (Below.refl _ _) (nA_ _) (by simp) ?_;(case hd=>rfl);(case hg=>rfl);(case hr=>first | (go_simp;done) | (go_simp;rfl));(case hp=>exact (Reps.one (show Kd.M (Kd.int .i64) _ _ _ (rd l0 (rd x7_1 x8_1)) [.int .i64 (rd l0 (rd x7_1 x8_1))] from rfl) (Reps.one (show Kd.M (Kd.int .i64) _ _ _ (rd l1 (rd x7_1 x8_1)) [.int .i64 (rd l1 (rd x7_1 x8_1))] from rfl) (Reps.none _ _))))
    intro v117 w13 ho14 hb hg_ hnew_
    have HS0_:=(hb.cell (World.block_lt_of_cell? _ _ (hHeld.1))).trans (hHeld.1)
    have HS2_:=(hb.cell (World.block_lt_of_cell? _ _ (hHeld.2.2.1))).trans (hHeld.2.2.1)
    clear hg_ hnew_
    (first | rw [← Ny116.out] at ho14 | (simp only [Int.reduceToNat] at ho14;rw [← Ny116.out] at ho14))
    have HO118:=A_ (rE_ (Kd.R_new' ho14 (Kd.R_lt (rr_ HO_7))) (bF_ hB_))
    replace HO_7:=A_ (Kd.R_elder' (rr_ HO_7) (Kd.R_base ho14) hb)
    replace HB:=b1_ hb
    clear hb ho14
    obtain ⟨Ao15,co15,eo15⟩:=Kd.R_slice HO118.out
    (first | subst eo15 | (injection eo15 with f1_ f2_ f3_;have f4_:=f1_.symm;have f5_:=f3_.symm;clear f1_ f2_ f3_;subst f4_;subst f5_))
    refine hK.out _ _ ⟨HS0_,((HB.out.cell (World.block_lt_of_cell? w _ hw113_0)).trans hw113_0),HS2_,((HB.out.cell (World.block_lt_of_cell? w _ hw115_0)).trans hw115_0)⟩ (fun hHeld=>?_)
    clear hK K
    refine no_ (some 33) ?_
    refine pu_ 15 (some 34) (bl_ 17 131071) HT_ ?_
    refine done_ (done_of HT_.out (by kernel_rfl)) ?_
    try go_wp2
    go_loopg [7,35] k1 (fun kq v7 v35 w'=>∃ (x7_2:List Int) (x35_2:Int),v35 = .int .i64 x35_2∧Aside0 (Z56.l1 kq l0 l1 x7_2 x8_1 y116 (y116.length:Int) x35_2 = some r)∧Aside0 (kq≤k1)∧Aside0 (Kd.R (Kd.int .i64) 3 w' w.heap.size (fun k_=>some k_≠((.slice Ao15 y116.length co15):Value).ownBlock) v7 x7_2)∧Aside0 (Kd.R (Kd.int .i64) 3 w' w.heap.size (fun k_=>some k_≠(v7:Value).ownBlock) (.slice Ao15 y116.length co15) y116)∧Aside0 (Below w.heap.size w w'))
    case atStart=>exact ⟨(x7_1),(0),qc_,H',⟨nA_ _⟩,⟨(rw_ (Kd.R_mono HO_7.out (fun _ hk=>hk.2)))⟩,⟨(rw_ (Kd.R_mono HO118.out (fun _ hk=>hk.2)))⟩,⟨hB_⟩⟩
    case round =>
     clear H'
     obtain ⟨x7_2,x35_2,rfl,HA,HK2,HO_7,HO_33,HB⟩:=hrel
     cases gk with
     | zero=>exact absurd HA.out (by simp [Z56.l1])
     | succ k2 =>
      have H:=HA.out
      clear HA
      simp only [Z56.l1] at H
      by_cases c16:x35_2 < (y116.length:Int)
      ·rw [if_pos c16] at H
       have c16b0:=oC_ c16
       clear c16
       have c17:=cp_ H
       replace H:=ca_ H
       have c17b0:=oC_ c17
       clear c17
       have c18:=cp_ H
       replace H:=ca_ H
       have c18b0:=oC_ c18
       clear c18
       obtain ⟨t120,A19,H⟩:=bi_ H
       by_cases c20:t120 = true
       ·subst c20
        rw [if_pos rfl] at H
        have H':=A_ H
        clear H
        have p119:0≤(x35_2:Int):=oB_ qe_
        have q119:x35_2 < (y116.length:Int):=oB_ qe_
        obtain ⟨ad119,e119,hx119_0⟩:=Kd.at_int (Kd.R_reads' HO_33.out).2.2 x35_2 p119 q119
        cases e119
        replace p119:=eq_true p119
        replace q119:=eq_true q119
        obtain ⟨Ao21,co21,eo21⟩:=Kd.R_slice HO_7.out
        subst eo21
        go_wp2_with (first | ((with_reducible refine gA_ (f:=103) rfl ?_);refine gL_ (some 41) Tryz.func103 #[.slice Ao21 x7_2.length co21,.int .i64 (rd y116 x35_2)] rfl qa_ ?_;(with_reducible refine (Z82.calls k2 _ _ x7_2 (rd y116 x35_2) true _ (cr_ HO_7) ((Kd.R_reads' HO_7.out).2.1) A19.out).mono ?_);rintro e w' ⟨rfl,⟨nd,rfl⟩⟩;refine ⟨_,rfl,?_⟩))
        go_roundg k2
        case measure=>have:=HK1.out;have:=HK2.out;omega
        case rel=>exact ⟨(x7_2),(wrap64 (x35_2 + 1)),qc_,H',⟨by have:=HK1.out;have:=HK2.out;omega⟩,⟨(rr_ HO_7)⟩,⟨(rr_ HO_33)⟩,⟨hB_⟩⟩
       ·replace c20:=Bool.eq_false_iff.mpr c20
        subst c20
        have H1:(if x7_2.length < 17592186044416 then (Z56.l1 k2 l0 l1 (x7_2 ++ [rd y116 x35_2]) x8_1 y116 (y116.length:Int) (wrap64 (x35_2 + 1))) else (none)) = some r:=by rw [if_neg (show ¬ (false = true) by decide)] at H;exact H
        clear H
        have H:=H1
        clear H1
        have c22:=cp_ H
        replace H:=ca_ H
        have LMc22:=A_ c22
        clear c22
        obtain ⟨y121,hy121⟩:∃ y_:List Int,y_ = (x7_2 ++ [rd y116 x35_2]):=⟨_,rfl⟩
        replace H:(Z56.l1 k2 l0 l1 y121 x8_1 y116 (y116.length:Int) (wrap64 (x35_2 + 1))) = some r:=by first | (rw [hy121];exact H) | exact H
        have Ny121:=A_ hy121
        clear hy121
        have H':=A_ H
        clear H
        have p119:0≤(x35_2:Int):=oB_ qe_
        have q119:x35_2 < (y116.length:Int):=oB_ qe_
        obtain ⟨ad119,e119,hx119_0⟩:=Kd.at_int (Kd.R_reads' HO_33.out).2.2 x35_2 p119 q119
        cases e119
        replace p119:=eq_true p119
        replace q119:=eq_true q119
        obtain ⟨Ao23,co23,eo23⟩:=Kd.R_slice HO_7.out
        subst eo23
        go_wp2_with (first | ((with_reducible refine gA_ (f:=103) rfl ?_);refine gL_ (some 41) Tryz.func103 #[.slice Ao23 x7_2.length co23,.int .i64 (rd y116 x35_2)] rfl qa_ ?_;(with_reducible refine (Z82.calls k2 _ _ x7_2 (rd y116 x35_2) false _ (cr_ HO_7) ((Kd.R_reads' HO_7.out).2.1) A19.out).mono ?_);rintro e w' ⟨rfl,⟨nd,rfl⟩⟩;refine ⟨_,rfl,?_⟩) | ((with_reducible refine gate_builtin (b:=.append) (xs:=#[.tmp 43,.tmp 45]) rfl ?_);at_builtin;refine Kd.R_append (Kd.int .i64) (w0:=w) w.heap.size rfl (.tmp 43) (.tmp 45) 22 3 (.int .i64 0) 8 rfl Tryz.underlying22 info3 rfl (by decide) (by omega) (.slice Ao23 x7_2.length co23) x7_2 (rd y116 x35_2) [.int .i64 (rd y116 x35_2)] (fun k_=>some k_≠(.slice (some ad119) y116.length co15:Value).ownBlock) (fun _=>False) rfl rfl ?aP (fun _ hk=>hk.elim) ?aF ?aO ?aB ?aS ?aL ?_;(case aP=>exact rfl);(case aB=>exact hB_);(case aF=>exact (fun k_ hk=>Kd.fresh' (Kd.R_lt (rr_ HO_33)) k_ hk));(case aO=>exact (rr_ HO_7));(case aS=>exact (bF_ hB_));(case aL=>have:=LMc22.out;omega);intro v122 w24 ho hb hg hat;rw [← Ny121.out] at ho;replace HO_33:=A_ (Kd.R_after (ok:=(fun _=>True)) (rw_ (Kd.R_mono HO_33.out (fun _ hk=>⟨trivial,hk⟩))) hg hat);replace HB:=A_ hb;have HO123:=A_ ho;clear HO_7;clear ho hb hg hat))
        go_roundg k2
        case measure=>have:=HK1.out;have:=HK2.out;omega
        case rel=>exact ⟨(y121),(wrap64 (x35_2 + 1)),qc_,H',⟨by have:=HK1.out;have:=HK2.out;omega⟩,⟨(rr_ HO123)⟩,⟨(rw_ (Kd.R_mono HO_33.out (fun _ hk=>hk.2)))⟩,⟨hB_⟩⟩
      ·rw [if_neg c16] at H
       have c16b0:=oD_ c16
       clear c16
       have H':=A_ H
       clear H
       go_wp2
       go_roundg k2
       case measure=>have:=HK1.out;have:=HK2.out;omega
       case rel=>exact ⟨(x7_2),(wrap64 (x8_1 + 1)),qc_,H',⟨by have:=HK1.out;have:=HK2.out;omega⟩,⟨(rw_ (Kd.R_mono HO_7.out (fun _ hk=>trivial)))⟩,⟨hB_⟩⟩
   ·rw [if_neg c6] at H
    have c6b0:=oD_ c6
    clear c6
    obtain rfl:=Option.some.inj H
    obtain ⟨Ao25,co25,eo25⟩:=Kd.R_slice HO_7.out
    subst eo25
    go_wp2
    go_ret
    exact ⟨_,qb_,(rr_ HO_7),hB_⟩
end Go.Proofs.YtcggfjpnfodbaaaGreat.A
end
section
namespace Go.Proofs.YtcggfjpnfodbaaaGreat.A
open Go.RowKit Go.Proofs.YtcggfjpnfodbaaaGreatW.PrintWords Go.Proofs.YtcggfjpnfodbaaaGreatW.PrintLast Go.Proofs.YtcggfjpnfodbaaaGreatW.PrintMore
attribute [local go_sem] max2_int min2_int max_two min_two max_three min_three max_four min_four
set_option linter.unusedVariables false
set_option linter.unusedSimpArgs false
def Z19.f (k:Nat) (l0:List Int) (l1:List Int):Option (Bool):=(Z80.f k l0).bind fun t124=>(if t124 = true then ((Z80.f k l1).bind fun t125=>(if t125 = true then (if (l0.length:Int) = (l1.length:Int) then (if (l0.length:Int) > 0 then ((Z56.f k l0 l1 0).bind fun t126=>(some ((t126.length:Int) == (l0.length:Int)))) else (some false)) else (some false)) else (some false))) else (some false))
theorem Z19.mono:∀ a0 a1 k,LeO (Z19.f k a0 a1) (Z19.f (k + 1) a0 a1):=by
 intro a0 a1 k
 unfold Z19.f
 repeat' first|exact Z80.mono _ _|exact Z56.mono _ _ _ _|exact lo_|refine LeO.ite ?_ ?_|refine LeO.bind ?_ (fun _=>?_)
set_option maxHeartbeats 8000000 in
set_option maxRecDepth 100000 in
theorem Z19.calls (k:Nat) (A0:Option Addr) (c0:Nat) (l0:List Int) (A1:Option Addr) (c1:Nat) (l1:List Int) (r:Bool) (w:World) (hr0:Kd.C (Kd.int .i64) w A0 l0.length l0) (hc0:l0.length≤c0) (hr1:Kd.C (Kd.int .i64) w A1 l1.length l1) (hc1:l1.length≤c1) (h:Z19.f k l0 l1 = some r) :
  Calls Tryz.prog 46 #[.slice A0 l0.length c0,.slice A1 l1.length c1] w fun e w'=>e = .returned (.bool r)∧Below w.heap.size w w':=by
 have HR0:=A_ hr0
 have HC0:=A_ hc0
 clear hr0 hc0
 have HR1:=A_ hr1
 have HC1:=A_ hc1
 clear hr1 hc1
 have HB:=A_ (Below.refl w.heap.size w)
 have H:=h
 unfold Z19.f at H
 clear h
 obtain ⟨t124,A3,H⟩:=bi_ H
 by_cases c4:t124 = true
 ·subst c4
  rw [if_pos rfl] at H
  obtain ⟨t125,A5,H⟩:=bi_ H
  by_cases c6:t125 = true
  ·subst c6
   rw [if_pos rfl] at H
   by_cases c7:(l0.length:Int) = (l1.length:Int)
   ·rw [if_pos c7] at H
    have c7b0:((l0.length:Int) == (l1.length:Int)) = true:=beq_iff_eq.mpr c7
    have c7b1:((l0.length:Int) != (l1.length:Int)) = false:=bne_eq_false_iff_eq.mpr c7
    have c7b2:(l0.length == l1.length) = true:=by first | simpa using c7 | (simp at c7 ⊢;omega)
    clear c7
    by_cases c8:(l0.length:Int) > 0
    ·rw [if_pos c8] at H
     have c8b0:decide (0 < (l0.length:Int)) = true:=oC_ c8
     have c8b1:decide (0 < l0.length) = true:=oC_ (by omega)
     clear c8
     obtain ⟨t126,A9,H⟩:=bi_ H
     obtain rfl:=Option.some.inj H
     go_enter Tryz.func46,Tryz.ntmps46
     go_wp2_with (first | ((with_reducible refine gA_ (f:=79) rfl ?_);refine gL_ (some 6) Tryz.func79 #[.slice A0 l0.length c0] rfl qa_ ?_;(with_reducible refine (Z80.calls k _ _ l0 true _ (cc_ HR0) HC0.out A3.out).mono ?_);rintro e w' ⟨rfl,⟨nd,rfl⟩⟩;refine ⟨_,rfl,?_⟩) | (go_at_call 79;(with_reducible refine (Z80.calls k _ _ l1 true _ (cc_ HR1) HC1.out A5.out).mono ?_);rintro e w' ⟨rfl,⟨nd,rfl⟩⟩) | (go_at_call 80;(with_reducible refine (Z56.calls k _ _ l0 _ _ l1 0 t126 _ (cc_ HR0) HC0.out (cc_ HR1) HC1.out A9.out).mono ?_);rintro e w10 ⟨v127,rfl,ho0,hb⟩;have HO128:=rl_ w ho0;replace HB:=b1_ hb;clear hb ho0;obtain ⟨Ao11,co11,eo11⟩:=Kd.R_slice HO128.out;subst eo11))
     go_ret
     exact ⟨qb_,hB_⟩
    ·rw [if_neg c8] at H
     have c8b0:decide (0 < (l0.length:Int)) = false:=oD_ c8
     have c8b1:decide (0 < l0.length) = false:=oD_ (by omega)
     clear c8
     obtain rfl:=Option.some.inj H
     go_enter Tryz.func46,Tryz.ntmps46
     go_wp2_with (first | ((with_reducible refine gA_ (f:=79) rfl ?_);refine gL_ (some 6) Tryz.func79 #[.slice A0 l0.length c0] rfl qa_ ?_;(with_reducible refine (Z80.calls k _ _ l0 true _ (cc_ HR0) HC0.out A3.out).mono ?_);rintro e w' ⟨rfl,⟨nd,rfl⟩⟩;refine ⟨_,rfl,?_⟩) | (go_at_call 79;(with_reducible refine (Z80.calls k _ _ l1 true _ (cc_ HR1) HC1.out A5.out).mono ?_);rintro e w' ⟨rfl,⟨nd,rfl⟩⟩))
     go_ret
     exact ⟨qb_,hB_⟩
   ·rw [if_neg c7] at H
    have c7b0:((l0.length:Int) == (l1.length:Int)) = false:=beq_eq_false_iff_ne.mpr c7
    have c7b1:((l0.length:Int) != (l1.length:Int)) = true:=bne_iff_ne.mpr c7
    have c7b2:(l0.length == l1.length) = false:=by first | simpa using c7 | (simp at c7 ⊢;omega)
    obtain rfl:=Option.some.inj H
    go_enter Tryz.func46,Tryz.ntmps46
    go_wp2_with (first | ((with_reducible refine gA_ (f:=79) rfl ?_);refine gL_ (some 6) Tryz.func79 #[.slice A0 l0.length c0] rfl qa_ ?_;(with_reducible refine (Z80.calls k _ _ l0 true _ (cc_ HR0) HC0.out A3.out).mono ?_);rintro e w' ⟨rfl,⟨nd,rfl⟩⟩;refine ⟨_,rfl,?_⟩) | (go_at_call 79;(with_reducible refine (Z80.calls k _ _ l1 true _ (cc_ HR1) HC1.out A5.out).mono ?_);rintro e w' ⟨rfl,⟨nd,rfl⟩⟩))
    go_ret
    exact ⟨qb_,hB_⟩
  ·replace c6:=Bool.eq_false_iff.mpr c6
   subst c6
   have H1:(some false) = some r:=by rw [if_neg (show ¬ (false = true) by decide)] at H;exact H
   clear H
   have H:=H1
   clear H1
   obtain rfl:=Option.some.inj H
   go_enter Tryz.func46,Tryz.ntmps46
   go_wp2_with (first | ((with_reducible refine gA_ (f:=79) rfl ?_);refine gL_ (some 6) Tryz.func79 #[.slice A0 l0.length c0] rfl qa_ ?_;(with_reducible refine (Z80.calls k _ _ l0 true _ (cc_ HR0) HC0.out A3.out).mono ?_);rintro e w' ⟨rfl,⟨nd,rfl⟩⟩;refine ⟨_,rfl,?_⟩) | (go_at_call 79;(with_reducible refine (Z80.calls k _ _ l1 false _ (cc_ HR1) HC1.out A5.out).mono ?_);rintro e w' ⟨rfl,⟨nd,rfl⟩⟩))
   go_ret
   exact ⟨qb_,hB_⟩
 ·replace c4:=Bool.eq_false_iff.mpr c4
  subst c4
  have H1:(some false) = some r:=by rw [if_neg (show ¬ (false = true) by decide)] at H;exact H
  clear H
  have H:=H1
  clear H1
  obtain rfl:=Option.some.inj H
  go_enter Tryz.func46,Tryz.ntmps46
  go_wp2_with (first | ((with_reducible refine gA_ (f:=79) rfl ?_);refine gL_ (some 6) Tryz.func79 #[.slice A0 l0.length c0] rfl qa_ ?_;(with_reducible refine (Z80.calls k _ _ l0 false _ (cc_ HR0) HC0.out A3.out).mono ?_);rintro e w' ⟨rfl,⟨nd,rfl⟩⟩;refine ⟨_,rfl,?_⟩))
  go_ret
  exact ⟨qb_,hB_⟩
def Z44.f (k:Nat) (l0_0:List Int) (l0_1:List Int):Option (Bool):=(Z19.f k l0_0 l0_1).bind fun t130=>(some t130)
theorem Z44.mono:∀ a0 a1 k,LeO (Z44.f k a0 a1) (Z44.f (k + 1) a0 a1):=by
 intro a0 a1 k
 unfold Z44.f
 repeat' first|exact Z19.mono _ _ _|exact lo_|refine LeO.ite ?_ ?_|refine LeO.bind ?_ (fun _=>?_)
set_option maxHeartbeats 8000000 in
set_option maxRecDepth 100000 in
theorem Z44.calls (k:Nat) (A0_0:Option Addr) (c0_0:Nat) (l0_0:List Int) (A0_1:Option Addr) (c0_1:Nat) (l0_1:List Int) (r:Bool) (w:World) (hr0_0:Kd.C (Kd.int .i64) w A0_0 l0_0.length l0_0) (hc0_0:l0_0.length≤c0_0) (hr0_1:Kd.C (Kd.int .i64) w A0_1 l0_1.length l0_1) (hc0_1:l0_1.length≤c0_1) (h:Z44.f k l0_0 l0_1 = some r) :
  Calls Tryz.prog 32 #[.agg #[.slice A0_0 l0_0.length c0_0,.slice A0_1 l0_1.length c0_1]] w fun e w'=>e = .returned (.bool r)∧Below w.heap.size w w':=by
 have hu27:=Tryz.underlying27
 have HR0_0:=A_ hr0_0
 have HC0_0:=A_ hc0_0
 clear hr0_0 hc0_0
 have HR0_1:=A_ hr0_1
 have HC0_1:=A_ hc0_1
 clear hr0_1 hc0_1
 have HB:=A_ (Below.refl w.heap.size w)
 have H:=h
 unfold Z44.f at H
 clear h
 obtain ⟨t130,A2,H⟩:=bi_ H
 obtain rfl:=Option.some.inj H
 go_enter Tryz.func32,Tryz.ntmps32
 go_wp2_with (first | ((with_reducible refine gB_ (N:=1) rfl ?_);refine bx_ 1 #[.slice A0_0 l0_0.length c0_0,.slice A0_1 l0_1.length c0_1] 27 ?_;intro gb129 hg w3 hbox hb;have BK129:=A_ hbox;have GW129:=gw_ w hg;have GE129:=GW129;replace HB:=b1_ hb;clear hb hbox hg;obtain ⟨hcz4_0,hcz4_1,hfz4_0,hfz4_1⟩:=c2_ BK129) | ((with_reducible refine gA_ (f:=46) rfl ?_);refine gL_ (some 7) Tryz.func46 #[.slice A0_0 l0_0.length c0_0,.slice A0_1 l0_1.length c0_1] rfl qa_ ?_;(with_reducible refine (Z19.calls k _ _ l0_0 _ _ l0_1 t130 _ (cb_ HR0_0) HC0_0.out (cb_ HR0_1) HC0_1.out A2.out).mono ?_);rintro e w5 ⟨rfl,hb⟩;refine ⟨_,rfl,?_⟩;replace BK129:=bb_ BK129 hb;replace HB:=b1_ hb;clear hb))
 go_ret
 exact ⟨qb_,hB_⟩
def Z55.l0:Nat→List Int→List Int→Int→Int→Option (Bool)
 | 0,_,_,_,_=>none
 | k + 1,x1,x12,x13,x14=>if x14 < x13 then (if 0≤x14 then (if x14 < (x12.length:Int) then (if x14 < (x1.length:Int) then (if (rd x12 x14) = (rd x1 x14) then (Z55.l0 k x1 x12 x13 (wrap64 (x14 + 1))) else (some false)) else (none)) else (none)) else (none)) else (some true)
def Z55.f (k:Nat) (l0:List Int) (l1:List Int):Option (Bool):=if (l0.length:Int) = (l1.length:Int) then (Z55.l0 k l1 l0 (l0.length:Int) 0) else (some false)
theorem Z55.mono_l:∀ k,(∀ y0 y1 y2 y3,LeO (Z55.l0 k y0 y1 y2 y3) (Z55.l0 (k + 1) y0 y1 y2 y3))
 | 0=>fun _ _ _ _ r h=>by simp [Z55.l0] at h
 | k + 1=>by
  have ih0:=Z55.mono_l k
  ·intro y0 y1 y2 y3
   unfold Z55.l0
   repeat' first|exact ih0 _ _ _ _|exact lo_|refine LeO.ite ?_ ?_|refine LeO.bind ?_ (fun _=>?_)
theorem Z55.mono:∀ a0 a1 k,LeO (Z55.f k a0 a1) (Z55.f (k + 1) a0 a1):=by
 intro a0 a1 k
 have ih0:=Z55.mono_l k
 unfold Z55.f
 repeat' first|exact ih0 _ _ _ _|exact lo_|refine LeO.ite ?_ ?_|refine LeO.bind ?_ (fun _=>?_)
set_option maxHeartbeats 8000000 in
set_option maxRecDepth 100000 in
theorem Z55.calls (k:Nat) (A0:Option Addr) (c0:Nat) (l0:List Int) (A1:Option Addr) (c1:Nat) (l1:List Int) (r:Bool) (w:World) (hr0:Kd.C (Kd.int .i64) w A0 l0.length l0) (hc0:l0.length≤c0) (hr1:Kd.C (Kd.int .i64) w A1 l1.length l1) (hc1:l1.length≤c1) (h:Z55.f k l0 l1 = some r) :
  Calls Tryz.prog 84 #[.slice A0 l0.length c0,.slice A1 l1.length c1] w fun e w'=>e = .returned (.bool r)∧Drawn0 w w':=by
 have HR0:=A_ hr0
 have HC0:=A_ hc0
 clear hr0 hc0
 have HR1:=A_ hr1
 have HC1:=A_ hc1
 clear hr1 hc1
 have H:=h
 unfold Z55.f at H
 clear h
 by_cases c3:(l0.length:Int) = (l1.length:Int)
 ·rw [if_pos c3] at H
  have c3b0:((l0.length:Int) == (l1.length:Int)) = true:=beq_iff_eq.mpr c3
  have c3b1:((l0.length:Int) != (l1.length:Int)) = false:=bne_eq_false_iff_eq.mpr c3
  have c3b2:(l0.length == l1.length) = true:=by first | simpa using c3 | (simp at c3 ⊢;omega)
  clear c3
  have H':=A_ H
  clear H
  go_enter Tryz.func84,Tryz.ntmps84
  go_wp2
  go_loopg [14] k (fun kq v14 w'=>∃ (x14_1:Int),v14 = .int .i64 x14_1∧Aside0 (Z55.l0 kq l1 l0 (l0.length:Int) x14_1 = some r)∧Aside0 (kq≤k)∧Drawn0 w w')
  case atStart=>exact ⟨(0),qc_,H',⟨nA_ _⟩,by repeat (first | exact Drawn0.refl _ | apply Drawn0.step)⟩
  case round =>
   clear H'
   obtain ⟨x14_1,rfl,HA,HK1,⟨m1,rfl⟩⟩:=hrel
   cases gk with
   | zero=>exact absurd HA.out (by simp [Z55.l0])
   | succ k1 =>
    have H:=HA.out
    clear HA
    simp only [Z55.l0] at H
    by_cases c4:x14_1 < (l0.length:Int)
    ·rw [if_pos c4] at H
     have c4b0:=oC_ c4
     clear c4
     have c5:=cp_ H
     replace H:=ca_ H
     have c5b0:=oC_ c5
     clear c5
     have c6:=cp_ H
     replace H:=ca_ H
     have c6b0:=oC_ c6
     clear c6
     have c7:=cp_ H
     replace H:=ca_ H
     have c7b0:=oC_ c7
     clear c7
     by_cases c8:(rd l0 x14_1) = (rd l1 x14_1)
     ·rw [if_pos c8] at H
      have c8b0:((rd l0 x14_1) == (rd l1 x14_1)) = true:=beq_iff_eq.mpr c8
      have c8b1:((rd l0 x14_1) != (rd l1 x14_1)) = false:=bne_eq_false_iff_eq.mpr c8
      clear c8
      have H':=A_ H
      clear H
      have p131:0≤(x14_1:Int):=oB_ qe_
      have q131:x14_1 < (l0.length:Int):=oB_ qe_
      obtain ⟨ad131,e131,hx131_0⟩:=Kd.at_int HR0.out x14_1 p131 q131
      cases e131
      replace p131:=eq_true p131
      replace q131:=eq_true q131
      have p132:0≤(x14_1:Int):=oB_ qe_
      have q132:x14_1 < (l1.length:Int):=oB_ qe_
      obtain ⟨ad132,e132,hx132_0⟩:=Kd.at_int HR1.out x14_1 p132 q132
      cases e132
      replace p132:=eq_true p132
      replace q132:=eq_true q132
      go_wp2
      go_roundg k1
      case measure=>have:=HK1.out;omega
      case rel=>exact ⟨(wrap64 (x14_1 + 1)),qc_,H',⟨by have:=HK1.out;omega⟩,by repeat (first | exact Drawn0.refl _ | apply Drawn0.step)⟩
     ·rw [if_neg c8] at H
      have c8b0:((rd l0 x14_1) == (rd l1 x14_1)) = false:=beq_eq_false_iff_ne.mpr c8
      have c8b1:((rd l0 x14_1) != (rd l1 x14_1)) = true:=bne_iff_ne.mpr c8
      obtain rfl:=Option.some.inj H
      have p131:0≤(x14_1:Int):=oB_ qe_
      have q131:x14_1 < (l0.length:Int):=oB_ qe_
      obtain ⟨ad131,e131,hx131_0⟩:=Kd.at_int HR0.out x14_1 p131 q131
      cases e131
      replace p131:=eq_true p131
      replace q131:=eq_true q131
      have p132:0≤(x14_1:Int):=oB_ qe_
      have q132:x14_1 < (l1.length:Int):=oB_ qe_
      obtain ⟨ad132,e132,hx132_0⟩:=Kd.at_int HR1.out x14_1 p132 q132
      cases e132
      replace p132:=eq_true p132
      replace q132:=eq_true q132
      go_wp2
      go_ret
      exact ⟨qc_,by repeat (first | exact Drawn0.refl _ | apply Drawn0.step)⟩
    ·rw [if_neg c4] at H
     have c4b0:=oD_ c4
     clear c4
     obtain rfl:=Option.some.inj H
     go_wp2
     go_ret
     exact ⟨qc_,by repeat (first | exact Drawn0.refl _ | apply Drawn0.step)⟩
 ·rw [if_neg c3] at H
  have c3b0:((l0.length:Int) == (l1.length:Int)) = false:=beq_eq_false_iff_ne.mpr c3
  have c3b1:((l0.length:Int) != (l1.length:Int)) = true:=bne_iff_ne.mpr c3
  have c3b2:(l0.length == l1.length) = false:=by first | simpa using c3 | (simp at c3 ⊢;omega)
  obtain rfl:=Option.some.inj H
  go_enter Tryz.func84,Tryz.ntmps84
  go_wp2
  go_ret
  exact ⟨qc_,by repeat (first | exact Drawn0.refl _ | apply Drawn0.step)⟩
def Z28.f (k:Nat) (l0_0:List Int) (l0_1:List Int) (l1_0:List Int) (l1_1:List Int):Option (Bool):=(Z55.f k l0_0 l1_0).bind fun t135=>(if t135 = true then ((Z55.f k l0_1 l1_1).bind fun t136=>(some t136)) else (some false))
theorem Z28.mono:∀ a0 a1 a2 a3 k,LeO (Z28.f k a0 a1 a2 a3) (Z28.f (k + 1) a0 a1 a2 a3):=by
 intro a0 a1 a2 a3 k
 unfold Z28.f
 repeat' first|exact Z55.mono _ _ _|exact lo_|refine LeO.ite ?_ ?_|refine LeO.bind ?_ (fun _=>?_)
set_option maxHeartbeats 8000000 in
set_option maxRecDepth 100000 in
theorem Z28.calls (k:Nat) (A0_0:Option Addr) (c0_0:Nat) (l0_0:List Int) (A0_1:Option Addr) (c0_1:Nat) (l0_1:List Int) (A1_0:Option Addr) (c1_0:Nat) (l1_0:List Int) (A1_1:Option Addr) (c1_1:Nat) (l1_1:List Int) (r:Bool) (w:World) (hr0_0:Kd.C (Kd.int .i64) w A0_0 l0_0.length l0_0) (hc0_0:l0_0.length≤c0_0) (hr0_1:Kd.C (Kd.int .i64) w A0_1 l0_1.length l0_1) (hc0_1:l0_1.length≤c0_1) (hr1_0:Kd.C (Kd.int .i64) w A1_0 l1_0.length l1_0) (hc1_0:l1_0.length≤c1_0) (hr1_1:Kd.C (Kd.int .i64) w A1_1 l1_1.length l1_1) (hc1_1:l1_1.length≤c1_1) (h:Z28.f k l0_0 l0_1 l1_0 l1_1 = some r) :
  Calls Tryz.prog 48 #[.agg #[.slice A0_0 l0_0.length c0_0,.slice A0_1 l0_1.length c0_1],.agg #[.slice A1_0 l1_0.length c1_0,.slice A1_1 l1_1.length c1_1]] w fun e w'=>e = .returned (.bool r)∧Below w.heap.size w w':=by
 have hu27:=Tryz.underlying27
 have HR0_0:=A_ hr0_0
 have HC0_0:=A_ hc0_0
 clear hr0_0 hc0_0
 have HR0_1:=A_ hr0_1
 have HC0_1:=A_ hc0_1
 clear hr0_1 hc0_1
 have HR1_0:=A_ hr1_0
 have HC1_0:=A_ hc1_0
 clear hr1_0 hc1_0
 have HR1_1:=A_ hr1_1
 have HC1_1:=A_ hc1_1
 clear hr1_1 hc1_1
 have HB:=A_ (Below.refl w.heap.size w)
 have H:=h
 unfold Z28.f at H
 clear h
 obtain ⟨t135,A3,H⟩:=bi_ H
 by_cases c4:t135 = true
 ·subst c4
  rw [if_pos rfl] at H
  obtain ⟨t136,A5,H⟩:=bi_ H
  obtain rfl:=Option.some.inj H
  go_enter Tryz.func48,Tryz.ntmps48
  go_wp2_with (first | ((with_reducible refine gB_ (N:=2) rfl ?_);refine bx_ 2 #[.slice A0_0 l0_0.length c0_0,.slice A0_1 l0_1.length c0_1] 27 ?_;intro gb133 hg w6 hbox hb;have BK133:=A_ hbox;have GW133:=gw_ w hg;have GE133:=GW133;replace HB:=b1_ hb;clear hb hbox hg) | ((with_reducible refine gB_ (N:=3) rfl ?_);refine bx_ 3 #[.slice A1_0 l1_0.length c1_0,.slice A1_1 l1_1.length c1_1] 27 ?_;intro gb134 hg w7 hbox hb;have BK134:=A_ hbox;have GW134:=gw_ w hg;have GE134:=GW134;replace HB:=b1_ hb;have NB133_134:=gN_ BK133 hg;have NB134_133:=gP_ BK133 hg;replace BK133:=bb_ BK133 hb;clear hb hbox hg;have hnb8:=NB133_134.out;have hnc8:=NB134_133.out;obtain ⟨hcz9_0,hcz9_1,hfz9_0,hfz9_1⟩:=c2_ BK133;obtain ⟨hcz10_0,hcz10_1,hfz10_0,hfz10_1⟩:=c2_ BK134) | ((with_reducible refine gA_ (f:=84) rfl ?_);refine gL_ (some 9) Tryz.func84 #[.slice A0_0 l0_0.length c0_0,.slice A1_0 l1_0.length c1_0] rfl qa_ ?_;(with_reducible refine (Z55.calls k _ _ l0_0 _ _ l1_0 true _ (cb_ HR0_0) HC0_0.out (cb_ HR1_0) HC1_0.out A3.out).mono ?_);rintro e w' ⟨rfl,⟨nd,rfl⟩⟩;refine ⟨_,rfl,?_⟩) | (go_at_call 84;(with_reducible refine (Z55.calls k _ _ l0_1 _ _ l1_1 t136 _ (cw_ (cD_ HR0_1.out hB_)) HC0_1.out (cw_ (cD_ HR1_1.out hB_)) HC1_1.out A5.out).mono ?_);rintro e w' ⟨rfl,⟨nd,rfl⟩⟩))
  go_ret
  exact ⟨qb_,hB_⟩
 ·replace c4:=Bool.eq_false_iff.mpr c4
  subst c4
  have H1:(some false) = some r:=by rw [if_neg (show ¬ (false = true) by decide)] at H;exact H
  clear H
  have H:=H1
  clear H1
  obtain rfl:=Option.some.inj H
  go_enter Tryz.func48,Tryz.ntmps48
  go_wp2_with (first | ((with_reducible refine gB_ (N:=2) rfl ?_);refine bx_ 2 #[.slice A0_0 l0_0.length c0_0,.slice A0_1 l0_1.length c0_1] 27 ?_;intro gb133 hg w11 hbox hb;have BK133:=A_ hbox;have GW133:=gw_ w hg;have GE133:=GW133;replace HB:=b1_ hb;clear hb hbox hg) | ((with_reducible refine gB_ (N:=3) rfl ?_);refine bx_ 3 #[.slice A1_0 l1_0.length c1_0,.slice A1_1 l1_1.length c1_1] 27 ?_;intro gb134 hg w12 hbox hb;have BK134:=A_ hbox;have GW134:=gw_ w hg;have GE134:=GW134;replace HB:=b1_ hb;have NB133_134:=gN_ BK133 hg;have NB134_133:=gP_ BK133 hg;replace BK133:=bb_ BK133 hb;clear hb hbox hg;have hnb13:=NB133_134.out;have hnc13:=NB134_133.out;obtain ⟨hcz14_0,hcz14_1,hfz14_0,hfz14_1⟩:=c2_ BK133;obtain ⟨hcz15_0,hcz15_1,hfz15_0,hfz15_1⟩:=c2_ BK134) | ((with_reducible refine gA_ (f:=84) rfl ?_);refine gL_ (some 9) Tryz.func84 #[.slice A0_0 l0_0.length c0_0,.slice A1_0 l1_0.length c1_0] rfl qa_ ?_;(with_reducible refine (Z55.calls k _ _ l0_0 _ _ l1_0 false _ (cb_ HR0_0) HC0_0.out (cb_ HR1_0) HC1_0.out A3.out).mono ?_);rintro e w' ⟨rfl,⟨nd,rfl⟩⟩;refine ⟨_,rfl,?_⟩))
  go_ret
  exact ⟨qb_,hB_⟩
def Z74.l0:Nat→List (S27)→Int→Int→List Int→List Int→Option (Int)
 | 0,_,_,_,_,_=>none
 | k + 1,x7,x8,x9,x138000,x138001=>if x9 < x8 then (if 0≤x9 then (if x9 < (x7.length:Int) then ((Z28.f k ((rd_T27 x7 x9).f0) ((rd_T27 x7 x9).f1) x138000 x138001).bind fun t140=>(if t140 = true then (some x9) else (Z74.l0 k x7 x8 (wrap64 (x9 + 1)) x138000 x138001))) else (none)) else (none)) else (some (-1))
def Z74.f (k:Nat) (l0:List (S27)) (l1_0:List Int) (l1_1:List Int):Option (Int):=Z74.l0 k l0 (l0.length:Int) 0 l1_0 l1_1
theorem Z74.mono_l:∀ k,(∀ y0 y1 y2 y3 y4,LeO (Z74.l0 k y0 y1 y2 y3 y4) (Z74.l0 (k + 1) y0 y1 y2 y3 y4))
 | 0=>fun _ _ _ _ _ r h=>by simp [Z74.l0] at h
 | k + 1=>by
  have ih0:=Z74.mono_l k
  ·intro y0 y1 y2 y3 y4
   unfold Z74.l0
   repeat' first|exact ih0 _ _ _ _ _|exact Z28.mono _ _ _ _ _|exact lo_|refine LeO.ite ?_ ?_|refine LeO.bind ?_ (fun _=>?_)
theorem Z74.mono:∀ a0 a1 a2 k,LeO (Z74.f k a0 a1 a2) (Z74.f (k + 1) a0 a1 a2):=by
 intro a0 a1 a2 k
 have ih0:=Z74.mono_l k
 unfold Z74.f
 repeat' first|exact ih0 _ _ _ _ _|exact Z28.mono _ _ _ _ _|exact lo_|refine LeO.ite ?_ ?_|refine LeO.bind ?_ (fun _=>?_)
set_option maxHeartbeats 8000000 in
set_option maxRecDepth 100000 in
theorem Z74.calls (k:Nat) (A0:Option Addr) (c0:Nat) (l0:List (S27)) (A1_0:Option Addr) (c1_0:Nat) (l1_0:List Int) (A1_1:Option Addr) (c1_1:Nat) (l1_1:List Int) (r:Int) (w:World) (hr0:Kd.C k27 w A0 l0.length l0) (hc0:l0.length≤c0) (hr1_0:Kd.C (Kd.int .i64) w A1_0 l1_0.length l1_0) (hc1_0:l1_0.length≤c1_0) (hr1_1:Kd.C (Kd.int .i64) w A1_1 l1_1.length l1_1) (hc1_1:l1_1.length≤c1_1) (h:Z74.f k l0 l1_0 l1_1 = some r) :
  Calls Tryz.prog 34 #[.slice A0 l0.length c0,.agg #[.slice A1_0 l1_0.length c1_0,.slice A1_1 l1_1.length c1_1]] w fun e w'=>e = .returned (.int .i64 r)∧Below w.heap.size w w':=by
 have hu27:=Tryz.underlying27
 have HR0:=A_ hr0
 have HC0:=A_ hc0
 clear hr0 hc0
 have HR1_0:=A_ hr1_0
 have HC1_0:=A_ hc1_0
 clear hr1_0 hc1_0
 have HR1_1:=A_ hr1_1
 have HC1_1:=A_ hc1_1
 clear hr1_1 hc1_1
 have HB:=A_ (Below.refl w.heap.size w)
 have H:=h
 unfold Z74.f at H
 clear h
 have H':=A_ H
 clear H
 go_enter Tryz.func34,Tryz.ntmps34
 go_wp2_with (first | ((with_reducible refine gB_ (N:=3) rfl ?_);refine bx_ 3 #[.slice A1_0 l1_0.length c1_0,.slice A1_1 l1_1.length c1_1] 27 ?_;intro gb137 hg w3 hbox hb;have BK137:=A_ hbox;have GW137:=gw_ w hg;have GE137:=GW137;replace HB:=b1_ hb;clear hb hbox hg))
 go_loopg [9] k (fun kq v9 w'=>∃ (x9_1:Int),v9 = .int .i64 x9_1∧Aside0 (Z74.l0 kq l0 (l0.length:Int) x9_1 l1_0 l1_1 = some r)∧Aside0 (kq≤k)∧Aside0 (w'.heap[gb137]? = some (.cells #[(.slice A1_0 l1_0.length c1_0),(.slice A1_1 l1_1.length c1_1)] 27 (0,0)))∧Aside0 (Below w.heap.size w w'))
 case atStart=>exact ⟨(0),qc_,H',⟨nA_ _⟩,⟨(kk_ BK137)⟩,⟨hB_⟩⟩
 case round =>
  clear H'
  obtain ⟨x9_1,rfl,HA,HK1,BK137,HB⟩:=hrel
  cases gk with
  | zero=>exact absurd HA.out (by simp [Z74.l0])
  | succ k1 =>
   have H:=HA.out
   clear HA
   simp only [Z74.l0] at H
   by_cases c4:x9_1 < (l0.length:Int)
   ·rw [if_pos c4] at H
    have c4b0:=oC_ c4
    clear c4
    have c5:=cp_ H
    replace H:=ca_ H
    have c5b0:=oC_ c5
    clear c5
    have c6:=cp_ H
    replace H:=ca_ H
    have c6b0:=oC_ c6
    clear c6
    obtain ⟨t140,A7,H⟩:=bi_ H
    by_cases c8:t140 = true
    ·subst c8
     rw [if_pos rfl] at H
     obtain rfl:=Option.some.inj H
     have p138:0≤(x9_1:Int):=oB_ qe_
     have q138:x9_1 < (l0.length:Int):=oB_ qe_
     obtain ⟨ad138,A138_0,c138_0,A138_1,c138_1,e138,hx138_0,hx138_1,hl138_0,hi138_0,hl138_1,hi138_1⟩:=at_T27 HR0.out x9_1 p138 q138
     cases e138
     replace hx138_0:=(HB.out.cell (World.block_lt_of_cell? w _ hx138_0)).trans hx138_0
     replace hx138_1:=(HB.out.cell (World.block_lt_of_cell? w _ hx138_1)).trans hx138_1
     have HR138_0:=A_ hi138_0
     have HC138_0:=A_ hl138_0
     clear hi138_0 hl138_0
     have HR138_1:=A_ hi138_1
     have HC138_1:=A_ hl138_1
     clear hi138_1 hl138_1
     replace p138:=eq_true p138
     replace q138:=eq_true q138
     go_wp2_with (first | ((with_reducible refine gB_ (N:=6) rfl ?_);refine bx_ 6 #[.slice none 0 0,.slice none 0 0] 27 ?_;intro gb139 hg w9 hbox hb;have BK139:=A_ hbox;have GW139:=gw_ w hg;have GE139:=GW139;replace HB:=b1_ hb;have NB137_139:=gN_ BK137 hg;have NB139_137:=gP_ BK137 hg;replace BK137:=bb_ BK137 hb;clear hb hbox hg;have hnb10:=NB139_137.out;have hnc10:=NB137_139.out;obtain ⟨hcz11_0,hcz11_1,hfz11_0,hfz11_1⟩:=c2_ BK139;obtain ⟨hcz12_0,hcz12_1,hfz12_0,hfz12_1⟩:=c2_ BK137) | ((with_reducible refine gA_ (f:=48) rfl ?_);refine gL_ (some 16) Tryz.func48 #[.agg #[.slice A138_0 ((rd_T27 l0 x9_1).f0).length c138_0,.slice A138_1 ((rd_T27 l0 x9_1).f1).length c138_1],.agg #[.slice A1_0 l1_0.length c1_0,.slice A1_1 l1_1.length c1_1]] rfl qa_ ?_;(with_reducible refine (Z28.calls k1 _ _ ((rd_T27 l0 x9_1).f0) _ _ ((rd_T27 l0 x9_1).f1) _ _ l1_0 _ _ l1_1 true _ (cD_ HR138_0.out hB_) HC138_0.out (cD_ HR138_1.out hB_) HC138_1.out (cD_ HR1_0.out hB_) HC1_0.out (cD_ HR1_1.out hB_) HC1_1.out A7.out).mono ?_);rintro e w13 ⟨rfl,hb⟩;refine ⟨_,rfl,?_⟩;replace BK137:=A_ (kE_ (g:=gb137) (o:=.cells #[.slice A1_0 l1_0.length c1_0,.slice A1_1 l1_1.length c1_1] 27 (0,0)) (by (with_reducible repeat (first | refine kA_ ?_ _ | refine kB_ ?_ | refine kC_ ?_ _));refine blk_far ?_ NB137_139.out _;(with_reducible repeat (first | refine kA_ ?_ _ | refine kB_ ?_ | refine kC_ ?_ _));refine blk_far ?_ NB137_139.out _;(with_reducible repeat (first | refine kA_ ?_ _ | refine kB_ ?_ | refine kC_ ?_ _));exact BK137.out) hb);replace BK139:=A_ (kE_ (g:=gb139) (o:=.cells #[.slice A138_0 ((rd_T27 l0 x9_1).f0).length c138_0,.slice A138_1 ((rd_T27 l0 x9_1).f1).length c138_1] 27 (0,0)) qp_ hb);replace HB:=b1_ hb;clear hb))
     go_ret
     exact ⟨qb_,hB_⟩
    ·replace c8:=Bool.eq_false_iff.mpr c8
     subst c8
     have H1:(Z74.l0 k1 l0 (l0.length:Int) (wrap64 (x9_1 + 1)) l1_0 l1_1) = some r:=by rw [if_neg (show ¬ (false = true) by decide)] at H;exact H
     clear H
     have H:=H1
     clear H1
     have H':=A_ H
     clear H
     have p138:0≤(x9_1:Int):=oB_ qe_
     have q138:x9_1 < (l0.length:Int):=oB_ qe_
     obtain ⟨ad138,A138_0,c138_0,A138_1,c138_1,e138,hx138_0,hx138_1,hl138_0,hi138_0,hl138_1,hi138_1⟩:=at_T27 HR0.out x9_1 p138 q138
     cases e138
     replace hx138_0:=(HB.out.cell (World.block_lt_of_cell? w _ hx138_0)).trans hx138_0
     replace hx138_1:=(HB.out.cell (World.block_lt_of_cell? w _ hx138_1)).trans hx138_1
     have HR138_0:=A_ hi138_0
     have HC138_0:=A_ hl138_0
     clear hi138_0 hl138_0
     have HR138_1:=A_ hi138_1
     have HC138_1:=A_ hl138_1
     clear hi138_1 hl138_1
     replace p138:=eq_true p138
     replace q138:=eq_true q138
     go_wp2_with (first | ((with_reducible refine gB_ (N:=6) rfl ?_);refine bx_ 6 #[.slice none 0 0,.slice none 0 0] 27 ?_;intro gb139 hg w14 hbox hb;have BK139:=A_ hbox;have GW139:=gw_ w hg;have GE139:=GW139;replace HB:=b1_ hb;have NB137_139:=gN_ BK137 hg;have NB139_137:=gP_ BK137 hg;replace BK137:=bb_ BK137 hb;clear hb hbox hg;have hnb15:=NB139_137.out;have hnc15:=NB137_139.out;obtain ⟨hcz16_0,hcz16_1,hfz16_0,hfz16_1⟩:=c2_ BK139;obtain ⟨hcz17_0,hcz17_1,hfz17_0,hfz17_1⟩:=c2_ BK137) | ((with_reducible refine gA_ (f:=48) rfl ?_);refine gL_ (some 16) Tryz.func48 #[.agg #[.slice A138_0 ((rd_T27 l0 x9_1).f0).length c138_0,.slice A138_1 ((rd_T27 l0 x9_1).f1).length c138_1],.agg #[.slice A1_0 l1_0.length c1_0,.slice A1_1 l1_1.length c1_1]] rfl qa_ ?_;(with_reducible refine (Z28.calls k1 _ _ ((rd_T27 l0 x9_1).f0) _ _ ((rd_T27 l0 x9_1).f1) _ _ l1_0 _ _ l1_1 false _ (cD_ HR138_0.out hB_) HC138_0.out (cD_ HR138_1.out hB_) HC138_1.out (cD_ HR1_0.out hB_) HC1_0.out (cD_ HR1_1.out hB_) HC1_1.out A7.out).mono ?_);rintro e w18 ⟨rfl,hb⟩;refine ⟨_,rfl,?_⟩;replace BK137:=A_ (kE_ (g:=gb137) (o:=.cells #[.slice A1_0 l1_0.length c1_0,.slice A1_1 l1_1.length c1_1] 27 (0,0)) (by (with_reducible repeat (first | refine kA_ ?_ _ | refine kB_ ?_ | refine kC_ ?_ _));refine blk_far ?_ NB137_139.out _;(with_reducible repeat (first | refine kA_ ?_ _ | refine kB_ ?_ | refine kC_ ?_ _));refine blk_far ?_ NB137_139.out _;(with_reducible repeat (first | refine kA_ ?_ _ | refine kB_ ?_ | refine kC_ ?_ _));exact BK137.out) hb);replace BK139:=A_ (kE_ (g:=gb139) (o:=.cells #[.slice A138_0 ((rd_T27 l0 x9_1).f0).length c138_0,.slice A138_1 ((rd_T27 l0 x9_1).f1).length c138_1] 27 (0,0)) qp_ hb);replace HB:=b1_ hb;clear hb))
     go_roundg k1
     case measure=>have:=HK1.out;omega
     case rel=>exact ⟨(wrap64 (x9_1 + 1)),qc_,H',⟨by have:=HK1.out;omega⟩,⟨(kk_ BK137)⟩,⟨hB_⟩⟩
   ·rw [if_neg c4] at H
    have c4b0:=oD_ c4
    clear c4
    obtain rfl:=Option.some.inj H
    go_wp2
    go_ret
    exact ⟨qb_,hB_⟩
def Z45.l0:Nat→List Int→List Int→List Int→Int→Int→Option (List Int)
 | 0,_,_,_,_,_=>none
 | k + 1,x1,x5,x11,x12,x13=>if x13 < x12 then (if 0≤x13 then (if x13 < (x11.length:Int) then (if x13 < (x1.length:Int) then (if 0≤(rd x11 x13) then (if (rd x11 x13) < (x1.length:Int) then (if 0≤(rd x1 x13) then (if (rd x1 x13) < (x5.length:Int) then (Z45.l0 k x1 (x5.set ((rd x1 x13):Int).toNat (rd x1 (rd x11 x13))) x11 x12 (wrap64 (x13 + 1))) else (none)) else (none)) else (none)) else (none)) else (none)) else (none)) else (none)) else (some x5)
def Z45.f (k:Nat) (l0:List Int) (l1:List Int):Option (List Int):=if 0≤(l0.length:Int) then (if ((l0.length:Int):Int).toNat≤35184372088832 then (Z45.l0 k l1 (List.replicate ((l0.length:Int):Int).toNat 0) l0 (l0.length:Int) 0) else (none)) else (none)
theorem Z45.mono_l:∀ k,(∀ y0 y1 y2 y3 y4,LeO (Z45.l0 k y0 y1 y2 y3 y4) (Z45.l0 (k + 1) y0 y1 y2 y3 y4))
 | 0=>fun _ _ _ _ _ r h=>by simp [Z45.l0] at h
 | k + 1=>by
  have ih0:=Z45.mono_l k
  ·intro y0 y1 y2 y3 y4
   unfold Z45.l0
   repeat' first|exact ih0 _ _ _ _ _|exact lo_|refine LeO.ite ?_ ?_|refine LeO.bind ?_ (fun _=>?_)
theorem Z45.mono:∀ a0 a1 k,LeO (Z45.f k a0 a1) (Z45.f (k + 1) a0 a1):=by
 intro a0 a1 k
 have ih0:=Z45.mono_l k
 unfold Z45.f
 repeat' first|exact ih0 _ _ _ _ _|exact lo_|refine LeO.ite ?_ ?_|refine LeO.bind ?_ (fun _=>?_)
def Z45.T5:Bool × List (List Nat × List Nat):=(true,[([],[]),([],[]),([],[]),([1,2],[1,2]),([3],[3]),([],[]),([],[]),([5,6],[5,6]),([7],[7]),([0,4,0,1,2,3,4,5,6,7,8],[0,4]),([9,8,0,1,2,3,4,5,6,7,8],[8,9])])
def Z45.B5:List Nat:=[0,0,0,6,14,0,0,96,224,511,1023]
theorem Z45.tab5:rtab .any (opsOf Tryz.f85 5) = Z45.T5:=by kernel_rfl
theorem Z45.bits5:waitsOk Z45.T5.2 Z45.B5 = true:=by kernel_rfl
set_option maxHeartbeats 8000000 in
set_option maxRecDepth 100000 in
theorem Z45.calls (k:Nat) (A0:Option Addr) (c0:Nat) (l0:List Int) (A1:Option Addr) (c1:Nat) (l1:List Int) (r:List Int) (w:World) (hr0:Kd.C (Kd.int .i64) w A0 l0.length l0) (hc0:l0.length≤c0) (hr1:Kd.C (Kd.int .i64) w A1 l1.length l1) (hc1:l1.length≤c1) (h:Z45.f k l0 l1 = some r) :
  Calls Tryz.prog 85 #[.slice A0 l0.length c0,.slice A1 l1.length c1] w fun e w'=>∃ v0_:Value,e = .returned (v0_)∧Kd.R (Kd.int .i64) 3 w' w.heap.size (fun _=>True) v0_ r∧Below w.heap.size w w':=by
 have HR0:=A_ hr0
 have HC0:=A_ hc0
 clear hr0 hc0
 have HR1:=A_ hr1
 have HC1:=A_ hc1
 clear hr1 hc1
 have HB:=A_ (Below.refl w.heap.size w)
 have H:=h
 unfold Z45.f at H
 clear h
 have c3:=cp_ H
 replace H:=ca_ H
 have c3b0:=eq_true c3
 have c3b1:=oC_ c3
 clear c3
 have c4:=cp_ H
 replace H:=ca_ H
 have c4b0:=eq_true c4
 have c4b1:=oC_ c4
 clear c4
 obtain ⟨y141,hy141⟩:∃ y_:List Int,y_ = (List.replicate ((l0.length:Int):Int).toNat 0):=⟨_,rfl⟩
 replace H:(Z45.l0 k l1 y141 l0 (l0.length:Int) 0) = some r:=by first | (rw [hy141];exact H) | exact H
 have Ny141:=A_ hy141
 clear hy141
 have H':=A_ H
 clear H
 go_enter Tryz.func85,Tryz.ntmps85
 go_wp2_with (first | ((with_reducible refine gB_ (N:=10) rfl ?_);refine Kd.R_make (Kd.int .i64) _ 3 rfl (N:=10) rfl 22 _ _ rfl (l0.length:Int) rfl rfl Tryz.underlying22 (.int .i64 0) 8 info3 rfl (by decide) (by omega) 0 (ok:=fun _=>True) (okp:=fun _=>True) rfl (fun _ hk=>hk) trivial (oB_ qe_) (Nat.le_trans (Nat.mul_le_mul_right _ (oB_ qe_:(l0.length:Int).toNat≤35184372088832)) (by omega)) (Below.refl _ _) (nA_ _) ?_;intro v142 w5 ho6 hb hg_ hnew_;clear hg_ hnew_;(first | rw [← Ny141.out] at ho6 | (simp only [Int.reduceToNat] at ho6;rw [← Ny141.out] at ho6));have HO143:=rl_ w ho6;replace HB:=b1_ hb;clear hb ho6))
 go_loopg [13] k (fun kq v13 w'=>∃ (x5_1:List Int) (x13_1:Int),v13 = .int .i64 x13_1∧Aside0 (Z45.l0 kq l1 x5_1 l0 (l0.length:Int) x13_1 = some r)∧Aside0 (kq≤k)∧Aside0 (Kd.R (Kd.int .i64) 3 w' w.heap.size (fun _=>True) v142 x5_1)∧Aside0 (Below w.heap.size w w'))
 case atStart=>exact ⟨(y141),(0),qc_,H',⟨nA_ _⟩,⟨(rr_ HO143)⟩,⟨hB_⟩⟩
 case round =>
  clear H'
  obtain ⟨x5_1,x13_1,rfl,HA,HK1,HO_5,HB⟩:=hrel
  cases gk with
  | zero=>exact absurd HA.out (by simp [Z45.l0])
  | succ k1 =>
   have H:=HA.out
   clear HA
   simp only [Z45.l0] at H
   by_cases c7:x13_1 < (l0.length:Int)
   ·rw [if_pos c7] at H
    have c7b0:=oC_ c7
    clear c7
    have c8:=cp_ H
    replace H:=ca_ H
    have c8b0:=oC_ c8
    clear c8
    have c9:=cp_ H
    replace H:=ca_ H
    have c9b0:=oC_ c9
    clear c9
    have c10:=cp_ H
    replace H:=ca_ H
    have c10b0:=oC_ c10
    clear c10
    have c11:=cp_ H
    replace H:=ca_ H
    have c11b0:=oC_ c11
    clear c11
    have c12:=cp_ H
    replace H:=ca_ H
    have c12b0:=oC_ c12
    clear c12
    have c13:=cp_ H
    replace H:=ca_ H
    have c13b0:=oC_ c13
    clear c13
    have c14:=cp_ H
    replace H:=ca_ H
    have c14b0:=oC_ c14
    clear c14
    obtain ⟨y147,hy147⟩:∃ y_:List Int,y_ = (x5_1.set ((rd l1 x13_1):Int).toNat (rd l1 (rd l0 x13_1))):=⟨_,rfl⟩
    replace H:(Z45.l0 k1 l1 y147 l0 (l0.length:Int) (wrap64 (x13_1 + 1))) = some r:=by first | (rw [hy147];exact H) | exact H
    have Ny147:=A_ hy147
    clear hy147
    have H':=A_ H
    clear H
    have p144:0≤(x13_1:Int):=oB_ qe_
    have q144:x13_1 < (l0.length:Int):=oB_ qe_
    obtain ⟨ad144,e144,hx144_0⟩:=Kd.at_int HR0.out x13_1 p144 q144
    cases e144
    replace hx144_0:=(HB.out.cell (World.block_lt_of_cell? w _ hx144_0)).trans hx144_0
    replace p144:=eq_true p144
    replace q144:=eq_true q144
    try go_wp2
    replace HO_5:=A_ (rC_ HO_5.out)
    replace HB:=A_ (bC_ HB.out)
    have p145:0≤(x13_1:Int):=oB_ qe_
    have q145:x13_1 < (l1.length:Int):=oB_ qe_
    obtain ⟨ad145,e145,hx145_0⟩:=Kd.at_int HR1.out x13_1 p145 q145
    have hw145_0:=hx145_0
    cases e145
    replace hx145_0:=(HB.out.cell (World.block_lt_of_cell? w _ hx145_0)).trans hx145_0
    replace p145:=eq_true p145
    replace q145:=eq_true q145
    have p146:0≤((rd l0 x13_1):Int):=oB_ qe_
    have q146:(rd l0 x13_1) < (l1.length:Int):=oB_ qe_
    obtain ⟨ad146,e146,hx146_0⟩:=Kd.at_int HR1.out (rd l0 x13_1) p146 q146
    have hw146_0:=hx146_0
    obtain rfl:ad145 = ad146:=(by injection e146)
    replace hx146_0:=(HB.out.cell (World.block_lt_of_cell? w _ hx146_0)).trans hx146_0
    replace p146:=eq_true p146
    replace q146:=eq_true q146
    have p15:0≤((rd l1 x13_1):Int):=oB_ qe_
    have q15:((rd l1 x13_1):Int) < ((x5_1.length:Int):Int):=oB_ qe_
    obtain ⟨go15,co15,eo15,gb15,gl15,cl15,HG15⟩:=Kd.R_form HO_5.out (by omega)
    (first | cases eo15 | (injection eo15 with ea_ en_ ec_;(first | subst ea_ | (injection ea_ with ea_;subst ea_));subst ec_;clear en_))
    have GB15:=A_ gb15
    have GG15:=A_ HG15
    clear gb15 gl15 HG15
    obtain ⟨hx15_0,hf15_0⟩:=Kd.R_celln 0 HO_5.out ((rd l1 x13_1):Int) p15 q15
    replace p15:=eq_true p15
    replace q15:=eq_true q15
    have HP17:=Kd.R_putn HO_5.out ((rd l1 x13_1):Int) (rd l1 (rd l0 x13_1))
    rw [← Ny147.out] at HP17
    have HQ17:=A_ HP17
    clear HP17
    refine start_ (n:=11) (S:=fun w'=>w'.cell? (ad145.add (x13_1).toNat) = some (.int .i64 (rd l1 x13_1))∧w'.cell? (ad145.add ((rd l0 x13_1)).toNat) = some (.int .i64 (rd l1 (rd l0 x13_1)))) (ds:=[10]) (bl_ 11 0) (by kernel_rfl) rfl (by kernel_rfl) ⟨((HB.out.cell (World.block_lt_of_cell? w _ hw145_0)).trans hw145_0),((HB.out.cell (World.block_lt_of_cell? w _ hw146_0)).trans hw146_0)⟩ (fun hHeld=>?_);refine with_tabW Z45.tab5 Z45.bits5 (fun HT_ HW_=>?_)
    generalize wr.drew = w16 at HO_5 HB GG15 HQ17 hf15_0 hx145_0 hx146_0 hx15_0 hHeld ⊢
    refine pu_ 0 (some 18) (bl_ 11 1) HT_ ?_
    refine pu_ 1 (some 19) (bl_ 11 3) HT_ ?_
    refine pu_ 2 (some 20) (bl_ 11 7) HT_ ?_
    refine pu_ 3 (some 21) (bl_ 11 15) HT_ ?_
    refine pu_ 5 (some 23) (bl_ 11 47) HT_ ?_
    refine pu_ 6 (some 24) (bl_ 11 111) HT_ ?_
    refine pu_ 7 (some 25) (bl_ 11 239) HT_ ?_
    refine ta_ 4 (some 22) (bl_ 11 255) HT_ HW_ hHeld ?_
    refine ta_ 8 (some 26) (bl_ 11 511) HT_ HW_ hHeld ?_
    refine pu_ 9 (some 27) (bl_ 11 1023) HT_ ?_
    refine last_ (i:=10) (N:=none) (bl_ 11 2047) rfl rfl (one_of HT_.out (by kernel_rfl)) (by decide) (fun K hK=>?_)
    refine skip_ (w1:=?_) (by rfl) rfl ?_ ?_
    rotate_left
    ·go_simp
     rfl
    refine hK.out _ _ ?_
    clear hK K
    refine done_ (done_of HT_.out (by kernel_rfl)) ?_
    try go_wp2
    go_roundg k1
    case measure=>have:=HK1.out;omega
    case rel=>exact ⟨(y147),(wrap64 (x13_1 + 1)),qc_,H',⟨by have:=HK1.out;omega⟩,⟨(rr_ HQ17)⟩,⟨by repeat (first | (with_reducible first | exact HB.out | apply bA_ | apply bB_ | apply bC_ | refine bD_ ?_ GB15.out) | exact HB.out)⟩⟩
   ·rw [if_neg c7] at H
    have c7b0:=oD_ c7
    clear c7
    obtain rfl:=Option.some.inj H
    go_wp2
    go_ret
    exact ⟨_,qb_,(rr_ HO_5),hB_⟩
def Z47.f (k:Nat) (l0_0:List Int) (l0_1:List Int) (l1:List Int):Option (List Int × List Int):=(Z45.f k l0_0 l1).bind fun t150=>((Z45.f k l0_1 l1).bind fun t153=>(some (t150,t153)))
theorem Z47.mono:∀ a0 a1 a2 k,LeO (Z47.f k a0 a1 a2) (Z47.f (k + 1) a0 a1 a2):=by
 intro a0 a1 a2 k
 unfold Z47.f
 repeat' first|exact Z45.mono _ _ _|exact lo_|refine LeO.ite ?_ ?_|refine LeO.bind ?_ (fun _=>?_)
def Z47.T1:Bool × List (List Nat × List Nat):=(true,[([],[]),([0],[0]),([],[]),([1,2],[1,2]),([],[]),([4],[4]),([],[]),([5,6,3],[5,6]),([3,7],[3,7]),([8,7,0,1,2,3,4,5,6,7,8],[8])])
def Z47.B1:List Nat:=[0,1,0,7,0,16,0,127,255,511]
theorem Z47.tab1:rtab .any (opsOf Tryz.f49 1) = Z47.T1:=by kernel_rfl
theorem Z47.bits1:waitsOk Z47.T1.2 Z47.B1 = true:=by kernel_rfl
set_option maxHeartbeats 8000000 in
set_option maxRecDepth 100000 in
theorem Z47.calls (k:Nat) (A0_0:Option Addr) (c0_0:Nat) (l0_0:List Int) (A0_1:Option Addr) (c0_1:Nat) (l0_1:List Int) (A1:Option Addr) (c1:Nat) (l1:List Int) (r1:List Int) (r2:List Int) (w:World) (hr0_0:Kd.C (Kd.int .i64) w A0_0 l0_0.length l0_0) (hc0_0:l0_0.length≤c0_0) (hr0_1:Kd.C (Kd.int .i64) w A0_1 l0_1.length l0_1) (hc0_1:l0_1.length≤c0_1) (hr1:Kd.C (Kd.int .i64) w A1 l1.length l1) (hc1:l1.length≤c1) (h:Z47.f k l0_0 l0_1 l1 = some (r1,r2)) :
  Calls Tryz.prog 49 #[.agg #[.slice A0_0 l0_0.length c0_0,.slice A0_1 l0_1.length c0_1],.slice A1 l1.length c1] w fun e w'=>∃ v0_ v1_:Value,e = .returned (.agg #[v0_,v1_])∧Kd.R (Kd.int .i64) 3 w' w.heap.size (fun k_=>some k_≠(v1_:Value).ownBlock) v0_ r1∧Kd.R (Kd.int .i64) 3 w' w.heap.size (fun k_=>some k_≠(v0_:Value).ownBlock) v1_ r2∧Below w.heap.size w w':=by
 have hu27:=Tryz.underlying27
 have HR0_0:=A_ hr0_0
 have HC0_0:=A_ hc0_0
 clear hr0_0 hc0_0
 have HR0_1:=A_ hr0_1
 have HC0_1:=A_ hc0_1
 clear hr0_1 hc0_1
 have HR1:=A_ hr1
 have HC1:=A_ hc1
 clear hr1 hc1
 have HB:=A_ (Below.refl w.heap.size w)
 have H:=h
 unfold Z47.f at H
 clear h
 obtain ⟨t150,A3,H⟩:=bi_ H
 obtain ⟨t153,A4,H⟩:=bi_ H
 simp only [Option.some.injEq,Prod.mk.injEq] at H
 obtain ⟨rfl,rfl⟩:=H
 go_enter Tryz.func49,Tryz.ntmps49
 try go_wp2_with (first | ((with_reducible refine gB_ (N:=2) rfl ?_);refine bx_ 2 #[.slice A0_0 l0_0.length c0_0,.slice A0_1 l0_1.length c0_1] 27 ?_;intro gb148 hg w5 hbox hb;have BK148:=A_ hbox;have GW148:=gw_ w hg;have GE148:=GW148;replace HB:=b1_ hb;clear hb hbox hg) | ((with_reducible refine gB_ (N:=4) rfl ?_);refine bx_ 4 #[.slice none 0 0,.slice none 0 0] 27 ?_;intro gb149 hg w6 hbox hb;have BK149:=A_ hbox;have GW149:=gw_ w hg;have GE149:=GW149;replace HB:=b1_ hb;have NB148_149:=gN_ BK148 hg;have NB149_148:=gP_ BK148 hg;replace BK148:=bb_ BK148 hb;clear hb hbox hg))
 replace BK148:=A_ (kB_ BK148.out)
 replace BK149:=A_ (kB_ BK149.out)
 replace HB:=A_ (bC_ HB.out)
 refine start_ (n:=10) (S:=fun w'=>w'.cell? ⟨gb148,0,none⟩ = some (.slice A0_0 l0_0.length c0_0)∧w'.cell? ⟨gb148,1,none⟩ = some (.slice A0_1 l0_1.length c0_1)) (ds:=[]) (bl_ 10 0) (by kernel_rfl) rfl (by kernel_rfl) ⟨cz0_ BK148,cz1_ BK148⟩ (fun hHeld=>?_);refine with_tabW Z47.tab1 Z47.bits1 (fun HT_ HW_=>?_)
 generalize w6.drew = w7 at BK148 BK149 HB hHeld ⊢
 refine pu_ 0 (some 5) (bl_ 10 1) HT_ ?_
 refine pu_ 2 (some 7) (bl_ 10 5) HT_ ?_
 refine pu_ 4 (some 9) (bl_ 10 21) HT_ ?_
 refine pu_ 6 (some 11) (bl_ 10 85) HT_ ?_
 refine ta_ 1 (some 6) (bl_ 10 87) HT_ HW_ hHeld ?_
 refine ta_ 5 (some 10) (bl_ 10 119) HT_ HW_ hHeld ?_
 refine on_ 3 (some 8) (bl_ 10 127) HT_ (fun K hK=>?_)
 refine gO_ Tryz.func85 #[.slice A0_0 l0_0.length c0_0,.slice A1 l1.length c1] (by rfl) rfl rfl qa_ ?_
 with_reducible refine (Z45.calls k _ _ l0_0 _ _ l1 t150 _ (cb_ HR0_0) HC0_0.out (cb_ HR1) HC1.out A3.out).mono ?_
 rintro e w8 ⟨v151,rfl,ho0,hb⟩
 refine ⟨_,rfl,?_⟩
 have HO152:=rl_ w ho0
 replace BK148:=bb_ BK148 hb
 replace BK149:=bb_ BK149 hb
 replace HB:=b1_ hb
 clear hb ho0
 refine hK.out _ _ ⟨cz0_ BK148,cz1_ BK148⟩ (fun hHeld=>?_)
 clear hK K
 refine no_ (some 8) ?_
 refine on_ 7 (some 12) (bl_ 10 255) HT_ (fun K hK=>?_)
 refine gO_ Tryz.func85 #[.slice A0_1 l0_1.length c0_1,.slice A1 l1.length c1] (by rfl) rfl rfl qa_ ?_
 with_reducible refine (Z45.calls k _ _ l0_1 _ _ l1 t153 _ (cb_ HR0_1) HC0_1.out (cb_ HR1) HC1.out A4.out).mono ?_
 rintro e w9 ⟨v154,rfl,ho0,hb⟩
 refine ⟨_,rfl,?_⟩
 have HO155:=A_ (rE_ (Kd.R_new' ho0 (Kd.R_lt (rr_ HO152))) (bF_ hB_))
 replace HO152:=A_ (Kd.R_elder' (rr_ HO152) (Kd.R_base ho0) hb)
 replace BK148:=bb_ BK148 hb
 replace BK149:=bb_ BK149 hb
 replace HB:=b1_ hb
 clear hb ho0
 obtain ⟨Ao10,co10,eo10⟩:=Kd.R_slice HO155.out
 (first | subst eo10 | (injection eo10 with f1_ f2_ f3_;have f4_:=f1_.symm;have f5_:=f3_.symm;clear f1_ f2_ f3_;subst f4_;subst f5_))
 obtain ⟨Ao11,co11,eo11⟩:=Kd.R_slice HO152.out
 (first | subst eo11 | (injection eo11 with f1_ f2_ f3_;have f4_:=f1_.symm;have f5_:=f3_.symm;clear f1_ f2_ f3_;subst f4_;subst f5_))
 refine hK.out _ _ ⟨cz0_ BK148,cz1_ BK148⟩ (fun hHeld=>?_)
 clear hK K
 refine no_ (some 12) ?_
 refine pu_ 8 (some 13) (bl_ 10 511) HT_ ?_
 refine on_ 9 (none) (bl_ 10 1023) HT_ (fun K hK=>?_)
 have hs12:w9.cell? ⟨gb149,0,none⟩ = some (.slice none 0 0):=cz0_ BK149
 have hfs12:=kD_ BK149.out 0
 have hns12_0:=NB148_149.out
 have hms12_0:=NB149_148.out
 have hs13:w9.cell? ⟨gb149,1,none⟩ = some (.slice none 0 0):=cz1_ BK149
 have hfs13:=kD_ BK149.out 1
 have hns13_0:=NB148_149.out
 have hms13_0:=NB149_148.out
 refine skip_ (w1:=?_) (by rfl) rfl ?_ ?_
 rotate_left
 ·go_simp
  rfl
 refine hK.out _ _ ⟨((cell_far (p:=⟨gb149,_,none⟩) NB148_149.out _).trans (((cell_far (p:=⟨gb149,_,none⟩) NB148_149.out _).trans (hHeld.1)))),((cell_far (p:=⟨gb149,_,none⟩) NB148_149.out _).trans (((cell_far (p:=⟨gb149,_,none⟩) NB148_149.out _).trans (hHeld.2))))⟩ (fun hHeld=>?_)
 clear hK K
 refine done_ (done_of HT_.out (by kernel_rfl)) ?_
 try go_wp2
 refine bodyPost_ret (results_cell_row rfl _ _ gb149 27 #[.slice Ao11 t150.length co11,.slice Ao10 t153.length co10] (0,0) _ rfl qp_ Tryz.underlying27 rfl (by kernel_rfl)) rfl ?_
 exact ⟨_,_,qb_,(rw_ (Kd.R_mono (fa_ HO152 BK149) (fun _ hk=>hk.2))),(rw_ (Kd.R_mono (fa_ HO155 BK149) (fun _ hk=>hk.2))),hB_⟩
def Z34.l0:Nat→List Int→List Int→Int→Int→Option (List Int)
 | 0,_,_,_,_=>none
 | k + 1,x3,x9,x10,x11=>if x11 < x10 then (if 0≤x11 then (if x11 < (x9.length:Int) then (if 0≤(rd x9 x11) then (if (rd x9 x11) < (x3.length:Int) then (Z34.l0 k (x3.set ((rd x9 x11):Int).toNat x11) x9 x10 (wrap64 (x11 + 1))) else (none)) else (none)) else (none)) else (none)) else (some x3)
def Z34.f (k:Nat) (l0:List Int):Option (List Int):=if 0≤(l0.length:Int) then (if ((l0.length:Int):Int).toNat≤35184372088832 then (Z34.l0 k (List.replicate ((l0.length:Int):Int).toNat 0) l0 (l0.length:Int) 0) else (none)) else (none)
theorem Z34.mono_l:∀ k,(∀ y0 y1 y2 y3,LeO (Z34.l0 k y0 y1 y2 y3) (Z34.l0 (k + 1) y0 y1 y2 y3))
 | 0=>fun _ _ _ _ r h=>by simp [Z34.l0] at h
 | k + 1=>by
  have ih0:=Z34.mono_l k
  ·intro y0 y1 y2 y3
   unfold Z34.l0
   repeat' first|exact ih0 _ _ _ _|exact lo_|refine LeO.ite ?_ ?_|refine LeO.bind ?_ (fun _=>?_)
theorem Z34.mono:∀ a0 k,LeO (Z34.f k a0) (Z34.f (k + 1) a0):=by
 intro a0 k
 have ih0:=Z34.mono_l k
 unfold Z34.f
 repeat' first|exact ih0 _ _ _ _|exact lo_|refine LeO.ite ?_ ?_|refine LeO.bind ?_ (fun _=>?_)
set_option maxHeartbeats 8000000 in
set_option maxRecDepth 100000 in
theorem Z34.calls (k:Nat) (A0:Option Addr) (c0:Nat) (l0:List Int) (r:List Int) (w:World) (hr0:Kd.C (Kd.int .i64) w A0 l0.length l0) (hc0:l0.length≤c0) (h:Z34.f k l0 = some r) :
  Calls Tryz.prog 53 #[.slice A0 l0.length c0] w fun e w'=>∃ v0_:Value,e = .returned (v0_)∧Kd.R (Kd.int .i64) 3 w' w.heap.size (fun _=>True) v0_ r∧Below w.heap.size w w':=by
 have HR0:=A_ hr0
 have HC0:=A_ hc0
 clear hr0 hc0
 have HB:=A_ (Below.refl w.heap.size w)
 have H:=h
 unfold Z34.f at H
 clear h
 have c2:=cp_ H
 replace H:=ca_ H
 have c2b0:=eq_true c2
 have c2b1:=oC_ c2
 clear c2
 have c3:=cp_ H
 replace H:=ca_ H
 have c3b0:=eq_true c3
 have c3b1:=oC_ c3
 clear c3
 obtain ⟨y156,hy156⟩:∃ y_:List Int,y_ = (List.replicate ((l0.length:Int):Int).toNat 0):=⟨_,rfl⟩
 replace H:(Z34.l0 k y156 l0 (l0.length:Int) 0) = some r:=by first | (rw [hy156];exact H) | exact H
 have Ny156:=A_ hy156
 clear hy156
 have H':=A_ H
 clear H
 go_enter Tryz.func53,Tryz.ntmps53
 go_wp2_with (first | ((with_reducible refine gB_ (N:=8) rfl ?_);refine Kd.R_make (Kd.int .i64) _ 3 rfl (N:=8) rfl 22 _ _ rfl (l0.length:Int) rfl rfl Tryz.underlying22 (.int .i64 0) 8 info3 rfl (by decide) (by omega) 0 (ok:=fun _=>True) (okp:=fun _=>True) rfl (fun _ hk=>hk) trivial (oB_ qe_) (Nat.le_trans (Nat.mul_le_mul_right _ (oB_ qe_:(l0.length:Int).toNat≤35184372088832)) (by omega)) (Below.refl _ _) (nA_ _) ?_;intro v157 w4 ho5 hb hg_ hnew_;clear hg_ hnew_;(first | rw [← Ny156.out] at ho5 | (simp only [Int.reduceToNat] at ho5;rw [← Ny156.out] at ho5));have HO158:=rl_ w ho5;replace HB:=b1_ hb;clear hb ho5))
 go_loopg [11] k (fun kq v11 w'=>∃ (x3_1:List Int) (x11_1:Int),v11 = .int .i64 x11_1∧Aside0 (Z34.l0 kq x3_1 l0 (l0.length:Int) x11_1 = some r)∧Aside0 (kq≤k)∧Aside0 (Kd.R (Kd.int .i64) 3 w' w.heap.size (fun _=>True) v157 x3_1)∧Aside0 (Below w.heap.size w w'))
 case atStart=>exact ⟨(y156),(0),qc_,H',⟨nA_ _⟩,⟨(rr_ HO158)⟩,⟨hB_⟩⟩
 case round =>
  clear H'
  obtain ⟨x3_1,x11_1,rfl,HA,HK1,HO_3,HB⟩:=hrel
  cases gk with
  | zero=>exact absurd HA.out (by simp [Z34.l0])
  | succ k1 =>
   have H:=HA.out
   clear HA
   simp only [Z34.l0] at H
   by_cases c6:x11_1 < (l0.length:Int)
   ·rw [if_pos c6] at H
    have c6b0:=oC_ c6
    clear c6
    have c7:=cp_ H
    replace H:=ca_ H
    have c7b0:=oC_ c7
    clear c7
    have c8:=cp_ H
    replace H:=ca_ H
    have c8b0:=oC_ c8
    clear c8
    have c9:=cp_ H
    replace H:=ca_ H
    have c9b0:=oC_ c9
    clear c9
    have c10:=cp_ H
    replace H:=ca_ H
    have c10b0:=oC_ c10
    clear c10
    obtain ⟨y160,hy160⟩:∃ y_:List Int,y_ = (x3_1.set ((rd l0 x11_1):Int).toNat x11_1):=⟨_,rfl⟩
    replace H:(Z34.l0 k1 y160 l0 (l0.length:Int) (wrap64 (x11_1 + 1))) = some r:=by first | (rw [hy160];exact H) | exact H
    have Ny160:=A_ hy160
    clear hy160
    have H':=A_ H
    clear H
    have p159:0≤(x11_1:Int):=oB_ qe_
    have q159:x11_1 < (l0.length:Int):=oB_ qe_
    obtain ⟨ad159,e159,hx159_0⟩:=Kd.at_int HR0.out x11_1 p159 q159
    cases e159
    replace hx159_0:=(HB.out.cell (World.block_lt_of_cell? w _ hx159_0)).trans hx159_0
    replace p159:=eq_true p159
    replace q159:=eq_true q159
    have p11:0≤((rd l0 x11_1):Int):=oB_ qe_
    have q11:((rd l0 x11_1):Int) < ((x3_1.length:Int):Int):=oB_ qe_
    obtain ⟨go11,co11,eo11,gb11,gl11,cl11,HG11⟩:=Kd.R_form HO_3.out (by omega)
    (first | cases eo11 | (injection eo11 with ea_ en_ ec_;(first | subst ea_ | (injection ea_ with ea_;subst ea_));subst ec_;clear en_))
    have GB11:=A_ gb11
    have GG11:=A_ HG11
    clear gb11 gl11 HG11
    obtain ⟨hx11_0,hf11_0⟩:=Kd.R_celln 0 HO_3.out ((rd l0 x11_1):Int) p11 q11
    replace p11:=eq_true p11
    replace q11:=eq_true q11
    have HP12:=Kd.R_putg HO_3.out ((rd l0 x11_1):Int) x11_1
    go_wp2_with (first | ((with_reducible refine gate_store (t:=3) (p:=19) rfl ?_);refine store_event (t:=3) (p:=19) (v:=?vo_w13) (w1:=(wr.setCell ⟨go11,((rd l0 x11_1):Int).toNat,none⟩ (.int .i64 x11_1))) ?hg ?ho ?hn ?hr ?_;(case ho=>rfl);(case hg=>rfl);(case hn=>rfl);(case hr=>first | (go_simp;done) | (go_simp;rfl));intro w13 hw;have hg:wr.grownBy w13 (some go11):=(by rw [hw];exact HP12.2);have hp_:Kd.R (Kd.int .i64) 3 w13 w.heap.size (fun _=>True) (.slice (some ⟨go11,0,none⟩) x3_1.length co11) y160:=(by rw [hw,Ny160.out];exact HP12.1);clear HP12;replace HO_3:=A_ (hp_);replace HB:=A_ ((by rw [hw];exact bD_ (HB.out) GB11.out:Below w.heap.size w w13));clear hg hw hp_))
    go_roundg k1
    case measure=>have:=HK1.out;omega
    case rel=>exact ⟨(y160),(wrap64 (x11_1 + 1)),qc_,H',⟨by have:=HK1.out;omega⟩,⟨(rr_ HO_3)⟩,⟨hB_⟩⟩
   ·rw [if_neg c6] at H
    have c6b0:=oD_ c6
    clear c6
    obtain rfl:=Option.some.inj H
    go_wp2
    go_ret
    exact ⟨_,qb_,(rr_ HO_3),hB_⟩
def Z58.f (k:Nat) (l0_0:List Int) (l0_1:List Int) (a1:Int):Option (List Int):=(Z56.f k l0_0 l0_1 a1).bind fun t162=>((Z34.f k t162).bind fun t165=>(some t165))
theorem Z58.mono:∀ a0 a1 a2 k,LeO (Z58.f k a0 a1 a2) (Z58.f (k + 1) a0 a1 a2):=by
 intro a0 a1 a2 k
 unfold Z58.f
 repeat' first|exact Z34.mono _ _|exact Z56.mono _ _ _ _|exact lo_|refine LeO.ite ?_ ?_|refine LeO.bind ?_ (fun _=>?_)
set_option maxHeartbeats 8000000 in
set_option maxRecDepth 100000 in
theorem Z58.calls (k:Nat) (A0_0:Option Addr) (c0_0:Nat) (l0_0:List Int) (A0_1:Option Addr) (c0_1:Nat) (l0_1:List Int) (a1:Int) (r:List Int) (w:World) (hr0_0:Kd.C (Kd.int .i64) w A0_0 l0_0.length l0_0) (hc0_0:l0_0.length≤c0_0) (hr0_1:Kd.C (Kd.int .i64) w A0_1 l0_1.length l0_1) (hc0_1:l0_1.length≤c0_1) (h:Z58.f k l0_0 l0_1 a1 = some r) :
  Calls Tryz.prog 50 #[.agg #[.slice A0_0 l0_0.length c0_0,.slice A0_1 l0_1.length c0_1],.int .i64 a1] w fun e w'=>∃ v0_:Value,e = .returned (v0_)∧Kd.R (Kd.int .i64) 3 w' w.heap.size (fun _=>True) v0_ r∧Below w.heap.size w w':=by
 have hu27:=Tryz.underlying27
 have HR0_0:=A_ hr0_0
 have HC0_0:=A_ hc0_0
 clear hr0_0 hc0_0
 have HR0_1:=A_ hr0_1
 have HC0_1:=A_ hc0_1
 clear hr0_1 hc0_1
 have HB:=A_ (Below.refl w.heap.size w)
 have H:=h
 unfold Z58.f at H
 clear h
 obtain ⟨t162,A3,H⟩:=bi_ H
 obtain ⟨t165,A4,H⟩:=bi_ H
 obtain rfl:=Option.some.inj H
 go_enter Tryz.func50,Tryz.ntmps50
 go_wp2_with (first | ((with_reducible refine gB_ (N:=2) rfl ?_);refine bx_ 2 #[.slice A0_0 l0_0.length c0_0,.slice A0_1 l0_1.length c0_1] 27 ?_;intro gb161 hg w5 hbox hb;have BK161:=A_ hbox;have GW161:=gw_ w hg;have GE161:=GW161;replace HB:=b1_ hb;clear hb hbox hg;obtain ⟨hcz6_0,hcz6_1,hfz6_0,hfz6_1⟩:=c2_ BK161) | ((with_reducible refine gA_ (f:=80) rfl ?_);refine gL_ (some 10) Tryz.func80 #[.slice A0_0 l0_0.length c0_0,.slice A0_1 l0_1.length c0_1,.int .i64 a1] rfl qa_ ?_;(with_reducible refine (Z56.calls k _ _ l0_0 _ _ l0_1 a1 t162 _ (cb_ HR0_0) HC0_0.out (cb_ HR0_1) HC0_1.out A3.out).mono ?_);rintro e w7 ⟨v163,rfl,ho0,hb⟩;refine ⟨_,rfl,?_⟩;have HO164:=rl_ w ho0;replace BK161:=bb_ BK161 hb;replace HB:=b1_ hb;clear hb ho0;obtain ⟨Ao8,co8,eo8⟩:=Kd.R_slice HO164.out;subst eo8) | ((with_reducible refine gA_ (f:=53) rfl ?_);refine gL_ (some 11) Tryz.func53 #[.slice Ao8 t162.length co8] rfl qa_ ?_;(with_reducible refine (Z34.calls k _ _ t162 t165 _ (cr_ HO164) ((Kd.R_reads' HO164.out).2.1) A4.out).mono ?_);rintro e w9 ⟨v166,rfl,ho0,hb⟩;refine ⟨_,rfl,?_⟩;have HO167:=A_ (rE_ (Kd.R_new' ho0 (Kd.R_lt (rr_ HO164))) (bF_ hB_));replace HO164:=A_ (Kd.R_elder' (rr_ HO164) (Kd.R_base ho0) hb);replace BK161:=bb_ BK161 hb;replace HB:=b1_ hb;clear hb ho0))
 go_ret
 exact ⟨_,qb_,(rw_ (Kd.R_mono HO167.out (fun _ hk=>trivial))),hB_⟩
def Z71.l0:Nat→List Int→List Int→Int→Int→Option (Bool)
 | 0,_,_,_,_=>none
 | k + 1,x1,x7,x8,x9=>if x9 < x8 then (if 0≤x9 then (if x9 < (x7.length:Int) then (if x9 < (x1.length:Int) then (if (rd x7 x9) = (rd x1 x9) then (Z71.l0 k x1 x7 x8 (wrap64 (x9 + 1))) else (some (decide ((rd x7 x9) < (rd x1 x9))))) else (none)) else (none)) else (none)) else (some false)
def Z71.f (k:Nat) (l0:List Int) (l1:List Int):Option (Bool):=Z71.l0 k l1 l0 (l0.length:Int) 0
theorem Z71.mono_l:∀ k,(∀ y0 y1 y2 y3,LeO (Z71.l0 k y0 y1 y2 y3) (Z71.l0 (k + 1) y0 y1 y2 y3))
 | 0=>fun _ _ _ _ r h=>by simp [Z71.l0] at h
 | k + 1=>by
  have ih0:=Z71.mono_l k
  ·intro y0 y1 y2 y3
   unfold Z71.l0
   repeat' first|exact ih0 _ _ _ _|exact lo_|refine LeO.ite ?_ ?_|refine LeO.bind ?_ (fun _=>?_)
theorem Z71.mono:∀ a0 a1 k,LeO (Z71.f k a0 a1) (Z71.f (k + 1) a0 a1):=by
 intro a0 a1 k
 have ih0:=Z71.mono_l k
 unfold Z71.f
 repeat' first|exact ih0 _ _ _ _|exact lo_|refine LeO.ite ?_ ?_|refine LeO.bind ?_ (fun _=>?_)
set_option maxHeartbeats 8000000 in
set_option maxRecDepth 100000 in
theorem Z71.calls (k:Nat) (A0:Option Addr) (c0:Nat) (l0:List Int) (A1:Option Addr) (c1:Nat) (l1:List Int) (r:Bool) (w:World) (hr0:Kd.C (Kd.int .i64) w A0 l0.length l0) (hc0:l0.length≤c0) (hr1:Kd.C (Kd.int .i64) w A1 l1.length l1) (hc1:l1.length≤c1) (h:Z71.f k l0 l1 = some r) :
  Calls Tryz.prog 86 #[.slice A0 l0.length c0,.slice A1 l1.length c1] w fun e w'=>e = .returned (.bool r)∧Drawn0 w w':=by
 have HR0:=A_ hr0
 have HC0:=A_ hc0
 clear hr0 hc0
 have HR1:=A_ hr1
 have HC1:=A_ hc1
 clear hr1 hc1
 have H:=h
 unfold Z71.f at H
 clear h
 have H':=A_ H
 clear H
 go_enter Tryz.func86,Tryz.ntmps86
 go_wp2
 go_loopg [9] k (fun kq v9 w'=>∃ (x9_1:Int),v9 = .int .i64 x9_1∧Aside0 (Z71.l0 kq l1 l0 (l0.length:Int) x9_1 = some r)∧Aside0 (kq≤k)∧Drawn0 w w')
 case atStart=>exact ⟨(0),qc_,H',⟨nA_ _⟩,by repeat (first | exact Drawn0.refl _ | apply Drawn0.step)⟩
 case round =>
  clear H'
  obtain ⟨x9_1,rfl,HA,HK1,⟨m1,rfl⟩⟩:=hrel
  cases gk with
  | zero=>exact absurd HA.out (by simp [Z71.l0])
  | succ k1 =>
   have H:=HA.out
   clear HA
   simp only [Z71.l0] at H
   by_cases c3:x9_1 < (l0.length:Int)
   ·rw [if_pos c3] at H
    have c3b0:=oC_ c3
    clear c3
    have c4:=cp_ H
    replace H:=ca_ H
    have c4b0:=oC_ c4
    clear c4
    have c5:=cp_ H
    replace H:=ca_ H
    have c5b0:=oC_ c5
    clear c5
    have c6:=cp_ H
    replace H:=ca_ H
    have c6b0:=oC_ c6
    clear c6
    by_cases c7:(rd l0 x9_1) = (rd l1 x9_1)
    ·rw [if_pos c7] at H
     have c7b0:((rd l0 x9_1) == (rd l1 x9_1)) = true:=beq_iff_eq.mpr c7
     have c7b1:((rd l0 x9_1) != (rd l1 x9_1)) = false:=bne_eq_false_iff_eq.mpr c7
     clear c7
     have H':=A_ H
     clear H
     have p168:0≤(x9_1:Int):=oB_ qe_
     have q168:x9_1 < (l0.length:Int):=oB_ qe_
     obtain ⟨ad168,e168,hx168_0⟩:=Kd.at_int HR0.out x9_1 p168 q168
     cases e168
     replace p168:=eq_true p168
     replace q168:=eq_true q168
     have p169:0≤(x9_1:Int):=oB_ qe_
     have q169:x9_1 < (l1.length:Int):=oB_ qe_
     obtain ⟨ad169,e169,hx169_0⟩:=Kd.at_int HR1.out x9_1 p169 q169
     cases e169
     replace p169:=eq_true p169
     replace q169:=eq_true q169
     go_wp2
     go_roundg k1
     case measure=>have:=HK1.out;omega
     case rel=>exact ⟨(wrap64 (x9_1 + 1)),qc_,H',⟨by have:=HK1.out;omega⟩,by repeat (first | exact Drawn0.refl _ | apply Drawn0.step)⟩
    ·rw [if_neg c7] at H
     have c7b0:((rd l0 x9_1) == (rd l1 x9_1)) = false:=beq_eq_false_iff_ne.mpr c7
     have c7b1:((rd l0 x9_1) != (rd l1 x9_1)) = true:=bne_iff_ne.mpr c7
     obtain rfl:=Option.some.inj H
     have p168:0≤(x9_1:Int):=oB_ qe_
     have q168:x9_1 < (l0.length:Int):=oB_ qe_
     obtain ⟨ad168,e168,hx168_0⟩:=Kd.at_int HR0.out x9_1 p168 q168
     cases e168
     replace p168:=eq_true p168
     replace q168:=eq_true q168
     have p169:0≤(x9_1:Int):=oB_ qe_
     have q169:x9_1 < (l1.length:Int):=oB_ qe_
     obtain ⟨ad169,e169,hx169_0⟩:=Kd.at_int HR1.out x9_1 p169 q169
     cases e169
     replace p169:=eq_true p169
     replace q169:=eq_true q169
     have p170:0≤(x9_1:Int):=oB_ qe_
     have q170:x9_1 < (l1.length:Int):=oB_ qe_
     obtain ⟨ad170,e170,hx170_0⟩:=Kd.at_int HR1.out x9_1 p170 q170
     obtain rfl:ad169 = ad170:=(by injection e170)
     replace p170:=eq_true p170
     replace q170:=eq_true q170
     go_wp2
     go_ret
     exact ⟨qc_,by repeat (first | exact Drawn0.refl _ | apply Drawn0.step)⟩
   ·rw [if_neg c3] at H
    have c3b0:=oD_ c3
    clear c3
    obtain rfl:=Option.some.inj H
    go_wp2
    go_ret
    exact ⟨qc_,by repeat (first | exact Drawn0.refl _ | apply Drawn0.step)⟩
def Z46.f (k:Nat) (l0_0:List Int) (l0_1:List Int) (l1_0:List Int) (l1_1:List Int):Option (Bool):=(Z55.f k l0_0 l1_0).bind fun t173=>(if t173 = true then ((Z71.f k l0_1 l1_1).bind fun t174=>(some t174)) else ((Z71.f k l0_0 l1_0).bind fun t175=>(some t175)))
theorem Z46.mono:∀ a0 a1 a2 a3 k,LeO (Z46.f k a0 a1 a2 a3) (Z46.f (k + 1) a0 a1 a2 a3):=by
 intro a0 a1 a2 a3 k
 unfold Z46.f
 repeat' first|exact Z55.mono _ _ _|exact Z71.mono _ _ _|exact lo_|refine LeO.ite ?_ ?_|refine LeO.bind ?_ (fun _=>?_)
set_option maxHeartbeats 8000000 in
set_option maxRecDepth 100000 in
theorem Z46.calls (k:Nat) (A0_0:Option Addr) (c0_0:Nat) (l0_0:List Int) (A0_1:Option Addr) (c0_1:Nat) (l0_1:List Int) (A1_0:Option Addr) (c1_0:Nat) (l1_0:List Int) (A1_1:Option Addr) (c1_1:Nat) (l1_1:List Int) (r:Bool) (w:World) (hr0_0:Kd.C (Kd.int .i64) w A0_0 l0_0.length l0_0) (hc0_0:l0_0.length≤c0_0) (hr0_1:Kd.C (Kd.int .i64) w A0_1 l0_1.length l0_1) (hc0_1:l0_1.length≤c0_1) (hr1_0:Kd.C (Kd.int .i64) w A1_0 l1_0.length l1_0) (hc1_0:l1_0.length≤c1_0) (hr1_1:Kd.C (Kd.int .i64) w A1_1 l1_1.length l1_1) (hc1_1:l1_1.length≤c1_1) (h:Z46.f k l0_0 l0_1 l1_0 l1_1 = some r) :
  Calls Tryz.prog 51 #[.agg #[.slice A0_0 l0_0.length c0_0,.slice A0_1 l0_1.length c0_1],.agg #[.slice A1_0 l1_0.length c1_0,.slice A1_1 l1_1.length c1_1]] w fun e w'=>e = .returned (.bool r)∧Below w.heap.size w w':=by
 have hu27:=Tryz.underlying27
 have HR0_0:=A_ hr0_0
 have HC0_0:=A_ hc0_0
 clear hr0_0 hc0_0
 have HR0_1:=A_ hr0_1
 have HC0_1:=A_ hc0_1
 clear hr0_1 hc0_1
 have HR1_0:=A_ hr1_0
 have HC1_0:=A_ hc1_0
 clear hr1_0 hc1_0
 have HR1_1:=A_ hr1_1
 have HC1_1:=A_ hc1_1
 clear hr1_1 hc1_1
 have HB:=A_ (Below.refl w.heap.size w)
 have H:=h
 unfold Z46.f at H
 clear h
 obtain ⟨t173,A3,H⟩:=bi_ H
 by_cases c4:t173 = true
 ·subst c4
  rw [if_pos rfl] at H
  obtain ⟨t174,A5,H⟩:=bi_ H
  obtain rfl:=Option.some.inj H
  go_enter Tryz.func51,Tryz.ntmps51
  go_wp2_with (first | ((with_reducible refine gB_ (N:=2) rfl ?_);refine bx_ 2 #[.slice A0_0 l0_0.length c0_0,.slice A0_1 l0_1.length c0_1] 27 ?_;intro gb171 hg w6 hbox hb;have BK171:=A_ hbox;have GW171:=gw_ w hg;have GE171:=GW171;replace HB:=b1_ hb;clear hb hbox hg) | ((with_reducible refine gB_ (N:=3) rfl ?_);refine bx_ 3 #[.slice A1_0 l1_0.length c1_0,.slice A1_1 l1_1.length c1_1] 27 ?_;intro gb172 hg w7 hbox hb;have BK172:=A_ hbox;have GW172:=gw_ w hg;have GE172:=GW172;replace HB:=b1_ hb;have NB171_172:=gN_ BK171 hg;have NB172_171:=gP_ BK171 hg;replace BK171:=bb_ BK171 hb;clear hb hbox hg;have hnb8:=NB171_172.out;have hnc8:=NB172_171.out;obtain ⟨hcz9_0,hcz9_1,hfz9_0,hfz9_1⟩:=c2_ BK171;obtain ⟨hcz10_0,hcz10_1,hfz10_0,hfz10_1⟩:=c2_ BK172) | ((with_reducible refine gA_ (f:=84) rfl ?_);refine gL_ (some 9) Tryz.func84 #[.slice A0_0 l0_0.length c0_0,.slice A1_0 l1_0.length c1_0] rfl qa_ ?_;(with_reducible refine (Z55.calls k _ _ l0_0 _ _ l1_0 true _ (cb_ HR0_0) HC0_0.out (cb_ HR1_0) HC1_0.out A3.out).mono ?_);rintro e w' ⟨rfl,⟨nd,rfl⟩⟩;refine ⟨_,rfl,?_⟩) | ((with_reducible refine gA_ (f:=86) rfl ?_);refine gL_ (some 14) Tryz.func86 #[.slice A0_1 l0_1.length c0_1,.slice A1_1 l1_1.length c1_1] rfl qa_ ?_;(with_reducible refine (Z71.calls k _ _ l0_1 _ _ l1_1 t174 _ (cw_ (cD_ HR0_1.out hB_)) HC0_1.out (cw_ (cD_ HR1_1.out hB_)) HC1_1.out A5.out).mono ?_);rintro e w' ⟨rfl,⟨nd,rfl⟩⟩;refine ⟨_,rfl,?_⟩))
  go_ret
  exact ⟨qb_,hB_⟩
 ·replace c4:=Bool.eq_false_iff.mpr c4
  subst c4
  have H1:((Z71.f k l0_0 l1_0).bind fun t175=>(some t175)) = some r:=by rw [if_neg (show ¬ (false = true) by decide)] at H;exact H
  clear H
  have H:=H1
  clear H1
  obtain ⟨t175,A11,H⟩:=bi_ H
  obtain rfl:=Option.some.inj H
  go_enter Tryz.func51,Tryz.ntmps51
  go_wp2_with (first | ((with_reducible refine gB_ (N:=2) rfl ?_);refine bx_ 2 #[.slice A0_0 l0_0.length c0_0,.slice A0_1 l0_1.length c0_1] 27 ?_;intro gb171 hg w12 hbox hb;have BK171:=A_ hbox;have GW171:=gw_ w hg;have GE171:=GW171;replace HB:=b1_ hb;clear hb hbox hg) | ((with_reducible refine gB_ (N:=3) rfl ?_);refine bx_ 3 #[.slice A1_0 l1_0.length c1_0,.slice A1_1 l1_1.length c1_1] 27 ?_;intro gb172 hg w13 hbox hb;have BK172:=A_ hbox;have GW172:=gw_ w hg;have GE172:=GW172;replace HB:=b1_ hb;have NB171_172:=gN_ BK171 hg;have NB172_171:=gP_ BK171 hg;replace BK171:=bb_ BK171 hb;clear hb hbox hg;have hnb14:=NB171_172.out;have hnc14:=NB172_171.out;obtain ⟨hcz15_0,hcz15_1,hfz15_0,hfz15_1⟩:=c2_ BK171;obtain ⟨hcz16_0,hcz16_1,hfz16_0,hfz16_1⟩:=c2_ BK172) | ((with_reducible refine gA_ (f:=84) rfl ?_);refine gL_ (some 9) Tryz.func84 #[.slice A0_0 l0_0.length c0_0,.slice A1_0 l1_0.length c1_0] rfl qa_ ?_;(with_reducible refine (Z55.calls k _ _ l0_0 _ _ l1_0 false _ (cb_ HR0_0) HC0_0.out (cb_ HR1_0) HC1_0.out A3.out).mono ?_);rintro e w' ⟨rfl,⟨nd,rfl⟩⟩;refine ⟨_,rfl,?_⟩) | ((with_reducible refine gA_ (f:=86) rfl ?_);refine gL_ (some 19) Tryz.func86 #[.slice A0_0 l0_0.length c0_0,.slice A1_0 l1_0.length c1_0] rfl qa_ ?_;(with_reducible refine (Z71.calls k _ _ l0_0 _ _ l1_0 t175 _ (cw_ (cD_ HR0_0.out hB_)) HC0_0.out (cw_ (cD_ HR1_0.out hB_)) HC1_0.out A11.out).mono ?_);rintro e w' ⟨rfl,⟨nd,rfl⟩⟩;refine ⟨_,rfl,?_⟩))
  go_ret
  exact ⟨qb_,hB_⟩
def Z57.l0:Nat→Int→List Int→List Int→List Int→List Int→Option (List Int × List Int)
 | 0,_,_,_,_,_=>none
 | k + 1,x4,x177000,x177001,x188000,x188001=>if x4 < (x177000.length:Int) then ((Z58.f k x177000 x177001 x4).bind fun t188=>((Z47.f k x177000 x177001 t188).bind fun bt191=>((Z46.f k bt191.1 bt191.2 x188000 x188001).bind fun t198=>(if t198 = true then (Z57.l0 k (wrap64 (x4 + 1)) x177000 x177001 bt191.1 bt191.2) else (Z57.l0 k (wrap64 (x4 + 1)) x177000 x177001 x188000 x188001))))) else (some (x188000,x188001))
def Z57.f (k:Nat) (l0_0:List Int) (l0_1:List Int):Option (List Int × List Int):=(Z58.f k l0_0 l0_1 0).bind fun t178=>((Z47.f k l0_0 l0_1 t178).bind fun bt181=>(Z57.l0 k 1 l0_0 l0_1 bt181.1 bt181.2))
theorem Z57.mono_l:∀ k,(∀ y0 y1 y2 y3 y4,LeO (Z57.l0 k y0 y1 y2 y3 y4) (Z57.l0 (k + 1) y0 y1 y2 y3 y4))
 | 0=>fun _ _ _ _ _ r h=>by simp [Z57.l0] at h
 | k + 1=>by
  have ih0:=Z57.mono_l k
  ·intro y0 y1 y2 y3 y4
   unfold Z57.l0
   repeat' first|exact ih0 _ _ _ _ _|exact Z46.mono _ _ _ _ _|exact Z58.mono _ _ _ _|exact Z47.mono _ _ _ _|exact lo_|refine LeO.ite ?_ ?_|refine LeO.bind ?_ (fun _=>?_)
theorem Z57.mono:∀ a0 a1 k,LeO (Z57.f k a0 a1) (Z57.f (k + 1) a0 a1):=by
 intro a0 a1 k
 have ih0:=Z57.mono_l k
 unfold Z57.f
 repeat' first|exact ih0 _ _ _ _ _|exact Z46.mono _ _ _ _ _|exact Z58.mono _ _ _ _|exact Z47.mono _ _ _ _|exact lo_|refine LeO.ite ?_ ?_|refine LeO.bind ?_ (fun _=>?_)
set_option maxHeartbeats 8000000 in
set_option maxRecDepth 100000 in
theorem Z57.calls (k:Nat) (A0_0:Option Addr) (c0_0:Nat) (l0_0:List Int) (A0_1:Option Addr) (c0_1:Nat) (l0_1:List Int) (r1:List Int) (r2:List Int) (w:World) (hr0_0:Kd.C (Kd.int .i64) w A0_0 l0_0.length l0_0) (hc0_0:l0_0.length≤c0_0) (hr0_1:Kd.C (Kd.int .i64) w A0_1 l0_1.length l0_1) (hc0_1:l0_1.length≤c0_1) (h:Z57.f k l0_0 l0_1 = some (r1,r2)) :
  Calls Tryz.prog 35 #[.agg #[.slice A0_0 l0_0.length c0_0,.slice A0_1 l0_1.length c0_1]] w fun e w'=>∃ v0_ v1_:Value,e = .returned (.agg #[v0_,v1_])∧Kd.R (Kd.int .i64) 3 w' w.heap.size (fun k_=>some k_≠(v1_:Value).ownBlock) v0_ r1∧Kd.R (Kd.int .i64) 3 w' w.heap.size (fun k_=>some k_≠(v0_:Value).ownBlock) v1_ r2∧Below w.heap.size w w':=by
 have hu27:=Tryz.underlying27
 have HR0_0:=A_ hr0_0
 have HC0_0:=A_ hc0_0
 clear hr0_0 hc0_0
 have HR0_1:=A_ hr0_1
 have HC0_1:=A_ hc0_1
 clear hr0_1 hc0_1
 have HB:=A_ (Below.refl w.heap.size w)
 have H:=h
 unfold Z57.f at H
 clear h
 obtain ⟨t178,A2,H⟩:=bi_ H
 obtain ⟨⟨t181,t184⟩,A3,H⟩:=bi_ H
 try dsimp only at H
 have H':=A_ H
 clear H
 go_enter Tryz.func35,Tryz.ntmps35
 try go_wp2_with (first | ((with_reducible refine gB_ (N:=1) rfl ?_);refine bx_ 1 #[.slice A0_0 l0_0.length c0_0,.slice A0_1 l0_1.length c0_1] 27 ?_;intro gb176 hg w4 hbox hb;have BK176:=A_ hbox;have GW176:=gw_ w hg;have GE176:=GW176;replace HB:=b1_ hb;clear hb hbox hg) | ((with_reducible refine gB_ (N:=2) rfl ?_);refine bx_ 2 #[.slice none 0 0,.slice none 0 0] 27 ?_;intro gb177 hg w5 hbox hb;have BK177:=A_ hbox;have GW177:=gw_ w hg;have GE177:=GW177;replace HB:=b1_ hb;have NB176_177:=gN_ BK176 hg;have NB177_176:=gP_ BK176 hg;replace BK176:=bb_ BK176 hb;clear hb hbox hg))
 replace BK176:=A_ (kB_ BK176.out)
 replace BK177:=A_ (kB_ BK177.out)
 replace HB:=A_ (bC_ HB.out)
 refine start_ (n:=6) (S:=fun w'=>w'.cell? ⟨gb176,0,none⟩ = some (.slice A0_0 l0_0.length c0_0)∧w'.cell? ⟨gb176,1,none⟩ = some (.slice A0_1 l0_1.length c0_1)) (ds:=[]) (bl_ 6 0) (by kernel_rfl) rfl (by kernel_rfl) ⟨cz0_ BK176,cz1_ BK176⟩ (fun hHeld=>?_)
 generalize w5.drew = w6 at BK176 BK177 HB hHeld ⊢
 refine take_ (i:=0) (N:=some 6) (v:=?_) (a':=?_) (bl_ 6 1) rfl rfl (by kernel_rfl) (fun _ _ _ h=>h) (Or.inl ⟨by rfl,?_⟩) hHeld ?_ ?_
 rotate_left
 ·rintro w' ⟨s0,s1⟩
  go_simp
  with_reducible rfl
 rotate_left
 ·simp only [Act.put,sA_,sB_,sC_,i64_w,i32_w]
  rfl
 refine take_ (i:=1) (N:=some 7) (v:=?_) (a':=?_) (bl_ 6 3) rfl rfl (by kernel_rfl) (fun _ _ _ h=>h) (Or.inl ⟨by rfl,?_⟩) hHeld ?_ ?_
 rotate_left
 ·rintro w' ⟨s0,s1⟩
  go_simp
  with_reducible rfl
 rotate_left
 ·simp only [Act.put,sA_,sB_,sC_,i64_w,i32_w]
  rfl
 refine join_ (σ:=Value × Value × Value × Nat) 1 (bl_ 6 31) (fun s_=>[(8,s_.1),(9,.agg #[s_.2.1,s_.2.2.1]),(3,.pointer (some ⟨s_.2.2.2,0,none⟩))]) (fun s_ w'=>(w'.cell? ⟨gb176,0,none⟩ = some (.slice A0_0 l0_0.length c0_0)∧w'.cell? ⟨gb176,1,none⟩ = some (.slice A0_1 l0_1.length c0_1))∧(Kd.R (Kd.int .i64) 3 w' w.heap.size (fun k_=>some k_≠(s_.2.1:Value).ownBlock∧some k_≠(s_.2.2.1:Value).ownBlock) s_.1 t178)∧(Kd.R (Kd.int .i64) 3 w' w.heap.size (fun k_=>some k_≠(s_.1:Value).ownBlock∧some k_≠(s_.2.2.1:Value).ownBlock) s_.2.1 t181)∧(Kd.R (Kd.int .i64) 3 w' w.heap.size (fun k_=>some k_≠(s_.1:Value).ownBlock∧some k_≠(s_.2.1:Value).ownBlock) s_.2.2.1 t184)∧(w'.heap[gb176]? = some (.cells #[.slice A0_0 l0_0.length c0_0,.slice A0_1 l0_1.length c0_1] 27 (0,0)))∧(w'.heap[gb177]? = some (.cells #[.slice none 0 0,.slice none 0 0] 27 (0,0)))∧(w'.heap[s_.2.2.2]? = some (.cells #[.slice none 0 0,.slice none 0 0] 27 (0,0)))∧(w.heap.size≤s_.2.2.2)∧(w.heap.size≤s_.2.2.2)∧(gb176≠s_.2.2.2)∧(s_.2.2.2≠gb176)∧(gb177≠s_.2.2.2)∧(s_.2.2.2≠gb177)∧(Below w.heap.size w w')) ?_ ?_
 rotate_left
 ·intro hCont
  refine two_ (i:=2) (j:=4) (Ni:=some 8) (Nj:=some 3) (bl_ 6 7) (bl_ 6 19) rfl rfl rfl rfl (by kernel_rfl) (by decide) (by decide) (fun K hK=>?_) (fun K hK=>?_)
  ·skip
   refine gO_ Tryz.func50 #[.agg #[.slice A0_0 l0_0.length c0_0,.slice A0_1 l0_1.length c0_1],.int .i64 0] (by rfl) rfl rfl qa_ ?_
   with_reducible refine (Z58.calls k _ _ l0_0 _ _ l0_1 0 t178 _ (cb_ HR0_0) HC0_0.out (cb_ HR0_1) HC0_1.out A2.out).mono ?_
   rintro e w7 ⟨v179,rfl,ho0,hb⟩
   refine ⟨_,rfl,?_⟩
   have HO180:=rl_ w ho0
   replace BK176:=bb_ BK176 hb
   replace BK177:=bb_ BK177 hb
   replace HB:=b1_ hb
   clear hb ho0
   obtain ⟨Ao8,co8,eo8⟩:=Kd.R_slice HO180.out
   (first | subst eo8 | (injection eo8 with f1_ f2_ f3_;have f4_:=f1_.symm;have f5_:=f3_.symm;clear f1_ f2_ f3_;subst f4_;subst f5_))
   refine hK.out _ _ ⟨cz0_ BK176,cz1_ BK176⟩ (fun hHeld=>?_)
   clear hK K
   refine no_ (some 8) ?_
   refine two_ (i:=3) (j:=4) (Ni:=some 9) (Nj:=some 3) (bl_ 6 15) (bl_ 6 23) rfl rfl rfl rfl (by kernel_rfl) (by decide) (by decide) (fun K hK=>?_) (fun K hK=>?_)
   ·skip
    refine gO_ Tryz.func49 #[.agg #[.slice A0_0 l0_0.length c0_0,.slice A0_1 l0_1.length c0_1],.slice Ao8 t178.length co8] (by rfl) rfl rfl qa_ ?_
    with_reducible refine (Z47.calls k _ _ l0_0 _ _ l0_1 _ _ t178 t181 t184 _ (cb_ HR0_0) HC0_0.out (cb_ HR0_1) HC0_1.out (cr_ HO180) ((Kd.R_reads' HO180.out).2.1) A3.out).mono ?_
    rintro e w9 ⟨v182,v185,rfl,ho0,ho1,hb⟩
    refine ⟨_,rfl,?_⟩
    have HO183:=A_ (rE_ (Kd.R_new' ho0 (Kd.R_lt (rr_ HO180))) (bF_ hB_))
    have HO186:=A_ (rE_ (Kd.R_new' ho1 (Kd.R_lt (rr_ HO180))) (bF_ hB_))
    replace HO180:=A_ (Kd.R_mono (Kd.R_told (Kd.R_told (Kd.R_old (rr_ HO180) hb) (Kd.R_base ho0)) (Kd.R_base ho1)) (fun _ h_=>h_.1))
    replace BK176:=bb_ BK176 hb
    replace BK177:=bb_ BK177 hb
    replace HB:=b1_ hb
    clear hb ho0 ho1
    refine hK.out _ _ ⟨cz0_ BK176,cz1_ BK176⟩ (fun hHeld=>?_)
    clear hK K
    refine no_ (some 9) ?_
    refine one_ (i:=4) (N:=some 3) (bl_ 6 31) rfl rfl (by kernel_rfl) (by decide) (fun K hK=>?_)
    refine box_step ?hg (N:=3) ?hd (cs:=#[.slice none 0 0,.slice none 0 0]) (t:=27) ?hr ?_;(case hd=>rfl);(case hg=>rfl);(case hr=>first | (go_simp;done) | (go_simp;rfl))
    intro gb187 hg w10 hbox hb
    replace HO180:=rb_ HO180 hb
    replace HO183:=rb_ HO183 hb
    replace HO186:=rb_ HO186 hb
    have BK187:=A_ hbox
    have GW187:=gw_ w hg
    have GE187:=GW187
    replace HB:=b1_ hb
    have NB176_187:=gN_ BK176 hg
    have NB187_176:=gP_ BK176 hg
    replace BK176:=bb_ BK176 hb
    have NB177_187:=gN_ BK177 hg
    have NB187_177:=gP_ BK177 hg
    replace BK177:=bb_ BK177 hb
    clear hb hbox hg
    refine hK.out _ _ ⟨cz0_ BK176,cz1_ BK176⟩ (fun hHeld=>?_)
    clear hK K
    refine no_ (some 3) ?_
    exact norm_ (by simp only [putAll,Act.put,sA_,sB_,sC_]) (hCont (.slice Ao8 t178.length co8,v182,v185,gb187) _ ⟨hHeld,(rw_ (Kd.R_mono HO180.out (fun _ hk=>⟨hk.1.2,hk.2⟩))),(rw_ (Kd.R_mono HO183.out (fun _ hk=>⟨hk.2,hk.1⟩))),(rw_ (Kd.R_mono HO186.out (fun _ hk=>⟨hk.2,hk.1⟩))),(kk_ BK176),(kk_ BK177),(kk_ BK187),GW187.out,GE187.out,NB176_187.out,NB187_176.out,NB177_187.out,NB187_177.out,hB_⟩)
   ·skip
    refine box_step ?hg (N:=3) ?hd (cs:=#[.slice none 0 0,.slice none 0 0]) (t:=27) ?hr ?_;(case hd=>rfl);(case hg=>rfl);(case hr=>first | (go_simp;done) | (go_simp;rfl))
    intro gb187 hg w8 hbox hb
    replace HO180:=rb_ HO180 hb
    have BK187:=A_ hbox
    have GW187:=gw_ w hg
    have GE187:=GW187
    replace HB:=b1_ hb
    have NB176_187:=gN_ BK176 hg
    have NB187_176:=gP_ BK176 hg
    replace BK176:=bb_ BK176 hb
    have NB177_187:=gN_ BK177 hg
    have NB187_177:=gP_ BK177 hg
    replace BK177:=bb_ BK177 hb
    clear hb hbox hg
    obtain ⟨Ao9,co9,eo9⟩:=Kd.R_slice HO180.out
    (first | subst eo9 | (injection eo9 with f1_ f2_ f3_;have f4_:=f1_.symm;have f5_:=f3_.symm;clear f1_ f2_ f3_;subst f4_;subst f5_))
    refine hK.out _ _ ⟨cz0_ BK176,cz1_ BK176⟩ (fun hHeld=>?_)
    clear hK K
    refine no_ (some 3) ?_
    refine one_ (i:=3) (N:=some 9) (bl_ 6 31) rfl rfl (by kernel_rfl) (by decide) (fun K hK=>?_)
    refine gO_ Tryz.func49 #[.agg #[.slice A0_0 l0_0.length c0_0,.slice A0_1 l0_1.length c0_1],.slice Ao9 t178.length co9] (by rfl) rfl rfl qa_ ?_
    with_reducible refine (Z47.calls k _ _ l0_0 _ _ l0_1 _ _ t178 t181 t184 _ (cb_ HR0_0) HC0_0.out (cb_ HR0_1) HC0_1.out (cr_ HO180) ((Kd.R_reads' HO180.out).2.1) A3.out).mono ?_
    rintro e w10 ⟨v182,v185,rfl,ho0,ho1,hb⟩
    refine ⟨_,rfl,?_⟩
    have HO183:=A_ (rE_ (Kd.R_new' ho0 (Kd.R_lt (rr_ HO180))) (bF_ hB_))
    have HO186:=A_ (rE_ (Kd.R_new' ho1 (Kd.R_lt (rr_ HO180))) (bF_ hB_))
    replace HO180:=A_ (Kd.R_mono (Kd.R_told (Kd.R_told (Kd.R_old (rr_ HO180) hb) (Kd.R_base ho0)) (Kd.R_base ho1)) (fun _ h_=>h_.1))
    replace BK176:=bb_ BK176 hb
    replace BK177:=bb_ BK177 hb
    replace BK187:=bb_ BK187 hb
    replace HB:=b1_ hb
    clear hb ho0 ho1
    refine hK.out _ _ ⟨cz0_ BK176,cz1_ BK176⟩ (fun hHeld=>?_)
    clear hK K
    refine no_ (some 9) ?_
    exact norm_ (by simp only [putAll,Act.put,sA_,sB_,sC_]) (hCont (.slice Ao9 t178.length co9,v182,v185,gb187) _ ⟨hHeld,(rw_ (Kd.R_mono HO180.out (fun _ hk=>⟨hk.1.2,hk.2⟩))),(rw_ (Kd.R_mono HO183.out (fun _ hk=>⟨hk.2,hk.1⟩))),(rw_ (Kd.R_mono HO186.out (fun _ hk=>⟨hk.2,hk.1⟩))),(kk_ BK176),(kk_ BK177),(kk_ BK187),GW187.out,GE187.out,NB176_187.out,NB187_176.out,NB177_187.out,NB187_177.out,hB_⟩)
  ·skip
   refine box_step ?hg (N:=3) ?hd (cs:=#[.slice none 0 0,.slice none 0 0]) (t:=27) ?hr ?_;(case hd=>rfl);(case hg=>rfl);(case hr=>first | (go_simp;done) | (go_simp;rfl))
   intro gb187 hg w7 hbox hb
   have BK187:=A_ hbox
   have GW187:=gw_ w hg
   have GE187:=GW187
   replace HB:=b1_ hb
   have NB176_187:=gN_ BK176 hg
   have NB187_176:=gP_ BK176 hg
   replace BK176:=bb_ BK176 hb
   have NB177_187:=gN_ BK177 hg
   have NB187_177:=gP_ BK177 hg
   replace BK177:=bb_ BK177 hb
   clear hb hbox hg
   refine hK.out _ _ ⟨cz0_ BK176,cz1_ BK176⟩ (fun hHeld=>?_)
   clear hK K
   refine no_ (some 3) ?_
   refine one_ (i:=2) (N:=some 8) (bl_ 6 23) rfl rfl (by kernel_rfl) (by decide) (fun K hK=>?_)
   refine gO_ Tryz.func50 #[.agg #[.slice A0_0 l0_0.length c0_0,.slice A0_1 l0_1.length c0_1],.int .i64 0] (by rfl) rfl rfl qa_ ?_
   with_reducible refine (Z58.calls k _ _ l0_0 _ _ l0_1 0 t178 _ (cb_ HR0_0) HC0_0.out (cb_ HR0_1) HC0_1.out A2.out).mono ?_
   rintro e w8 ⟨v179,rfl,ho0,hb⟩
   refine ⟨_,rfl,?_⟩
   have HO180:=rl_ w ho0
   replace BK176:=bb_ BK176 hb
   replace BK177:=bb_ BK177 hb
   replace BK187:=bb_ BK187 hb
   replace HB:=b1_ hb
   clear hb ho0
   obtain ⟨Ao9,co9,eo9⟩:=Kd.R_slice HO180.out
   (first | subst eo9 | (injection eo9 with f1_ f2_ f3_;have f4_:=f1_.symm;have f5_:=f3_.symm;clear f1_ f2_ f3_;subst f4_;subst f5_))
   refine hK.out _ _ ⟨cz0_ BK176,cz1_ BK176⟩ (fun hHeld=>?_)
   clear hK K
   refine no_ (some 8) ?_
   refine one_ (i:=3) (N:=some 9) (bl_ 6 31) rfl rfl (by kernel_rfl) (by decide) (fun K hK=>?_)
   refine gO_ Tryz.func49 #[.agg #[.slice A0_0 l0_0.length c0_0,.slice A0_1 l0_1.length c0_1],.slice Ao9 t178.length co9] (by rfl) rfl rfl qa_ ?_
   with_reducible refine (Z47.calls k _ _ l0_0 _ _ l0_1 _ _ t178 t181 t184 _ (cb_ HR0_0) HC0_0.out (cb_ HR0_1) HC0_1.out (cr_ HO180) ((Kd.R_reads' HO180.out).2.1) A3.out).mono ?_
   rintro e w10 ⟨v182,v185,rfl,ho0,ho1,hb⟩
   refine ⟨_,rfl,?_⟩
   have HO183:=A_ (rE_ (Kd.R_new' ho0 (Kd.R_lt (rr_ HO180))) (bF_ hB_))
   have HO186:=A_ (rE_ (Kd.R_new' ho1 (Kd.R_lt (rr_ HO180))) (bF_ hB_))
   replace HO180:=A_ (Kd.R_mono (Kd.R_told (Kd.R_told (Kd.R_old (rr_ HO180) hb) (Kd.R_base ho0)) (Kd.R_base ho1)) (fun _ h_=>h_.1))
   replace BK176:=bb_ BK176 hb
   replace BK177:=bb_ BK177 hb
   replace BK187:=bb_ BK187 hb
   replace HB:=b1_ hb
   clear hb ho0 ho1
   refine hK.out _ _ ⟨cz0_ BK176,cz1_ BK176⟩ (fun hHeld=>?_)
   clear hK K
   refine no_ (some 9) ?_
   exact norm_ (by simp only [putAll,Act.put,sA_,sB_,sC_]) (hCont (.slice Ao9 t178.length co9,v182,v185,gb187) _ ⟨hHeld,(rw_ (Kd.R_mono HO180.out (fun _ hk=>⟨hk.1.2,hk.2⟩))),(rw_ (Kd.R_mono HO183.out (fun _ hk=>⟨hk.2,hk.1⟩))),(rw_ (Kd.R_mono HO186.out (fun _ hk=>⟨hk.2,hk.1⟩))),(kk_ BK176),(kk_ BK177),(kk_ BK187),GW187.out,GE187.out,NB176_187.out,NB187_176.out,NB177_187.out,NB187_177.out,hB_⟩)
 rintro ⟨v179,v182,v185,gb187⟩ w11 ⟨hS_,h0_,h1_,h2_,h3_,h4_,h5_,h6_,h7_,h8_,h9_,h10_,h11_,h12_⟩
 have n0_:Aside0 (Kd.R (Kd.int .i64) 3 w11 w.heap.size (fun k_=>some k_≠(v182:Value).ownBlock∧some k_≠(v185:Value).ownBlock) v179 t178):=⟨h0_⟩
 have n1_:Aside0 (Kd.R (Kd.int .i64) 3 w11 w.heap.size (fun k_=>some k_≠(v179:Value).ownBlock∧some k_≠(v185:Value).ownBlock) v182 t181):=⟨h1_⟩
 have n2_:Aside0 (Kd.R (Kd.int .i64) 3 w11 w.heap.size (fun k_=>some k_≠(v179:Value).ownBlock∧some k_≠(v182:Value).ownBlock) v185 t184):=⟨h2_⟩
 have n3_:Aside0 (w11.heap[gb176]? = some (.cells #[.slice A0_0 l0_0.length c0_0,.slice A0_1 l0_1.length c0_1] 27 (0,0))):=⟨h3_⟩
 have n4_:Aside0 (w11.heap[gb177]? = some (.cells #[.slice none 0 0,.slice none 0 0] 27 (0,0))):=⟨h4_⟩
 have n5_:Aside0 (w11.heap[gb187]? = some (.cells #[.slice none 0 0,.slice none 0 0] 27 (0,0))):=⟨h5_⟩
 have n6_:Aside0 (w.heap.size≤gb187):=⟨h6_⟩
 have n7_:Aside0 (w.heap.size≤gb187):=⟨h7_⟩
 have n8_:Aside0 (gb176≠gb187):=⟨h8_⟩
 have n9_:Aside0 (gb187≠gb176):=⟨h9_⟩
 have n10_:Aside0 (gb177≠gb187):=⟨h10_⟩
 have n11_:Aside0 (gb187≠gb177):=⟨h11_⟩
 have n12_:Aside0 (Below w.heap.size w w11):=⟨h12_⟩
 clear BK176
 clear BK177
 clear HB
 clear h0_ h1_ h2_ h3_ h4_ h5_ h6_ h7_ h8_ h9_ h10_ h11_ h12_
 have HO180:=n0_
 have HO183:=n1_
 have HO186:=n2_
 have BK176:=n3_
 have BK177:=n4_
 have BK187:=n5_
 have GW187:=n6_
 have GE187:=n7_
 have NB176_187:=n8_
 have NB187_176:=n9_
 have NB177_187:=n10_
 have NB187_177:=n11_
 have HB:=n12_
 clear n0_ n1_ n2_ n3_ n4_ n5_ n6_ n7_ n8_ n9_ n10_ n11_ n12_
 have hHeld:w11.cell? ⟨gb176,0,none⟩ = some (.slice A0_0 l0_0.length c0_0)∧w11.cell? ⟨gb176,1,none⟩ = some (.slice A0_1 l0_1.length c0_1):=hS_
 obtain ⟨Ao12,co12,eo12⟩:=Kd.R_slice HO183.out
 (first | subst eo12 | (injection eo12 with f1_ f2_ f3_;have f4_:=f1_.symm;have f5_:=f3_.symm;clear f1_ f2_ f3_;subst f4_;subst f5_))
 obtain ⟨Ao14,co14,eo14⟩:=Kd.R_slice HO186.out
 (first | subst eo14 | (injection eo14 with f1_ f2_ f3_;have f4_:=f1_.symm;have f5_:=f3_.symm;clear f1_ f2_ f3_;subst f4_;subst f5_))
 refine norm_ (a':=?_) ?_ ?_
 rotate_left
 ·simp only [putAll,Act.put,sA_,sB_,sC_]
  rfl
 refine one_ (i:=5) (N:=none) (bl_ 6 63) rfl rfl (by kernel_rfl) (by decide) (fun K hK=>?_)
 have hs13:w11.cell? ⟨gb187,0,none⟩ = some (.slice none 0 0):=cz0_ BK187
 have hfs13:=kD_ BK187.out 0
 have hns13_0:=NB176_187.out
 have hns13_1:=NB177_187.out
 have hms13_0:=NB187_176.out
 have hms13_1:=NB187_177.out
 have hs15:w11.cell? ⟨gb187,1,none⟩ = some (.slice none 0 0):=cz1_ BK187
 have hfs15:=kD_ BK187.out 1
 have hns15_0:=NB176_187.out
 have hns15_1:=NB177_187.out
 have hms15_0:=NB187_176.out
 have hms15_1:=NB187_177.out
 refine skip_ (w1:=?_) (by rfl) rfl ?_ ?_
 rotate_left
 ·go_simp
  rfl
 refine hK.out _ _ ⟨((cell_far (p:=⟨gb187,_,none⟩) NB176_187.out _).trans (((cell_far (p:=⟨gb187,_,none⟩) NB176_187.out _).trans (hHeld.1)))),((cell_far (p:=⟨gb187,_,none⟩) NB176_187.out _).trans (((cell_far (p:=⟨gb187,_,none⟩) NB176_187.out _).trans (hHeld.2))))⟩ (fun hHeld=>?_)
 clear hK K
 refine done_ (by kernel_rfl) ?_
 try go_wp2
 go_loopg [4] k (fun kq v4 w'=>∃ (x4_1:Int) (x188000_1:List Int) (x188001_1:List Int) (u188000:Value) (u188001:Value),v4 = .int .i64 x4_1∧Aside0 (Z57.l0 kq x4_1 l0_0 l0_1 x188000_1 x188001_1 = some (r1,r2))∧Aside0 (kq≤k)∧Aside0 (Kd.R (Kd.int .i64) 3 w' w.heap.size (fun k_=>some k_≠(u188001:Value).ownBlock) u188000 x188000_1)∧Aside0 (Kd.R (Kd.int .i64) 3 w' w.heap.size (fun k_=>some k_≠(u188000:Value).ownBlock) u188001 x188001_1)∧Aside0 (w'.heap[gb176]? = some (.cells #[(.slice A0_0 l0_0.length c0_0),(.slice A0_1 l0_1.length c0_1)] 27 (0,0)))∧Aside0 (w'.heap[gb177]? = some (.cells #[(.slice none 0 0),(.slice none 0 0)] 27 (0,0)))∧Aside0 (w'.heap[gb187]? = some (.cells #[u188000,u188001] 27 (0,0)))∧Aside0 (Below w.heap.size w w'))
 case atStart=>exact ⟨(1),(t181),(t184),(.slice Ao12 t181.length co12),(.slice Ao14 t184.length co14),qc_,H',⟨nA_ _⟩,⟨(rw_ (Kd.R_mono (fa_ HO183 BK187) (fun _ hk=>hk.2)))⟩,⟨(rw_ (Kd.R_mono (fa_ HO186 BK187) (fun _ hk=>hk.2)))⟩,⟨by (with_reducible repeat (first | refine kA_ ?_ _ | refine kB_ ?_ | refine kC_ ?_ _));refine blk_far ?_ NB176_187.out _;(with_reducible repeat (first | refine kA_ ?_ _ | refine kB_ ?_ | refine kC_ ?_ _));refine blk_far ?_ NB176_187.out _;(with_reducible repeat (first | refine kA_ ?_ _ | refine kB_ ?_ | refine kC_ ?_ _));exact BK176.out⟩,⟨by (with_reducible repeat (first | refine kA_ ?_ _ | refine kB_ ?_ | refine kC_ ?_ _));refine blk_far ?_ NB177_187.out _;(with_reducible repeat (first | refine kA_ ?_ _ | refine kB_ ?_ | refine kC_ ?_ _));refine blk_far ?_ NB177_187.out _;(with_reducible repeat (first | refine kA_ ?_ _ | refine kB_ ?_ | refine kC_ ?_ _));exact BK177.out⟩,⟨qp_⟩,⟨hB_⟩⟩
 case round =>
  clear H'
  obtain ⟨x4_1,x188000_1,x188001_1,u188000,u188001,rfl,HA,HK1,HO_188000,HO_188001,BK176,BK177,BK187,HB⟩:=hrel
  cases gk with
  | zero=>exact absurd HA.out (by simp [Z57.l0])
  | succ k1 =>
   have H:=HA.out
   clear HA
   simp only [Z57.l0] at H
   by_cases c16:x4_1 < (l0_0.length:Int)
   ·rw [if_pos c16] at H
    have c16b0:=oC_ c16
    clear c16
    obtain ⟨t188,A17,H⟩:=bi_ H
    obtain ⟨⟨t191,t194⟩,A18,H⟩:=bi_ H
    try dsimp only at H
    obtain ⟨t198,A19,H⟩:=bi_ H
    by_cases c20:t198 = true
    ·subst c20
     rw [if_pos rfl] at H
     have H':=A_ H
     clear H
     have hnb21:=NB176_177.out
     have hnc21:=NB177_176.out
     have hnb22:=NB176_187.out
     have hnc22:=NB187_176.out
     obtain ⟨hcz23_0,hcz23_1,hfz23_0,hfz23_1⟩:=c2_ BK176
     try go_wp2
     replace HO_188000:=A_ (rC_ HO_188000.out)
     replace HO_188001:=A_ (rC_ HO_188001.out)
     replace BK176:=A_ (kB_ BK176.out)
     replace BK177:=A_ (kB_ BK177.out)
     replace BK187:=A_ (kB_ BK187.out)
     replace HB:=A_ (bC_ HB.out)
     refine start_ (n:=7) (S:=fun w'=>w'.cell? ⟨gb176,0,none⟩ = some (.slice A0_0 l0_0.length c0_0)∧w'.cell? ⟨gb176,1,none⟩ = some (.slice A0_1 l0_1.length c0_1)) (ds:=[]) (bl_ 7 0) (by kernel_rfl) rfl (by kernel_rfl) ⟨cz0_ BK176,cz1_ BK176⟩ (fun hHeld=>?_)
     generalize wr.drew = w24 at HO_188000 HO_188001 BK176 BK177 BK187 HB hHeld ⊢
     refine pure_ (i:=2) (N:=some 19) (v:=?_) (a':=?_) (bl_ 7 4) rfl rfl (by kernel_rfl) (fun _ _ _ h=>h) (Or.inl ⟨by rfl,?_⟩) ?_ ?_
     rotate_left
     ·intro w'
      go_simp
      with_reducible rfl
     rotate_left
     ·simp only [Act.put,sA_,sB_,sC_,i64_w,i32_w]
      rfl
     refine take_ (i:=0) (N:=some 17) (v:=?_) (a':=?_) (bl_ 7 5) rfl rfl (by kernel_rfl) (fun _ _ _ h=>h) (Or.inl ⟨by rfl,?_⟩) hHeld ?_ ?_
     rotate_left
     ·rintro w' ⟨s0,s1⟩
      go_simp
      with_reducible rfl
     rotate_left
     ·simp only [Act.put,sA_,sB_,sC_,i64_w,i32_w]
      rfl
     refine take_ (i:=1) (N:=some 18) (v:=?_) (a':=?_) (bl_ 7 7) rfl rfl (by kernel_rfl) (fun _ _ _ h=>h) (Or.inl ⟨by rfl,?_⟩) hHeld ?_ ?_
     rotate_left
     ·rintro w' ⟨s0,s1⟩
      go_simp
      with_reducible rfl
     rotate_left
     ·simp only [Act.put,sA_,sB_,sC_,i64_w,i32_w]
      rfl
     refine join_ (σ:=Value × Value × Value × Nat) 1 (bl_ 7 63) (fun s_=>[(20,s_.1),(21,.agg #[s_.2.1,s_.2.2.1]),(5,.pointer (some ⟨s_.2.2.2,0,none⟩))]) (fun s_ w'=>(w'.cell? ⟨gb176,0,none⟩ = some (.slice A0_0 l0_0.length c0_0)∧w'.cell? ⟨gb176,1,none⟩ = some (.slice A0_1 l0_1.length c0_1))∧(Kd.R (Kd.int .i64) 3 w' w.heap.size (fun k_=>some k_≠(s_.2.1:Value).ownBlock∧some k_≠(s_.2.2.1:Value).ownBlock∧some k_≠(u188000:Value).ownBlock∧some k_≠(u188001:Value).ownBlock) s_.1 t188)∧(Kd.R (Kd.int .i64) 3 w' w.heap.size (fun k_=>some k_≠(s_.1:Value).ownBlock∧some k_≠(s_.2.2.1:Value).ownBlock∧some k_≠(u188000:Value).ownBlock∧some k_≠(u188001:Value).ownBlock) s_.2.1 t191)∧(Kd.R (Kd.int .i64) 3 w' w.heap.size (fun k_=>some k_≠(s_.1:Value).ownBlock∧some k_≠(s_.2.1:Value).ownBlock∧some k_≠(u188000:Value).ownBlock∧some k_≠(u188001:Value).ownBlock) s_.2.2.1 t194)∧(Kd.R (Kd.int .i64) 3 w' w.heap.size (fun k_=>some k_≠(s_.1:Value).ownBlock∧some k_≠(s_.2.1:Value).ownBlock∧some k_≠(s_.2.2.1:Value).ownBlock∧some k_≠(u188001:Value).ownBlock) u188000 x188000_1)∧(Kd.R (Kd.int .i64) 3 w' w.heap.size (fun k_=>some k_≠(s_.1:Value).ownBlock∧some k_≠(s_.2.1:Value).ownBlock∧some k_≠(s_.2.2.1:Value).ownBlock∧some k_≠(u188000:Value).ownBlock) u188001 x188001_1)∧(w'.heap[gb176]? = some (.cells #[.slice A0_0 l0_0.length c0_0,.slice A0_1 l0_1.length c0_1] 27 (0,0)))∧(w'.heap[gb177]? = some (.cells #[.slice none 0 0,.slice none 0 0] 27 (0,0)))∧(w'.heap[gb187]? = some (.cells #[u188000,u188001] 27 (0,0)))∧(w'.heap[s_.2.2.2]? = some (.cells #[.slice none 0 0,.slice none 0 0] 27 (0,0)))∧(w.heap.size≤s_.2.2.2)∧(w.heap.size≤s_.2.2.2)∧(gb176≠s_.2.2.2)∧(s_.2.2.2≠gb176)∧(gb177≠s_.2.2.2)∧(s_.2.2.2≠gb177)∧(gb187≠s_.2.2.2)∧(s_.2.2.2≠gb187)∧(Below w.heap.size w w')) ?_ ?_
     rotate_left
     ·intro hCont
      refine two_ (i:=3) (j:=5) (Ni:=some 20) (Nj:=some 5) (bl_ 7 15) (bl_ 7 39) rfl rfl rfl rfl (by kernel_rfl) (by decide) (by decide) (fun K hK=>?_) (fun K hK=>?_)
      ·skip
       refine gO_ Tryz.func50 #[.agg #[.slice A0_0 l0_0.length c0_0,.slice A0_1 l0_1.length c0_1],.int .i64 x4_1] (by rfl) rfl rfl qa_ ?_
       with_reducible refine (Z58.calls k1 _ _ l0_0 _ _ l0_1 x4_1 t188 _ (cb_ HR0_0) HC0_0.out (cb_ HR0_1) HC0_1.out A17.out).mono ?_
       rintro e w25 ⟨v189,rfl,ho0,hb⟩
       refine ⟨_,rfl,?_⟩
       have HO190:=A_ (rE_ (Kd.R_new' (Kd.R_new' ho0 (Kd.R_lt (rr_ HO_188000))) (Kd.R_lt (rr_ HO_188001))) (bF_ hB_))
       replace HO_188000:=A_ (Kd.R_elder' (rr_ HO_188000) (Kd.R_base ho0) hb)
       replace HO_188001:=A_ (Kd.R_elder' (rr_ HO_188001) (Kd.R_base ho0) hb)
       replace BK176:=bb_ BK176 hb
       replace BK177:=bb_ BK177 hb
       replace BK187:=bb_ BK187 hb
       replace HB:=b1_ hb
       clear hb ho0
       obtain ⟨Ao26,co26,eo26⟩:=Kd.R_slice HO190.out
       (first | subst eo26 | (injection eo26 with f1_ f2_ f3_;have f4_:=f1_.symm;have f5_:=f3_.symm;clear f1_ f2_ f3_;subst f4_;subst f5_))
       refine hK.out _ _ ⟨cz0_ BK176,cz1_ BK176⟩ (fun hHeld=>?_)
       clear hK K
       refine no_ (some 20) ?_
       refine two_ (i:=4) (j:=5) (Ni:=some 21) (Nj:=some 5) (bl_ 7 31) (bl_ 7 47) rfl rfl rfl rfl (by kernel_rfl) (by decide) (by decide) (fun K hK=>?_) (fun K hK=>?_)
       ·skip
        refine gO_ Tryz.func49 #[.agg #[.slice A0_0 l0_0.length c0_0,.slice A0_1 l0_1.length c0_1],.slice Ao26 t188.length co26] (by rfl) rfl rfl qa_ ?_
        with_reducible refine (Z47.calls k1 _ _ l0_0 _ _ l0_1 _ _ t188 t191 t194 _ (cb_ HR0_0) HC0_0.out (cb_ HR0_1) HC0_1.out (cr_ HO190) ((Kd.R_reads' HO190.out).2.1) A18.out).mono ?_
        rintro e w27 ⟨v192,v195,rfl,ho0,ho1,hb⟩
        refine ⟨_,rfl,?_⟩
        have HO193:=A_ (rE_ (Kd.R_new' (Kd.R_new' (Kd.R_new' ho0 (Kd.R_lt (rr_ HO_188000))) (Kd.R_lt (rr_ HO_188001))) (Kd.R_lt (rr_ HO190))) (bF_ hB_))
        have HO196:=A_ (rE_ (Kd.R_new' (Kd.R_new' (Kd.R_new' ho1 (Kd.R_lt (rr_ HO_188000))) (Kd.R_lt (rr_ HO_188001))) (Kd.R_lt (rr_ HO190))) (bF_ hB_))
        replace HO_188000:=A_ (Kd.R_mono (Kd.R_told (Kd.R_told (Kd.R_old (rr_ HO_188000) hb) (Kd.R_base ho0)) (Kd.R_base ho1)) (fun _ h_=>h_.1))
        replace HO_188001:=A_ (Kd.R_mono (Kd.R_told (Kd.R_told (Kd.R_old (rr_ HO_188001) hb) (Kd.R_base ho0)) (Kd.R_base ho1)) (fun _ h_=>h_.1))
        replace HO190:=A_ (Kd.R_mono (Kd.R_told (Kd.R_told (Kd.R_old (rr_ HO190) hb) (Kd.R_base ho0)) (Kd.R_base ho1)) (fun _ h_=>h_.1))
        replace BK176:=bb_ BK176 hb
        replace BK177:=bb_ BK177 hb
        replace BK187:=bb_ BK187 hb
        replace HB:=b1_ hb
        clear hb ho0 ho1
        refine hK.out _ _ ⟨cz0_ BK176,cz1_ BK176⟩ (fun hHeld=>?_)
        clear hK K
        refine no_ (some 21) ?_
        refine one_ (i:=5) (N:=some 5) (bl_ 7 63) rfl rfl (by kernel_rfl) (by decide) (fun K hK=>?_)
        refine box_step ?hg (N:=5) ?hd (cs:=#[.slice none 0 0,.slice none 0 0]) (t:=27) ?hr ?_;(case hd=>rfl);(case hg=>rfl);(case hr=>first | (go_simp;done) | (go_simp;rfl))
        intro gb197 hg w28 hbox hb
        replace HO_188000:=rb_ HO_188000 hb
        replace HO_188001:=rb_ HO_188001 hb
        replace HO190:=rb_ HO190 hb
        replace HO193:=rb_ HO193 hb
        replace HO196:=rb_ HO196 hb
        have BK197:=A_ hbox
        have GW197:=gw_ w hg
        have GE197:=GW197
        replace HB:=b1_ hb
        have NB176_197:=gN_ BK176 hg
        have NB197_176:=gP_ BK176 hg
        replace BK176:=bb_ BK176 hb
        have NB177_197:=gN_ BK177 hg
        have NB197_177:=gP_ BK177 hg
        replace BK177:=bb_ BK177 hb
        have NB187_197:=gN_ BK187 hg
        have NB197_187:=gP_ BK187 hg
        replace BK187:=bb_ BK187 hb
        clear hb hbox hg
        refine hK.out _ _ ⟨cz0_ BK176,cz1_ BK176⟩ (fun hHeld=>?_)
        clear hK K
        refine no_ (some 5) ?_
        exact norm_ (by simp only [putAll,Act.put,sA_,sB_,sC_]) (hCont (.slice Ao26 t188.length co26,v192,v195,gb197) _ ⟨hHeld,(rw_ (Kd.R_mono HO190.out (fun _ hk=>⟨hk.1.2,⟨hk.2,⟨hk.1.1.1.2,hk.1.1.2⟩⟩⟩))),(rw_ (Kd.R_mono HO193.out (fun _ hk=>⟨hk.2,⟨hk.1.1.1,⟨hk.1.1.2,hk.1.2⟩⟩⟩))),(rw_ (Kd.R_mono HO196.out (fun _ hk=>⟨hk.2,⟨hk.1.1.1,⟨hk.1.1.2,hk.1.2⟩⟩⟩))),(rw_ (Kd.R_mono HO_188000.out (fun _ hk=>⟨hk.1.1.2,⟨hk.1.2,⟨hk.2,hk.1.1.1⟩⟩⟩))),(rw_ (Kd.R_mono HO_188001.out (fun _ hk=>⟨hk.1.1.2,⟨hk.1.2,⟨hk.2,hk.1.1.1⟩⟩⟩))),(kk_ BK176),(kk_ BK177),(kk_ BK187),(kk_ BK197),GW197.out,GE197.out,NB176_197.out,NB197_176.out,NB177_197.out,NB197_177.out,NB187_197.out,NB197_187.out,hB_⟩)
       ·skip
        refine box_step ?hg (N:=5) ?hd (cs:=#[.slice none 0 0,.slice none 0 0]) (t:=27) ?hr ?_;(case hd=>rfl);(case hg=>rfl);(case hr=>first | (go_simp;done) | (go_simp;rfl))
        intro gb197 hg w26 hbox hb
        replace HO_188000:=rb_ HO_188000 hb
        replace HO_188001:=rb_ HO_188001 hb
        replace HO190:=rb_ HO190 hb
        have BK197:=A_ hbox
        have GW197:=gw_ w hg
        have GE197:=GW197
        replace HB:=b1_ hb
        have NB176_197:=gN_ BK176 hg
        have NB197_176:=gP_ BK176 hg
        replace BK176:=bb_ BK176 hb
        have NB177_197:=gN_ BK177 hg
        have NB197_177:=gP_ BK177 hg
        replace BK177:=bb_ BK177 hb
        have NB187_197:=gN_ BK187 hg
        have NB197_187:=gP_ BK187 hg
        replace BK187:=bb_ BK187 hb
        clear hb hbox hg
        obtain ⟨Ao27,co27,eo27⟩:=Kd.R_slice HO190.out
        (first | subst eo27 | (injection eo27 with f1_ f2_ f3_;have f4_:=f1_.symm;have f5_:=f3_.symm;clear f1_ f2_ f3_;subst f4_;subst f5_))
        refine hK.out _ _ ⟨cz0_ BK176,cz1_ BK176⟩ (fun hHeld=>?_)
        clear hK K
        refine no_ (some 5) ?_
        refine one_ (i:=4) (N:=some 21) (bl_ 7 63) rfl rfl (by kernel_rfl) (by decide) (fun K hK=>?_)
        refine gO_ Tryz.func49 #[.agg #[.slice A0_0 l0_0.length c0_0,.slice A0_1 l0_1.length c0_1],.slice Ao27 t188.length co27] (by rfl) rfl rfl qa_ ?_
        with_reducible refine (Z47.calls k1 _ _ l0_0 _ _ l0_1 _ _ t188 t191 t194 _ (cb_ HR0_0) HC0_0.out (cb_ HR0_1) HC0_1.out (cr_ HO190) ((Kd.R_reads' HO190.out).2.1) A18.out).mono ?_
        rintro e w28 ⟨v192,v195,rfl,ho0,ho1,hb⟩
        refine ⟨_,rfl,?_⟩
        have HO193:=A_ (rE_ (Kd.R_new' (Kd.R_new' (Kd.R_new' ho0 (Kd.R_lt (rr_ HO_188000))) (Kd.R_lt (rr_ HO_188001))) (Kd.R_lt (rr_ HO190))) (bF_ hB_))
        have HO196:=A_ (rE_ (Kd.R_new' (Kd.R_new' (Kd.R_new' ho1 (Kd.R_lt (rr_ HO_188000))) (Kd.R_lt (rr_ HO_188001))) (Kd.R_lt (rr_ HO190))) (bF_ hB_))
        replace HO_188000:=A_ (Kd.R_mono (Kd.R_told (Kd.R_told (Kd.R_old (rr_ HO_188000) hb) (Kd.R_base ho0)) (Kd.R_base ho1)) (fun _ h_=>h_.1))
        replace HO_188001:=A_ (Kd.R_mono (Kd.R_told (Kd.R_told (Kd.R_old (rr_ HO_188001) hb) (Kd.R_base ho0)) (Kd.R_base ho1)) (fun _ h_=>h_.1))
        replace HO190:=A_ (Kd.R_mono (Kd.R_told (Kd.R_told (Kd.R_old (rr_ HO190) hb) (Kd.R_base ho0)) (Kd.R_base ho1)) (fun _ h_=>h_.1))
        replace BK176:=bb_ BK176 hb
        replace BK177:=bb_ BK177 hb
        replace BK187:=bb_ BK187 hb
        replace BK197:=bb_ BK197 hb
        replace HB:=b1_ hb
        clear hb ho0 ho1
        refine hK.out _ _ ⟨cz0_ BK176,cz1_ BK176⟩ (fun hHeld=>?_)
        clear hK K
        refine no_ (some 21) ?_
        exact norm_ (by simp only [putAll,Act.put,sA_,sB_,sC_]) (hCont (.slice Ao27 t188.length co27,v192,v195,gb197) _ ⟨hHeld,(rw_ (Kd.R_mono HO190.out (fun _ hk=>⟨hk.1.2,⟨hk.2,⟨hk.1.1.1.2,hk.1.1.2⟩⟩⟩))),(rw_ (Kd.R_mono HO193.out (fun _ hk=>⟨hk.2,⟨hk.1.1.1,⟨hk.1.1.2,hk.1.2⟩⟩⟩))),(rw_ (Kd.R_mono HO196.out (fun _ hk=>⟨hk.2,⟨hk.1.1.1,⟨hk.1.1.2,hk.1.2⟩⟩⟩))),(rw_ (Kd.R_mono HO_188000.out (fun _ hk=>⟨hk.1.1.2,⟨hk.1.2,⟨hk.2,hk.1.1.1⟩⟩⟩))),(rw_ (Kd.R_mono HO_188001.out (fun _ hk=>⟨hk.1.1.2,⟨hk.1.2,⟨hk.2,hk.1.1.1⟩⟩⟩))),(kk_ BK176),(kk_ BK177),(kk_ BK187),(kk_ BK197),GW197.out,GE197.out,NB176_197.out,NB197_176.out,NB177_197.out,NB197_177.out,NB187_197.out,NB197_187.out,hB_⟩)
      ·skip
       refine box_step ?hg (N:=5) ?hd (cs:=#[.slice none 0 0,.slice none 0 0]) (t:=27) ?hr ?_;(case hd=>rfl);(case hg=>rfl);(case hr=>first | (go_simp;done) | (go_simp;rfl))
       intro gb197 hg w25 hbox hb
       replace HO_188000:=rb_ HO_188000 hb
       replace HO_188001:=rb_ HO_188001 hb
       have BK197:=A_ hbox
       have GW197:=gw_ w hg
       have GE197:=GW197
       replace HB:=b1_ hb
       have NB176_197:=gN_ BK176 hg
       have NB197_176:=gP_ BK176 hg
       replace BK176:=bb_ BK176 hb
       have NB177_197:=gN_ BK177 hg
       have NB197_177:=gP_ BK177 hg
       replace BK177:=bb_ BK177 hb
       have NB187_197:=gN_ BK187 hg
       have NB197_187:=gP_ BK187 hg
       replace BK187:=bb_ BK187 hb
       clear hb hbox hg
       refine hK.out _ _ ⟨cz0_ BK176,cz1_ BK176⟩ (fun hHeld=>?_)
       clear hK K
       refine no_ (some 5) ?_
       refine one_ (i:=3) (N:=some 20) (bl_ 7 47) rfl rfl (by kernel_rfl) (by decide) (fun K hK=>?_)
       refine gO_ Tryz.func50 #[.agg #[.slice A0_0 l0_0.length c0_0,.slice A0_1 l0_1.length c0_1],.int .i64 x4_1] (by rfl) rfl rfl qa_ ?_
       with_reducible refine (Z58.calls k1 _ _ l0_0 _ _ l0_1 x4_1 t188 _ (cb_ HR0_0) HC0_0.out (cb_ HR0_1) HC0_1.out A17.out).mono ?_
       rintro e w26 ⟨v189,rfl,ho0,hb⟩
       refine ⟨_,rfl,?_⟩
       have HO190:=A_ (rE_ (Kd.R_new' (Kd.R_new' ho0 (Kd.R_lt (rr_ HO_188000))) (Kd.R_lt (rr_ HO_188001))) (bF_ hB_))
       replace HO_188000:=A_ (Kd.R_elder' (rr_ HO_188000) (Kd.R_base ho0) hb)
       replace HO_188001:=A_ (Kd.R_elder' (rr_ HO_188001) (Kd.R_base ho0) hb)
       replace BK176:=bb_ BK176 hb
       replace BK177:=bb_ BK177 hb
       replace BK187:=bb_ BK187 hb
       replace BK197:=bb_ BK197 hb
       replace HB:=b1_ hb
       clear hb ho0
       obtain ⟨Ao27,co27,eo27⟩:=Kd.R_slice HO190.out
       (first | subst eo27 | (injection eo27 with f1_ f2_ f3_;have f4_:=f1_.symm;have f5_:=f3_.symm;clear f1_ f2_ f3_;subst f4_;subst f5_))
       refine hK.out _ _ ⟨cz0_ BK176,cz1_ BK176⟩ (fun hHeld=>?_)
       clear hK K
       refine no_ (some 20) ?_
       refine one_ (i:=4) (N:=some 21) (bl_ 7 63) rfl rfl (by kernel_rfl) (by decide) (fun K hK=>?_)
       refine gO_ Tryz.func49 #[.agg #[.slice A0_0 l0_0.length c0_0,.slice A0_1 l0_1.length c0_1],.slice Ao27 t188.length co27] (by rfl) rfl rfl qa_ ?_
       with_reducible refine (Z47.calls k1 _ _ l0_0 _ _ l0_1 _ _ t188 t191 t194 _ (cb_ HR0_0) HC0_0.out (cb_ HR0_1) HC0_1.out (cr_ HO190) ((Kd.R_reads' HO190.out).2.1) A18.out).mono ?_
       rintro e w28 ⟨v192,v195,rfl,ho0,ho1,hb⟩
       refine ⟨_,rfl,?_⟩
       have HO193:=A_ (rE_ (Kd.R_new' (Kd.R_new' (Kd.R_new' ho0 (Kd.R_lt (rr_ HO_188000))) (Kd.R_lt (rr_ HO_188001))) (Kd.R_lt (rr_ HO190))) (bF_ hB_))
       have HO196:=A_ (rE_ (Kd.R_new' (Kd.R_new' (Kd.R_new' ho1 (Kd.R_lt (rr_ HO_188000))) (Kd.R_lt (rr_ HO_188001))) (Kd.R_lt (rr_ HO190))) (bF_ hB_))
       replace HO_188000:=A_ (Kd.R_mono (Kd.R_told (Kd.R_told (Kd.R_old (rr_ HO_188000) hb) (Kd.R_base ho0)) (Kd.R_base ho1)) (fun _ h_=>h_.1))
       replace HO_188001:=A_ (Kd.R_mono (Kd.R_told (Kd.R_told (Kd.R_old (rr_ HO_188001) hb) (Kd.R_base ho0)) (Kd.R_base ho1)) (fun _ h_=>h_.1))
       replace HO190:=A_ (Kd.R_mono (Kd.R_told (Kd.R_told (Kd.R_old (rr_ HO190) hb) (Kd.R_base ho0)) (Kd.R_base ho1)) (fun _ h_=>h_.1))
       replace BK176:=bb_ BK176 hb
       replace BK177:=bb_ BK177 hb
       replace BK187:=bb_ BK187 hb
       replace BK197:=bb_ BK197 hb
       replace HB:=b1_ hb
       clear hb ho0 ho1
       refine hK.out _ _ ⟨cz0_ BK176,cz1_ BK176⟩ (fun hHeld=>?_)
       clear hK K
       refine no_ (some 21) ?_
       exact norm_ (by simp only [putAll,Act.put,sA_,sB_,sC_]) (hCont (.slice Ao27 t188.length co27,v192,v195,gb197) _ ⟨hHeld,(rw_ (Kd.R_mono HO190.out (fun _ hk=>⟨hk.1.2,⟨hk.2,⟨hk.1.1.1.2,hk.1.1.2⟩⟩⟩))),(rw_ (Kd.R_mono HO193.out (fun _ hk=>⟨hk.2,⟨hk.1.1.1,⟨hk.1.1.2,hk.1.2⟩⟩⟩))),(rw_ (Kd.R_mono HO196.out (fun _ hk=>⟨hk.2,⟨hk.1.1.1,⟨hk.1.1.2,hk.1.2⟩⟩⟩))),(rw_ (Kd.R_mono HO_188000.out (fun _ hk=>⟨hk.1.1.2,⟨hk.1.2,⟨hk.2,hk.1.1.1⟩⟩⟩))),(rw_ (Kd.R_mono HO_188001.out (fun _ hk=>⟨hk.1.1.2,⟨hk.1.2,⟨hk.2,hk.1.1.1⟩⟩⟩))),(kk_ BK176),(kk_ BK177),(kk_ BK187),(kk_ BK197),GW197.out,GE197.out,NB176_197.out,NB197_176.out,NB177_197.out,NB197_177.out,NB187_197.out,NB197_187.out,hB_⟩)
     rintro ⟨v189,v192,v195,gb197⟩ w29 ⟨hS_,h0_,h1_,h2_,h3_,h4_,h5_,h6_,h7_,h8_,h9_,h10_,h11_,h12_,h13_,h14_,h15_,h16_,h17_⟩
     have n0_:Aside0 (Kd.R (Kd.int .i64) 3 w29 w.heap.size (fun k_=>some k_≠(v192:Value).ownBlock∧some k_≠(v195:Value).ownBlock∧some k_≠(u188000:Value).ownBlock∧some k_≠(u188001:Value).ownBlock) v189 t188):=⟨h0_⟩
     have n1_:Aside0 (Kd.R (Kd.int .i64) 3 w29 w.heap.size (fun k_=>some k_≠(v189:Value).ownBlock∧some k_≠(v195:Value).ownBlock∧some k_≠(u188000:Value).ownBlock∧some k_≠(u188001:Value).ownBlock) v192 t191):=⟨h1_⟩
     have n2_:Aside0 (Kd.R (Kd.int .i64) 3 w29 w.heap.size (fun k_=>some k_≠(v189:Value).ownBlock∧some k_≠(v192:Value).ownBlock∧some k_≠(u188000:Value).ownBlock∧some k_≠(u188001:Value).ownBlock) v195 t194):=⟨h2_⟩
     have n3_:Aside0 (Kd.R (Kd.int .i64) 3 w29 w.heap.size (fun k_=>some k_≠(v189:Value).ownBlock∧some k_≠(v192:Value).ownBlock∧some k_≠(v195:Value).ownBlock∧some k_≠(u188001:Value).ownBlock) u188000 x188000_1):=⟨h3_⟩
     have n4_:Aside0 (Kd.R (Kd.int .i64) 3 w29 w.heap.size (fun k_=>some k_≠(v189:Value).ownBlock∧some k_≠(v192:Value).ownBlock∧some k_≠(v195:Value).ownBlock∧some k_≠(u188000:Value).ownBlock) u188001 x188001_1):=⟨h4_⟩
     have n5_:Aside0 (w29.heap[gb176]? = some (.cells #[.slice A0_0 l0_0.length c0_0,.slice A0_1 l0_1.length c0_1] 27 (0,0))):=⟨h5_⟩
     have n6_:Aside0 (w29.heap[gb177]? = some (.cells #[.slice none 0 0,.slice none 0 0] 27 (0,0))):=⟨h6_⟩
     have n7_:Aside0 (w29.heap[gb187]? = some (.cells #[u188000,u188001] 27 (0,0))):=⟨h7_⟩
     have n8_:Aside0 (w29.heap[gb197]? = some (.cells #[.slice none 0 0,.slice none 0 0] 27 (0,0))):=⟨h8_⟩
     have n9_:Aside0 (w.heap.size≤gb197):=⟨h9_⟩
     have n10_:Aside0 (w.heap.size≤gb197):=⟨h10_⟩
     have n11_:Aside0 (gb176≠gb197):=⟨h11_⟩
     have n12_:Aside0 (gb197≠gb176):=⟨h12_⟩
     have n13_:Aside0 (gb177≠gb197):=⟨h13_⟩
     have n14_:Aside0 (gb197≠gb177):=⟨h14_⟩
     have n15_:Aside0 (gb187≠gb197):=⟨h15_⟩
     have n16_:Aside0 (gb197≠gb187):=⟨h16_⟩
     have n17_:Aside0 (Below w.heap.size w w29):=⟨h17_⟩
     clear HO_188000
     clear HO_188001
     clear BK176
     clear BK177
     clear BK187
     clear HB
     clear h0_ h1_ h2_ h3_ h4_ h5_ h6_ h7_ h8_ h9_ h10_ h11_ h12_ h13_ h14_ h15_ h16_ h17_
     have HO190:=n0_
     have HO193:=n1_
     have HO196:=n2_
     have HO_188000:=n3_
     have HO_188001:=n4_
     have BK176:=n5_
     have BK177:=n6_
     have BK187:=n7_
     have BK197:=n8_
     have GW197:=n9_
     have GE197:=n10_
     have NB176_197:=n11_
     have NB197_176:=n12_
     have NB177_197:=n13_
     have NB197_177:=n14_
     have NB187_197:=n15_
     have NB197_187:=n16_
     have HB:=n17_
     clear n0_ n1_ n2_ n3_ n4_ n5_ n6_ n7_ n8_ n9_ n10_ n11_ n12_ n13_ n14_ n15_ n16_ n17_
     have hHeld:w29.cell? ⟨gb176,0,none⟩ = some (.slice A0_0 l0_0.length c0_0)∧w29.cell? ⟨gb176,1,none⟩ = some (.slice A0_1 l0_1.length c0_1):=hS_
     obtain ⟨Ao30,co30,eo30⟩:=Kd.R_slice HO193.out
     (first | subst eo30 | (injection eo30 with f1_ f2_ f3_;have f4_:=f1_.symm;have f5_:=f3_.symm;clear f1_ f2_ f3_;subst f4_;subst f5_))
     obtain ⟨Ao32,co32,eo32⟩:=Kd.R_slice HO196.out
     (first | subst eo32 | (injection eo32 with f1_ f2_ f3_;have f4_:=f1_.symm;have f5_:=f3_.symm;clear f1_ f2_ f3_;subst f4_;subst f5_))
     refine norm_ (a':=?_) ?_ ?_
     rotate_left
     ·simp only [putAll,Act.put,sA_,sB_,sC_]
      rfl
     refine one_ (i:=6) (N:=none) (bl_ 7 127) rfl rfl (by kernel_rfl) (by decide) (fun K hK=>?_)
     have hs31:w29.cell? ⟨gb197,0,none⟩ = some (.slice none 0 0):=cz0_ BK197
     have hfs31:=kD_ BK197.out 0
     have hns31_0:=NB176_197.out
     have hns31_1:=NB177_197.out
     have hns31_2:=NB187_197.out
     have hms31_0:=NB197_176.out
     have hms31_1:=NB197_177.out
     have hms31_2:=NB197_187.out
     have hs33:w29.cell? ⟨gb197,1,none⟩ = some (.slice none 0 0):=cz1_ BK197
     have hfs33:=kD_ BK197.out 1
     have hns33_0:=NB176_197.out
     have hns33_1:=NB177_197.out
     have hns33_2:=NB187_197.out
     have hms33_0:=NB197_176.out
     have hms33_1:=NB197_177.out
     have hms33_2:=NB197_187.out
     refine skip_ (w1:=?_) (by rfl) rfl ?_ ?_
     rotate_left
     ·go_simp
      rfl
     refine hK.out _ _ ⟨((cell_far (p:=⟨gb197,_,none⟩) NB176_197.out _).trans (((cell_far (p:=⟨gb197,_,none⟩) NB176_197.out _).trans (hHeld.1)))),((cell_far (p:=⟨gb197,_,none⟩) NB176_197.out _).trans (((cell_far (p:=⟨gb197,_,none⟩) NB176_197.out _).trans (hHeld.2))))⟩ (fun hHeld=>?_)
     clear hK K
     refine done_ (by kernel_rfl) ?_
     have hnb34:=NB197_176.out
     have hnc34:=NB176_197.out
     have hnb35:=NB197_177.out
     have hnc35:=NB177_197.out
     have hnb36:=NB197_187.out
     have hnc36:=NB187_197.out
     obtain ⟨hcz37_0,hcz37_1,hfz37_0,hfz37_1⟩:=c2_ BK197
     have hnb38:=NB187_177.out
     have hnc38:=NB177_187.out
     obtain ⟨hcz39_0,hcz39_1,hfz39_0,hfz39_1⟩:=c2_ BK187
     obtain ⟨Ao40,co40,eo40⟩:=Kd.R_slice HO_188000.out
     subst eo40
     obtain ⟨Ao41,co41,eo41⟩:=Kd.R_slice HO_188001.out
     subst eo41
     try go_wp2_with (first | ((with_reducible refine gA_ (f:=51) rfl ?_);refine gL_ (some 24) Tryz.func51 #[.agg #[.slice Ao30 t191.length co30,.slice Ao32 t194.length co32],.agg #[.slice Ao40 x188000_1.length co40,.slice Ao41 x188001_1.length co41]] rfl qa_ ?_;(with_reducible refine (Z46.calls k1 _ _ t191 _ _ t194 _ _ x188000_1 _ _ x188001_1 true _ ?side1 ?side2 ?side3 ?side4 ?side5 ?side6 ?side7 ?side8 A19.out).mono ?_);(case side1=>refine (Kd.R_reads' (e:=3) (base:=w.heap.size) (ok:=fun k_=>(some k_≠(v189:Value).ownBlock∧(some k_≠(.slice Ao32 t194.length co32:Value).ownBlock∧(some k_≠(.slice Ao40 x188000_1.length co40:Value).ownBlock∧some k_≠(.slice Ao41 x188001_1.length co41:Value).ownBlock)))) (n:=t191.length) (c:=co30) ?_).2.2;exact (rw_ (fa_ HO193 BK197)));(case side2=>exact (Kd.R_reads' HO193.out).2.1);(case side3=>refine (Kd.R_reads' (e:=3) (base:=w.heap.size) (ok:=fun k_=>(some k_≠(v189:Value).ownBlock∧(some k_≠(.slice Ao30 t191.length co30:Value).ownBlock∧(some k_≠(.slice Ao40 x188000_1.length co40:Value).ownBlock∧some k_≠(.slice Ao41 x188001_1.length co41:Value).ownBlock)))) (n:=t194.length) (c:=co32) ?_).2.2;exact (rw_ (fa_ HO196 BK197)));(case side4=>exact (Kd.R_reads' HO196.out).2.1);(case side5=>refine (Kd.R_reads' (e:=3) (base:=w.heap.size) (ok:=fun k_=>(some k_≠(v189:Value).ownBlock∧(some k_≠(.slice Ao30 t191.length co30:Value).ownBlock∧(some k_≠(.slice Ao32 t194.length co32:Value).ownBlock∧some k_≠(.slice Ao41 x188001_1.length co41:Value).ownBlock)))) (n:=x188000_1.length) (c:=co40) ?_).2.2;exact (rw_ (fa_ HO_188000 BK197)));(case side6=>exact (Kd.R_reads' HO_188000.out).2.1);(case side7=>refine (Kd.R_reads' (e:=3) (base:=w.heap.size) (ok:=fun k_=>(some k_≠(v189:Value).ownBlock∧(some k_≠(.slice Ao30 t191.length co30:Value).ownBlock∧(some k_≠(.slice Ao32 t194.length co32:Value).ownBlock∧some k_≠(.slice Ao40 x188000_1.length co40:Value).ownBlock)))) (n:=x188001_1.length) (c:=co41) ?_).2.2;exact (rw_ (fa_ HO_188001 BK197)));(case side8=>exact (Kd.R_reads' HO_188001.out).2.1);rintro e w42 ⟨rfl,hb⟩;refine ⟨_,rfl,?_⟩;replace HO_188000:=A_ (rD_ (rw_ (fa_ HO_188000 BK197)) hb);replace HO_188001:=A_ (rD_ (rw_ (fa_ HO_188001 BK197)) hb);replace HO190:=A_ (rD_ (rw_ (fa_ HO190 BK197)) hb);replace HO193:=A_ (rD_ (rw_ (fa_ HO193 BK197)) hb);replace HO196:=A_ (rD_ (rw_ (fa_ HO196 BK197)) hb);replace BK176:=A_ (kE_ (g:=gb176) (o:=.cells #[.slice A0_0 l0_0.length c0_0,.slice A0_1 l0_1.length c0_1] 27 (0,0)) (by (with_reducible repeat (first | refine kA_ ?_ _ | refine kB_ ?_ | refine kC_ ?_ _));refine blk_far ?_ NB176_197.out _;(with_reducible repeat (first | refine kA_ ?_ _ | refine kB_ ?_ | refine kC_ ?_ _));refine blk_far ?_ NB176_197.out _;(with_reducible repeat (first | refine kA_ ?_ _ | refine kB_ ?_ | refine kC_ ?_ _));exact BK176.out) hb);replace BK177:=A_ (kE_ (g:=gb177) (o:=.cells #[.slice none 0 0,.slice none 0 0] 27 (0,0)) (by (with_reducible repeat (first | refine kA_ ?_ _ | refine kB_ ?_ | refine kC_ ?_ _));refine blk_far ?_ NB177_197.out _;(with_reducible repeat (first | refine kA_ ?_ _ | refine kB_ ?_ | refine kC_ ?_ _));refine blk_far ?_ NB177_197.out _;(with_reducible repeat (first | refine kA_ ?_ _ | refine kB_ ?_ | refine kC_ ?_ _));exact BK177.out) hb);replace BK187:=A_ (kE_ (g:=gb187) (o:=.cells #[.slice Ao40 x188000_1.length co40,.slice Ao41 x188001_1.length co41] 27 (0,0)) (by (with_reducible repeat (first | refine kA_ ?_ _ | refine kB_ ?_ | refine kC_ ?_ _));refine blk_far ?_ NB187_197.out _;(with_reducible repeat (first | refine kA_ ?_ _ | refine kB_ ?_ | refine kC_ ?_ _));refine blk_far ?_ NB187_197.out _;(with_reducible repeat (first | refine kA_ ?_ _ | refine kB_ ?_ | refine kC_ ?_ _));exact BK187.out) hb);replace BK197:=A_ (kE_ (g:=gb197) (o:=.cells #[.slice Ao30 t191.length co30,.slice Ao32 t194.length co32] 27 (0,0)) qp_ hb);replace HB:=b1_ hb;clear hb;obtain ⟨hcz43_0,hcz43_1,hfz43_0,hfz43_1⟩:=c2_ BK197;obtain ⟨hcz44_0,hcz44_1,hfz44_0,hfz44_1⟩:=c2_ BK187))
     go_roundg k1
     case measure=>have:=HK1.out;omega
     case rel=>exact ⟨(wrap64 (x4_1 + 1)),(t191),(t194),(.slice Ao30 t191.length co30),(.slice Ao32 t194.length co32),qc_,H',⟨by have:=HK1.out;omega⟩,⟨(rw_ (Kd.R_mono (fa_ HO193 BK187) (fun _ hk=>hk.2.1)))⟩,⟨(rw_ (Kd.R_mono (fa_ HO196 BK187) (fun _ hk=>hk.2.1)))⟩,⟨by (with_reducible repeat (first | refine kA_ ?_ _ | refine kB_ ?_ | refine kC_ ?_ _));refine blk_far ?_ NB176_187.out _;(with_reducible repeat (first | refine kA_ ?_ _ | refine kB_ ?_ | refine kC_ ?_ _));refine blk_far ?_ NB176_187.out _;(with_reducible repeat (first | refine kA_ ?_ _ | refine kB_ ?_ | refine kC_ ?_ _));exact BK176.out⟩,⟨by (with_reducible repeat (first | refine kA_ ?_ _ | refine kB_ ?_ | refine kC_ ?_ _));refine blk_far ?_ NB177_187.out _;(with_reducible repeat (first | refine kA_ ?_ _ | refine kB_ ?_ | refine kC_ ?_ _));refine blk_far ?_ NB177_187.out _;(with_reducible repeat (first | refine kA_ ?_ _ | refine kB_ ?_ | refine kC_ ?_ _));exact BK177.out⟩,⟨qp_⟩,⟨hB_⟩⟩
    ·replace c20:=Bool.eq_false_iff.mpr c20
     subst c20
     have H1:(Z57.l0 k1 (wrap64 (x4_1 + 1)) l0_0 l0_1 x188000_1 x188001_1) = some (r1,r2):=by rw [if_neg (show ¬ (false = true) by decide)] at H;exact H
     clear H
     have H:=H1
     clear H1
     have H':=A_ H
     clear H
     have hnb45:=NB176_177.out
     have hnc45:=NB177_176.out
     have hnb46:=NB176_187.out
     have hnc46:=NB187_176.out
     obtain ⟨hcz47_0,hcz47_1,hfz47_0,hfz47_1⟩:=c2_ BK176
     try go_wp2
     replace HO_188000:=A_ (rC_ HO_188000.out)
     replace HO_188001:=A_ (rC_ HO_188001.out)
     replace BK176:=A_ (kB_ BK176.out)
     replace BK177:=A_ (kB_ BK177.out)
     replace BK187:=A_ (kB_ BK187.out)
     replace HB:=A_ (bC_ HB.out)
     refine start_ (n:=7) (S:=fun w'=>w'.cell? ⟨gb176,0,none⟩ = some (.slice A0_0 l0_0.length c0_0)∧w'.cell? ⟨gb176,1,none⟩ = some (.slice A0_1 l0_1.length c0_1)) (ds:=[]) (bl_ 7 0) (by kernel_rfl) rfl (by kernel_rfl) ⟨cz0_ BK176,cz1_ BK176⟩ (fun hHeld=>?_)
     generalize wr.drew = w48 at HO_188000 HO_188001 BK176 BK177 BK187 HB hHeld ⊢
     refine pure_ (i:=2) (N:=some 19) (v:=?_) (a':=?_) (bl_ 7 4) rfl rfl (by kernel_rfl) (fun _ _ _ h=>h) (Or.inl ⟨by rfl,?_⟩) ?_ ?_
     rotate_left
     ·intro w'
      go_simp
      with_reducible rfl
     rotate_left
     ·simp only [Act.put,sA_,sB_,sC_,i64_w,i32_w]
      rfl
     refine take_ (i:=0) (N:=some 17) (v:=?_) (a':=?_) (bl_ 7 5) rfl rfl (by kernel_rfl) (fun _ _ _ h=>h) (Or.inl ⟨by rfl,?_⟩) hHeld ?_ ?_
     rotate_left
     ·rintro w' ⟨s0,s1⟩
      go_simp
      with_reducible rfl
     rotate_left
     ·simp only [Act.put,sA_,sB_,sC_,i64_w,i32_w]
      rfl
     refine take_ (i:=1) (N:=some 18) (v:=?_) (a':=?_) (bl_ 7 7) rfl rfl (by kernel_rfl) (fun _ _ _ h=>h) (Or.inl ⟨by rfl,?_⟩) hHeld ?_ ?_
     rotate_left
     ·rintro w' ⟨s0,s1⟩
      go_simp
      with_reducible rfl
     rotate_left
     ·simp only [Act.put,sA_,sB_,sC_,i64_w,i32_w]
      rfl
     refine join_ (σ:=Value × Value × Value × Nat) 1 (bl_ 7 63) (fun s_=>[(20,s_.1),(21,.agg #[s_.2.1,s_.2.2.1]),(5,.pointer (some ⟨s_.2.2.2,0,none⟩))]) (fun s_ w'=>(w'.cell? ⟨gb176,0,none⟩ = some (.slice A0_0 l0_0.length c0_0)∧w'.cell? ⟨gb176,1,none⟩ = some (.slice A0_1 l0_1.length c0_1))∧(Kd.R (Kd.int .i64) 3 w' w.heap.size (fun k_=>some k_≠(s_.2.1:Value).ownBlock∧some k_≠(s_.2.2.1:Value).ownBlock∧some k_≠(u188000:Value).ownBlock∧some k_≠(u188001:Value).ownBlock) s_.1 t188)∧(Kd.R (Kd.int .i64) 3 w' w.heap.size (fun k_=>some k_≠(s_.1:Value).ownBlock∧some k_≠(s_.2.2.1:Value).ownBlock∧some k_≠(u188000:Value).ownBlock∧some k_≠(u188001:Value).ownBlock) s_.2.1 t191)∧(Kd.R (Kd.int .i64) 3 w' w.heap.size (fun k_=>some k_≠(s_.1:Value).ownBlock∧some k_≠(s_.2.1:Value).ownBlock∧some k_≠(u188000:Value).ownBlock∧some k_≠(u188001:Value).ownBlock) s_.2.2.1 t194)∧(Kd.R (Kd.int .i64) 3 w' w.heap.size (fun k_=>some k_≠(s_.1:Value).ownBlock∧some k_≠(s_.2.1:Value).ownBlock∧some k_≠(s_.2.2.1:Value).ownBlock∧some k_≠(u188001:Value).ownBlock) u188000 x188000_1)∧(Kd.R (Kd.int .i64) 3 w' w.heap.size (fun k_=>some k_≠(s_.1:Value).ownBlock∧some k_≠(s_.2.1:Value).ownBlock∧some k_≠(s_.2.2.1:Value).ownBlock∧some k_≠(u188000:Value).ownBlock) u188001 x188001_1)∧(w'.heap[gb176]? = some (.cells #[.slice A0_0 l0_0.length c0_0,.slice A0_1 l0_1.length c0_1] 27 (0,0)))∧(w'.heap[gb177]? = some (.cells #[.slice none 0 0,.slice none 0 0] 27 (0,0)))∧(w'.heap[gb187]? = some (.cells #[u188000,u188001] 27 (0,0)))∧(w'.heap[s_.2.2.2]? = some (.cells #[.slice none 0 0,.slice none 0 0] 27 (0,0)))∧(w.heap.size≤s_.2.2.2)∧(w.heap.size≤s_.2.2.2)∧(gb176≠s_.2.2.2)∧(s_.2.2.2≠gb176)∧(gb177≠s_.2.2.2)∧(s_.2.2.2≠gb177)∧(gb187≠s_.2.2.2)∧(s_.2.2.2≠gb187)∧(Below w.heap.size w w')) ?_ ?_
     rotate_left
     ·intro hCont
      refine two_ (i:=3) (j:=5) (Ni:=some 20) (Nj:=some 5) (bl_ 7 15) (bl_ 7 39) rfl rfl rfl rfl (by kernel_rfl) (by decide) (by decide) (fun K hK=>?_) (fun K hK=>?_)
      ·skip
       refine gO_ Tryz.func50 #[.agg #[.slice A0_0 l0_0.length c0_0,.slice A0_1 l0_1.length c0_1],.int .i64 x4_1] (by rfl) rfl rfl qa_ ?_
       with_reducible refine (Z58.calls k1 _ _ l0_0 _ _ l0_1 x4_1 t188 _ (cb_ HR0_0) HC0_0.out (cb_ HR0_1) HC0_1.out A17.out).mono ?_
       rintro e w49 ⟨v189,rfl,ho0,hb⟩
       refine ⟨_,rfl,?_⟩
       have HO190:=A_ (rE_ (Kd.R_new' (Kd.R_new' ho0 (Kd.R_lt (rr_ HO_188000))) (Kd.R_lt (rr_ HO_188001))) (bF_ hB_))
       replace HO_188000:=A_ (Kd.R_elder' (rr_ HO_188000) (Kd.R_base ho0) hb)
       replace HO_188001:=A_ (Kd.R_elder' (rr_ HO_188001) (Kd.R_base ho0) hb)
       replace BK176:=bb_ BK176 hb
       replace BK177:=bb_ BK177 hb
       replace BK187:=bb_ BK187 hb
       replace HB:=b1_ hb
       clear hb ho0
       obtain ⟨Ao50,co50,eo50⟩:=Kd.R_slice HO190.out
       (first | subst eo50 | (injection eo50 with f1_ f2_ f3_;have f4_:=f1_.symm;have f5_:=f3_.symm;clear f1_ f2_ f3_;subst f4_;subst f5_))
       refine hK.out _ _ ⟨cz0_ BK176,cz1_ BK176⟩ (fun hHeld=>?_)
       clear hK K
       refine no_ (some 20) ?_
       refine two_ (i:=4) (j:=5) (Ni:=some 21) (Nj:=some 5) (bl_ 7 31) (bl_ 7 47) rfl rfl rfl rfl (by kernel_rfl) (by decide) (by decide) (fun K hK=>?_) (fun K hK=>?_)
       ·skip
        refine gO_ Tryz.func49 #[.agg #[.slice A0_0 l0_0.length c0_0,.slice A0_1 l0_1.length c0_1],.slice Ao50 t188.length co50] (by rfl) rfl rfl qa_ ?_
        with_reducible refine (Z47.calls k1 _ _ l0_0 _ _ l0_1 _ _ t188 t191 t194 _ (cb_ HR0_0) HC0_0.out (cb_ HR0_1) HC0_1.out (cr_ HO190) ((Kd.R_reads' HO190.out).2.1) A18.out).mono ?_
        rintro e w51 ⟨v192,v195,rfl,ho0,ho1,hb⟩
        refine ⟨_,rfl,?_⟩
        have HO193:=A_ (rE_ (Kd.R_new' (Kd.R_new' (Kd.R_new' ho0 (Kd.R_lt (rr_ HO_188000))) (Kd.R_lt (rr_ HO_188001))) (Kd.R_lt (rr_ HO190))) (bF_ hB_))
        have HO196:=A_ (rE_ (Kd.R_new' (Kd.R_new' (Kd.R_new' ho1 (Kd.R_lt (rr_ HO_188000))) (Kd.R_lt (rr_ HO_188001))) (Kd.R_lt (rr_ HO190))) (bF_ hB_))
        replace HO_188000:=A_ (Kd.R_mono (Kd.R_told (Kd.R_told (Kd.R_old (rr_ HO_188000) hb) (Kd.R_base ho0)) (Kd.R_base ho1)) (fun _ h_=>h_.1))
        replace HO_188001:=A_ (Kd.R_mono (Kd.R_told (Kd.R_told (Kd.R_old (rr_ HO_188001) hb) (Kd.R_base ho0)) (Kd.R_base ho1)) (fun _ h_=>h_.1))
        replace HO190:=A_ (Kd.R_mono (Kd.R_told (Kd.R_told (Kd.R_old (rr_ HO190) hb) (Kd.R_base ho0)) (Kd.R_base ho1)) (fun _ h_=>h_.1))
        replace BK176:=bb_ BK176 hb
        replace BK177:=bb_ BK177 hb
        replace BK187:=bb_ BK187 hb
        replace HB:=b1_ hb
        clear hb ho0 ho1
        refine hK.out _ _ ⟨cz0_ BK176,cz1_ BK176⟩ (fun hHeld=>?_)
        clear hK K
        refine no_ (some 21) ?_
        refine one_ (i:=5) (N:=some 5) (bl_ 7 63) rfl rfl (by kernel_rfl) (by decide) (fun K hK=>?_)
        refine box_step ?hg (N:=5) ?hd (cs:=#[.slice none 0 0,.slice none 0 0]) (t:=27) ?hr ?_;(case hd=>rfl);(case hg=>rfl);(case hr=>first | (go_simp;done) | (go_simp;rfl))
        intro gb197 hg w52 hbox hb
        replace HO_188000:=rb_ HO_188000 hb
        replace HO_188001:=rb_ HO_188001 hb
        replace HO190:=rb_ HO190 hb
        replace HO193:=rb_ HO193 hb
        replace HO196:=rb_ HO196 hb
        have BK197:=A_ hbox
        have GW197:=gw_ w hg
        have GE197:=GW197
        replace HB:=b1_ hb
        have NB176_197:=gN_ BK176 hg
        have NB197_176:=gP_ BK176 hg
        replace BK176:=bb_ BK176 hb
        have NB177_197:=gN_ BK177 hg
        have NB197_177:=gP_ BK177 hg
        replace BK177:=bb_ BK177 hb
        have NB187_197:=gN_ BK187 hg
        have NB197_187:=gP_ BK187 hg
        replace BK187:=bb_ BK187 hb
        clear hb hbox hg
        refine hK.out _ _ ⟨cz0_ BK176,cz1_ BK176⟩ (fun hHeld=>?_)
        clear hK K
        refine no_ (some 5) ?_
        exact norm_ (by simp only [putAll,Act.put,sA_,sB_,sC_]) (hCont (.slice Ao50 t188.length co50,v192,v195,gb197) _ ⟨hHeld,(rw_ (Kd.R_mono HO190.out (fun _ hk=>⟨hk.1.2,⟨hk.2,⟨hk.1.1.1.2,hk.1.1.2⟩⟩⟩))),(rw_ (Kd.R_mono HO193.out (fun _ hk=>⟨hk.2,⟨hk.1.1.1,⟨hk.1.1.2,hk.1.2⟩⟩⟩))),(rw_ (Kd.R_mono HO196.out (fun _ hk=>⟨hk.2,⟨hk.1.1.1,⟨hk.1.1.2,hk.1.2⟩⟩⟩))),(rw_ (Kd.R_mono HO_188000.out (fun _ hk=>⟨hk.1.1.2,⟨hk.1.2,⟨hk.2,hk.1.1.1⟩⟩⟩))),(rw_ (Kd.R_mono HO_188001.out (fun _ hk=>⟨hk.1.1.2,⟨hk.1.2,⟨hk.2,hk.1.1.1⟩⟩⟩))),(kk_ BK176),(kk_ BK177),(kk_ BK187),(kk_ BK197),GW197.out,GE197.out,NB176_197.out,NB197_176.out,NB177_197.out,NB197_177.out,NB187_197.out,NB197_187.out,hB_⟩)
       ·skip
        refine box_step ?hg (N:=5) ?hd (cs:=#[.slice none 0 0,.slice none 0 0]) (t:=27) ?hr ?_;(case hd=>rfl);(case hg=>rfl);(case hr=>first | (go_simp;done) | (go_simp;rfl))
        intro gb197 hg w50 hbox hb
        replace HO_188000:=rb_ HO_188000 hb
        replace HO_188001:=rb_ HO_188001 hb
        replace HO190:=rb_ HO190 hb
        have BK197:=A_ hbox
        have GW197:=gw_ w hg
        have GE197:=GW197
        replace HB:=b1_ hb
        have NB176_197:=gN_ BK176 hg
        have NB197_176:=gP_ BK176 hg
        replace BK176:=bb_ BK176 hb
        have NB177_197:=gN_ BK177 hg
        have NB197_177:=gP_ BK177 hg
        replace BK177:=bb_ BK177 hb
        have NB187_197:=gN_ BK187 hg
        have NB197_187:=gP_ BK187 hg
        replace BK187:=bb_ BK187 hb
        clear hb hbox hg
        obtain ⟨Ao51,co51,eo51⟩:=Kd.R_slice HO190.out
        (first | subst eo51 | (injection eo51 with f1_ f2_ f3_;have f4_:=f1_.symm;have f5_:=f3_.symm;clear f1_ f2_ f3_;subst f4_;subst f5_))
        refine hK.out _ _ ⟨cz0_ BK176,cz1_ BK176⟩ (fun hHeld=>?_)
        clear hK K
        refine no_ (some 5) ?_
        refine one_ (i:=4) (N:=some 21) (bl_ 7 63) rfl rfl (by kernel_rfl) (by decide) (fun K hK=>?_)
        refine gO_ Tryz.func49 #[.agg #[.slice A0_0 l0_0.length c0_0,.slice A0_1 l0_1.length c0_1],.slice Ao51 t188.length co51] (by rfl) rfl rfl qa_ ?_
        with_reducible refine (Z47.calls k1 _ _ l0_0 _ _ l0_1 _ _ t188 t191 t194 _ (cb_ HR0_0) HC0_0.out (cb_ HR0_1) HC0_1.out (cr_ HO190) ((Kd.R_reads' HO190.out).2.1) A18.out).mono ?_
        rintro e w52 ⟨v192,v195,rfl,ho0,ho1,hb⟩
        refine ⟨_,rfl,?_⟩
        have HO193:=A_ (rE_ (Kd.R_new' (Kd.R_new' (Kd.R_new' ho0 (Kd.R_lt (rr_ HO_188000))) (Kd.R_lt (rr_ HO_188001))) (Kd.R_lt (rr_ HO190))) (bF_ hB_))
        have HO196:=A_ (rE_ (Kd.R_new' (Kd.R_new' (Kd.R_new' ho1 (Kd.R_lt (rr_ HO_188000))) (Kd.R_lt (rr_ HO_188001))) (Kd.R_lt (rr_ HO190))) (bF_ hB_))
        replace HO_188000:=A_ (Kd.R_mono (Kd.R_told (Kd.R_told (Kd.R_old (rr_ HO_188000) hb) (Kd.R_base ho0)) (Kd.R_base ho1)) (fun _ h_=>h_.1))
        replace HO_188001:=A_ (Kd.R_mono (Kd.R_told (Kd.R_told (Kd.R_old (rr_ HO_188001) hb) (Kd.R_base ho0)) (Kd.R_base ho1)) (fun _ h_=>h_.1))
        replace HO190:=A_ (Kd.R_mono (Kd.R_told (Kd.R_told (Kd.R_old (rr_ HO190) hb) (Kd.R_base ho0)) (Kd.R_base ho1)) (fun _ h_=>h_.1))
        replace BK176:=bb_ BK176 hb
        replace BK177:=bb_ BK177 hb
        replace BK187:=bb_ BK187 hb
        replace BK197:=bb_ BK197 hb
        replace HB:=b1_ hb
        clear hb ho0 ho1
        refine hK.out _ _ ⟨cz0_ BK176,cz1_ BK176⟩ (fun hHeld=>?_)
        clear hK K
        refine no_ (some 21) ?_
        exact norm_ (by simp only [putAll,Act.put,sA_,sB_,sC_]) (hCont (.slice Ao51 t188.length co51,v192,v195,gb197) _ ⟨hHeld,(rw_ (Kd.R_mono HO190.out (fun _ hk=>⟨hk.1.2,⟨hk.2,⟨hk.1.1.1.2,hk.1.1.2⟩⟩⟩))),(rw_ (Kd.R_mono HO193.out (fun _ hk=>⟨hk.2,⟨hk.1.1.1,⟨hk.1.1.2,hk.1.2⟩⟩⟩))),(rw_ (Kd.R_mono HO196.out (fun _ hk=>⟨hk.2,⟨hk.1.1.1,⟨hk.1.1.2,hk.1.2⟩⟩⟩))),(rw_ (Kd.R_mono HO_188000.out (fun _ hk=>⟨hk.1.1.2,⟨hk.1.2,⟨hk.2,hk.1.1.1⟩⟩⟩))),(rw_ (Kd.R_mono HO_188001.out (fun _ hk=>⟨hk.1.1.2,⟨hk.1.2,⟨hk.2,hk.1.1.1⟩⟩⟩))),(kk_ BK176),(kk_ BK177),(kk_ BK187),(kk_ BK197),GW197.out,GE197.out,NB176_197.out,NB197_176.out,NB177_197.out,NB197_177.out,NB187_197.out,NB197_187.out,hB_⟩)
      ·skip
       refine box_step ?hg (N:=5) ?hd (cs:=#[.slice none 0 0,.slice none 0 0]) (t:=27) ?hr ?_;(case hd=>rfl);(case hg=>rfl);(case hr=>first | (go_simp;done) | (go_simp;rfl))
       intro gb197 hg w49 hbox hb
       replace HO_188000:=rb_ HO_188000 hb
       replace HO_188001:=rb_ HO_188001 hb
       have BK197:=A_ hbox
       have GW197:=gw_ w hg
       have GE197:=GW197
       replace HB:=b1_ hb
       have NB176_197:=gN_ BK176 hg
       have NB197_176:=gP_ BK176 hg
       replace BK176:=bb_ BK176 hb
       have NB177_197:=gN_ BK177 hg
       have NB197_177:=gP_ BK177 hg
       replace BK177:=bb_ BK177 hb
       have NB187_197:=gN_ BK187 hg
       have NB197_187:=gP_ BK187 hg
       replace BK187:=bb_ BK187 hb
       clear hb hbox hg
       refine hK.out _ _ ⟨cz0_ BK176,cz1_ BK176⟩ (fun hHeld=>?_)
       clear hK K
       refine no_ (some 5) ?_
       refine one_ (i:=3) (N:=some 20) (bl_ 7 47) rfl rfl (by kernel_rfl) (by decide) (fun K hK=>?_)
       refine gO_ Tryz.func50 #[.agg #[.slice A0_0 l0_0.length c0_0,.slice A0_1 l0_1.length c0_1],.int .i64 x4_1] (by rfl) rfl rfl qa_ ?_
       with_reducible refine (Z58.calls k1 _ _ l0_0 _ _ l0_1 x4_1 t188 _ (cb_ HR0_0) HC0_0.out (cb_ HR0_1) HC0_1.out A17.out).mono ?_
       rintro e w50 ⟨v189,rfl,ho0,hb⟩
       refine ⟨_,rfl,?_⟩
       have HO190:=A_ (rE_ (Kd.R_new' (Kd.R_new' ho0 (Kd.R_lt (rr_ HO_188000))) (Kd.R_lt (rr_ HO_188001))) (bF_ hB_))
       replace HO_188000:=A_ (Kd.R_elder' (rr_ HO_188000) (Kd.R_base ho0) hb)
       replace HO_188001:=A_ (Kd.R_elder' (rr_ HO_188001) (Kd.R_base ho0) hb)
       replace BK176:=bb_ BK176 hb
       replace BK177:=bb_ BK177 hb
       replace BK187:=bb_ BK187 hb
       replace BK197:=bb_ BK197 hb
       replace HB:=b1_ hb
       clear hb ho0
       obtain ⟨Ao51,co51,eo51⟩:=Kd.R_slice HO190.out
       (first | subst eo51 | (injection eo51 with f1_ f2_ f3_;have f4_:=f1_.symm;have f5_:=f3_.symm;clear f1_ f2_ f3_;subst f4_;subst f5_))
       refine hK.out _ _ ⟨cz0_ BK176,cz1_ BK176⟩ (fun hHeld=>?_)
       clear hK K
       refine no_ (some 20) ?_
       refine one_ (i:=4) (N:=some 21) (bl_ 7 63) rfl rfl (by kernel_rfl) (by decide) (fun K hK=>?_)
       refine gO_ Tryz.func49 #[.agg #[.slice A0_0 l0_0.length c0_0,.slice A0_1 l0_1.length c0_1],.slice Ao51 t188.length co51] (by rfl) rfl rfl qa_ ?_
       with_reducible refine (Z47.calls k1 _ _ l0_0 _ _ l0_1 _ _ t188 t191 t194 _ (cb_ HR0_0) HC0_0.out (cb_ HR0_1) HC0_1.out (cr_ HO190) ((Kd.R_reads' HO190.out).2.1) A18.out).mono ?_
       rintro e w52 ⟨v192,v195,rfl,ho0,ho1,hb⟩
       refine ⟨_,rfl,?_⟩
       have HO193:=A_ (rE_ (Kd.R_new' (Kd.R_new' (Kd.R_new' ho0 (Kd.R_lt (rr_ HO_188000))) (Kd.R_lt (rr_ HO_188001))) (Kd.R_lt (rr_ HO190))) (bF_ hB_))
       have HO196:=A_ (rE_ (Kd.R_new' (Kd.R_new' (Kd.R_new' ho1 (Kd.R_lt (rr_ HO_188000))) (Kd.R_lt (rr_ HO_188001))) (Kd.R_lt (rr_ HO190))) (bF_ hB_))
       replace HO_188000:=A_ (Kd.R_mono (Kd.R_told (Kd.R_told (Kd.R_old (rr_ HO_188000) hb) (Kd.R_base ho0)) (Kd.R_base ho1)) (fun _ h_=>h_.1))
       replace HO_188001:=A_ (Kd.R_mono (Kd.R_told (Kd.R_told (Kd.R_old (rr_ HO_188001) hb) (Kd.R_base ho0)) (Kd.R_base ho1)) (fun _ h_=>h_.1))
       replace HO190:=A_ (Kd.R_mono (Kd.R_told (Kd.R_told (Kd.R_old (rr_ HO190) hb) (Kd.R_base ho0)) (Kd.R_base ho1)) (fun _ h_=>h_.1))
       replace BK176:=bb_ BK176 hb
       replace BK177:=bb_ BK177 hb
       replace BK187:=bb_ BK187 hb
       replace BK197:=bb_ BK197 hb
       replace HB:=b1_ hb
       clear hb ho0 ho1
       refine hK.out _ _ ⟨cz0_ BK176,cz1_ BK176⟩ (fun hHeld=>?_)
       clear hK K
       refine no_ (some 21) ?_
       exact norm_ (by simp only [putAll,Act.put,sA_,sB_,sC_]) (hCont (.slice Ao51 t188.length co51,v192,v195,gb197) _ ⟨hHeld,(rw_ (Kd.R_mono HO190.out (fun _ hk=>⟨hk.1.2,⟨hk.2,⟨hk.1.1.1.2,hk.1.1.2⟩⟩⟩))),(rw_ (Kd.R_mono HO193.out (fun _ hk=>⟨hk.2,⟨hk.1.1.1,⟨hk.1.1.2,hk.1.2⟩⟩⟩))),(rw_ (Kd.R_mono HO196.out (fun _ hk=>⟨hk.2,⟨hk.1.1.1,⟨hk.1.1.2,hk.1.2⟩⟩⟩))),(rw_ (Kd.R_mono HO_188000.out (fun _ hk=>⟨hk.1.1.2,⟨hk.1.2,⟨hk.2,hk.1.1.1⟩⟩⟩))),(rw_ (Kd.R_mono HO_188001.out (fun _ hk=>⟨hk.1.1.2,⟨hk.1.2,⟨hk.2,hk.1.1.1⟩⟩⟩))),(kk_ BK176),(kk_ BK177),(kk_ BK187),(kk_ BK197),GW197.out,GE197.out,NB176_197.out,NB197_176.out,NB177_197.out,NB197_177.out,NB187_197.out,NB197_187.out,hB_⟩)
     rintro ⟨v189,v192,v195,gb197⟩ w53 ⟨hS_,h0_,h1_,h2_,h3_,h4_,h5_,h6_,h7_,h8_,h9_,h10_,h11_,h12_,h13_,h14_,h15_,h16_,h17_⟩
     have n0_:Aside0 (Kd.R (Kd.int .i64) 3 w53 w.heap.size (fun k_=>some k_≠(v192:Value).ownBlock∧some k_≠(v195:Value).ownBlock∧some k_≠(u188000:Value).ownBlock∧some k_≠(u188001:Value).ownBlock) v189 t188):=⟨h0_⟩
     have n1_:Aside0 (Kd.R (Kd.int .i64) 3 w53 w.heap.size (fun k_=>some k_≠(v189:Value).ownBlock∧some k_≠(v195:Value).ownBlock∧some k_≠(u188000:Value).ownBlock∧some k_≠(u188001:Value).ownBlock) v192 t191):=⟨h1_⟩
     have n2_:Aside0 (Kd.R (Kd.int .i64) 3 w53 w.heap.size (fun k_=>some k_≠(v189:Value).ownBlock∧some k_≠(v192:Value).ownBlock∧some k_≠(u188000:Value).ownBlock∧some k_≠(u188001:Value).ownBlock) v195 t194):=⟨h2_⟩
     have n3_:Aside0 (Kd.R (Kd.int .i64) 3 w53 w.heap.size (fun k_=>some k_≠(v189:Value).ownBlock∧some k_≠(v192:Value).ownBlock∧some k_≠(v195:Value).ownBlock∧some k_≠(u188001:Value).ownBlock) u188000 x188000_1):=⟨h3_⟩
     have n4_:Aside0 (Kd.R (Kd.int .i64) 3 w53 w.heap.size (fun k_=>some k_≠(v189:Value).ownBlock∧some k_≠(v192:Value).ownBlock∧some k_≠(v195:Value).ownBlock∧some k_≠(u188000:Value).ownBlock) u188001 x188001_1):=⟨h4_⟩
     have n5_:Aside0 (w53.heap[gb176]? = some (.cells #[.slice A0_0 l0_0.length c0_0,.slice A0_1 l0_1.length c0_1] 27 (0,0))):=⟨h5_⟩
     have n6_:Aside0 (w53.heap[gb177]? = some (.cells #[.slice none 0 0,.slice none 0 0] 27 (0,0))):=⟨h6_⟩
     have n7_:Aside0 (w53.heap[gb187]? = some (.cells #[u188000,u188001] 27 (0,0))):=⟨h7_⟩
     have n8_:Aside0 (w53.heap[gb197]? = some (.cells #[.slice none 0 0,.slice none 0 0] 27 (0,0))):=⟨h8_⟩
     have n9_:Aside0 (w.heap.size≤gb197):=⟨h9_⟩
     have n10_:Aside0 (w.heap.size≤gb197):=⟨h10_⟩
     have n11_:Aside0 (gb176≠gb197):=⟨h11_⟩
     have n12_:Aside0 (gb197≠gb176):=⟨h12_⟩
     have n13_:Aside0 (gb177≠gb197):=⟨h13_⟩
     have n14_:Aside0 (gb197≠gb177):=⟨h14_⟩
     have n15_:Aside0 (gb187≠gb197):=⟨h15_⟩
     have n16_:Aside0 (gb197≠gb187):=⟨h16_⟩
     have n17_:Aside0 (Below w.heap.size w w53):=⟨h17_⟩
     clear HO_188000
     clear HO_188001
     clear BK176
     clear BK177
     clear BK187
     clear HB
     clear h0_ h1_ h2_ h3_ h4_ h5_ h6_ h7_ h8_ h9_ h10_ h11_ h12_ h13_ h14_ h15_ h16_ h17_
     have HO190:=n0_
     have HO193:=n1_
     have HO196:=n2_
     have HO_188000:=n3_
     have HO_188001:=n4_
     have BK176:=n5_
     have BK177:=n6_
     have BK187:=n7_
     have BK197:=n8_
     have GW197:=n9_
     have GE197:=n10_
     have NB176_197:=n11_
     have NB197_176:=n12_
     have NB177_197:=n13_
     have NB197_177:=n14_
     have NB187_197:=n15_
     have NB197_187:=n16_
     have HB:=n17_
     clear n0_ n1_ n2_ n3_ n4_ n5_ n6_ n7_ n8_ n9_ n10_ n11_ n12_ n13_ n14_ n15_ n16_ n17_
     have hHeld:w53.cell? ⟨gb176,0,none⟩ = some (.slice A0_0 l0_0.length c0_0)∧w53.cell? ⟨gb176,1,none⟩ = some (.slice A0_1 l0_1.length c0_1):=hS_
     obtain ⟨Ao54,co54,eo54⟩:=Kd.R_slice HO193.out
     (first | subst eo54 | (injection eo54 with f1_ f2_ f3_;have f4_:=f1_.symm;have f5_:=f3_.symm;clear f1_ f2_ f3_;subst f4_;subst f5_))
     obtain ⟨Ao56,co56,eo56⟩:=Kd.R_slice HO196.out
     (first | subst eo56 | (injection eo56 with f1_ f2_ f3_;have f4_:=f1_.symm;have f5_:=f3_.symm;clear f1_ f2_ f3_;subst f4_;subst f5_))
     refine norm_ (a':=?_) ?_ ?_
     rotate_left
     ·simp only [putAll,Act.put,sA_,sB_,sC_]
      rfl
     refine one_ (i:=6) (N:=none) (bl_ 7 127) rfl rfl (by kernel_rfl) (by decide) (fun K hK=>?_)
     have hs55:w53.cell? ⟨gb197,0,none⟩ = some (.slice none 0 0):=cz0_ BK197
     have hfs55:=kD_ BK197.out 0
     have hns55_0:=NB176_197.out
     have hns55_1:=NB177_197.out
     have hns55_2:=NB187_197.out
     have hms55_0:=NB197_176.out
     have hms55_1:=NB197_177.out
     have hms55_2:=NB197_187.out
     have hs57:w53.cell? ⟨gb197,1,none⟩ = some (.slice none 0 0):=cz1_ BK197
     have hfs57:=kD_ BK197.out 1
     have hns57_0:=NB176_197.out
     have hns57_1:=NB177_197.out
     have hns57_2:=NB187_197.out
     have hms57_0:=NB197_176.out
     have hms57_1:=NB197_177.out
     have hms57_2:=NB197_187.out
     refine skip_ (w1:=?_) (by rfl) rfl ?_ ?_
     rotate_left
     ·go_simp
      rfl
     refine hK.out _ _ ⟨((cell_far (p:=⟨gb197,_,none⟩) NB176_197.out _).trans (((cell_far (p:=⟨gb197,_,none⟩) NB176_197.out _).trans (hHeld.1)))),((cell_far (p:=⟨gb197,_,none⟩) NB176_197.out _).trans (((cell_far (p:=⟨gb197,_,none⟩) NB176_197.out _).trans (hHeld.2))))⟩ (fun hHeld=>?_)
     clear hK K
     refine done_ (by kernel_rfl) ?_
     have hnb58:=NB197_176.out
     have hnc58:=NB176_197.out
     have hnb59:=NB197_177.out
     have hnc59:=NB177_197.out
     have hnb60:=NB197_187.out
     have hnc60:=NB187_197.out
     obtain ⟨hcz61_0,hcz61_1,hfz61_0,hfz61_1⟩:=c2_ BK197
     have hnb62:=NB187_177.out
     have hnc62:=NB177_187.out
     obtain ⟨hcz63_0,hcz63_1,hfz63_0,hfz63_1⟩:=c2_ BK187
     obtain ⟨Ao64,co64,eo64⟩:=Kd.R_slice HO_188000.out
     subst eo64
     obtain ⟨Ao65,co65,eo65⟩:=Kd.R_slice HO_188001.out
     subst eo65
     try go_wp2_with (first | ((with_reducible refine gA_ (f:=51) rfl ?_);refine gL_ (some 24) Tryz.func51 #[.agg #[.slice Ao54 t191.length co54,.slice Ao56 t194.length co56],.agg #[.slice Ao64 x188000_1.length co64,.slice Ao65 x188001_1.length co65]] rfl qa_ ?_;(with_reducible refine (Z46.calls k1 _ _ t191 _ _ t194 _ _ x188000_1 _ _ x188001_1 false _ ?side1 ?side2 ?side3 ?side4 ?side5 ?side6 ?side7 ?side8 A19.out).mono ?_);(case side1=>refine (Kd.R_reads' (e:=3) (base:=w.heap.size) (ok:=fun k_=>(some k_≠(v189:Value).ownBlock∧(some k_≠(.slice Ao56 t194.length co56:Value).ownBlock∧(some k_≠(.slice Ao64 x188000_1.length co64:Value).ownBlock∧some k_≠(.slice Ao65 x188001_1.length co65:Value).ownBlock)))) (n:=t191.length) (c:=co54) ?_).2.2;exact (rw_ (fa_ HO193 BK197)));(case side2=>exact (Kd.R_reads' HO193.out).2.1);(case side3=>refine (Kd.R_reads' (e:=3) (base:=w.heap.size) (ok:=fun k_=>(some k_≠(v189:Value).ownBlock∧(some k_≠(.slice Ao54 t191.length co54:Value).ownBlock∧(some k_≠(.slice Ao64 x188000_1.length co64:Value).ownBlock∧some k_≠(.slice Ao65 x188001_1.length co65:Value).ownBlock)))) (n:=t194.length) (c:=co56) ?_).2.2;exact (rw_ (fa_ HO196 BK197)));(case side4=>exact (Kd.R_reads' HO196.out).2.1);(case side5=>refine (Kd.R_reads' (e:=3) (base:=w.heap.size) (ok:=fun k_=>(some k_≠(v189:Value).ownBlock∧(some k_≠(.slice Ao54 t191.length co54:Value).ownBlock∧(some k_≠(.slice Ao56 t194.length co56:Value).ownBlock∧some k_≠(.slice Ao65 x188001_1.length co65:Value).ownBlock)))) (n:=x188000_1.length) (c:=co64) ?_).2.2;exact (rw_ (fa_ HO_188000 BK197)));(case side6=>exact (Kd.R_reads' HO_188000.out).2.1);(case side7=>refine (Kd.R_reads' (e:=3) (base:=w.heap.size) (ok:=fun k_=>(some k_≠(v189:Value).ownBlock∧(some k_≠(.slice Ao54 t191.length co54:Value).ownBlock∧(some k_≠(.slice Ao56 t194.length co56:Value).ownBlock∧some k_≠(.slice Ao64 x188000_1.length co64:Value).ownBlock)))) (n:=x188001_1.length) (c:=co65) ?_).2.2;exact (rw_ (fa_ HO_188001 BK197)));(case side8=>exact (Kd.R_reads' HO_188001.out).2.1);rintro e w66 ⟨rfl,hb⟩;refine ⟨_,rfl,?_⟩;replace HO_188000:=A_ (rD_ (rw_ (fa_ HO_188000 BK197)) hb);replace HO_188001:=A_ (rD_ (rw_ (fa_ HO_188001 BK197)) hb);replace HO190:=A_ (rD_ (rw_ (fa_ HO190 BK197)) hb);replace HO193:=A_ (rD_ (rw_ (fa_ HO193 BK197)) hb);replace HO196:=A_ (rD_ (rw_ (fa_ HO196 BK197)) hb);replace BK176:=A_ (kE_ (g:=gb176) (o:=.cells #[.slice A0_0 l0_0.length c0_0,.slice A0_1 l0_1.length c0_1] 27 (0,0)) (by (with_reducible repeat (first | refine kA_ ?_ _ | refine kB_ ?_ | refine kC_ ?_ _));refine blk_far ?_ NB176_197.out _;(with_reducible repeat (first | refine kA_ ?_ _ | refine kB_ ?_ | refine kC_ ?_ _));refine blk_far ?_ NB176_197.out _;(with_reducible repeat (first | refine kA_ ?_ _ | refine kB_ ?_ | refine kC_ ?_ _));exact BK176.out) hb);replace BK177:=A_ (kE_ (g:=gb177) (o:=.cells #[.slice none 0 0,.slice none 0 0] 27 (0,0)) (by (with_reducible repeat (first | refine kA_ ?_ _ | refine kB_ ?_ | refine kC_ ?_ _));refine blk_far ?_ NB177_197.out _;(with_reducible repeat (first | refine kA_ ?_ _ | refine kB_ ?_ | refine kC_ ?_ _));refine blk_far ?_ NB177_197.out _;(with_reducible repeat (first | refine kA_ ?_ _ | refine kB_ ?_ | refine kC_ ?_ _));exact BK177.out) hb);replace BK187:=A_ (kE_ (g:=gb187) (o:=.cells #[.slice Ao64 x188000_1.length co64,.slice Ao65 x188001_1.length co65] 27 (0,0)) (by (with_reducible repeat (first | refine kA_ ?_ _ | refine kB_ ?_ | refine kC_ ?_ _));refine blk_far ?_ NB187_197.out _;(with_reducible repeat (first | refine kA_ ?_ _ | refine kB_ ?_ | refine kC_ ?_ _));refine blk_far ?_ NB187_197.out _;(with_reducible repeat (first | refine kA_ ?_ _ | refine kB_ ?_ | refine kC_ ?_ _));exact BK187.out) hb);replace BK197:=A_ (kE_ (g:=gb197) (o:=.cells #[.slice Ao54 t191.length co54,.slice Ao56 t194.length co56] 27 (0,0)) qp_ hb);replace HB:=b1_ hb;clear hb))
     go_roundg k1
     case measure=>have:=HK1.out;omega
     case rel=>exact ⟨(wrap64 (x4_1 + 1)),(x188000_1),(x188001_1),(.slice Ao64 x188000_1.length co64),(.slice Ao65 x188001_1.length co65),qc_,H',⟨by have:=HK1.out;omega⟩,⟨(rw_ (Kd.R_mono HO_188000.out (fun _ hk=>hk.2.2.2)))⟩,⟨(rw_ (Kd.R_mono HO_188001.out (fun _ hk=>hk.2.2.2)))⟩,⟨(kk_ BK176)⟩,⟨(kk_ BK177)⟩,⟨(kk_ BK187)⟩,⟨hB_⟩⟩
   ·rw [if_neg c16] at H
    have c16b0:=oD_ c16
    clear c16
    simp only [Option.some.injEq,Prod.mk.injEq] at H
    obtain ⟨rfl,rfl⟩:=H
    have hnb67:=NB176_177.out
    have hnc67:=NB177_176.out
    have hnb68:=NB176_187.out
    have hnc68:=NB187_176.out
    obtain ⟨hcz69_0,hcz69_1,hfz69_0,hfz69_1⟩:=c2_ BK176
    have hnb70:=NB187_177.out
    have hnc70:=NB177_187.out
    obtain ⟨hcz71_0,hcz71_1,hfz71_0,hfz71_1⟩:=c2_ BK187
    obtain ⟨Ao72,co72,eo72⟩:=Kd.R_slice HO_188000.out
    subst eo72
    obtain ⟨hcz73_0,hcz73_1,hfz73_0,hfz73_1⟩:=c2_ BK177
    obtain ⟨Ao74,co74,eo74⟩:=Kd.R_slice HO_188001.out
    subst eo74
    go_wp2
    refine bodyPost_ret (results_cell_row rfl _ _ gb177 27 #[.slice Ao72 x188000_1.length co72,.slice Ao74 x188001_1.length co74] (0,0) _ rfl qp_ Tryz.underlying27 rfl (by kernel_rfl)) rfl ?_
    exact ⟨_,_,qb_,(rw_ (fa_ HO_188000 BK177)),(rw_ (fa_ HO_188001 BK177)),hB_⟩
def Z70.l0:Nat→List Int→List Int→List Int→Int→Int→Option (List Int)
 | 0,_,_,_,_,_=>none
 | k + 1,x1,x5,x9,x10,x11=>if x11 < x10 then (if 0≤x11 then (if x11 < (x9.length:Int) then (if 0≤(rd x9 x11) then (if (rd x9 x11) < (x1.length:Int) then (if x5.length < 17592186044416 then (Z70.l0 k x1 (x5 ++ [rd x1 (rd x9 x11)]) x9 x10 (wrap64 (x11 + 1))) else (none)) else (none)) else (none)) else (none)) else (none)) else (some x5)
def Z70.f (k:Nat) (l0:List Int) (l1:List Int):Option (List Int):=Z70.l0 k l1 (([]:List Int)) l0 (l0.length:Int) 0
theorem Z70.mono_l:∀ k,(∀ y0 y1 y2 y3 y4,LeO (Z70.l0 k y0 y1 y2 y3 y4) (Z70.l0 (k + 1) y0 y1 y2 y3 y4))
 | 0=>fun _ _ _ _ _ r h=>by simp [Z70.l0] at h
 | k + 1=>by
  have ih0:=Z70.mono_l k
  ·intro y0 y1 y2 y3 y4
   unfold Z70.l0
   repeat' first|exact ih0 _ _ _ _ _|exact lo_|refine LeO.ite ?_ ?_|refine LeO.bind ?_ (fun _=>?_)
theorem Z70.mono:∀ a0 a1 k,LeO (Z70.f k a0 a1) (Z70.f (k + 1) a0 a1):=by
 intro a0 a1 k
 have ih0:=Z70.mono_l k
 unfold Z70.f
 repeat' first|exact ih0 _ _ _ _ _|exact lo_|refine LeO.ite ?_ ?_|refine LeO.bind ?_ (fun _=>?_)
set_option maxHeartbeats 8000000 in
set_option maxRecDepth 100000 in
theorem Z70.calls (k:Nat) (A0:Option Addr) (c0:Nat) (l0:List Int) (A1:Option Addr) (c1:Nat) (l1:List Int) (r:List Int) (w:World) (hr0:Kd.C (Kd.int .i64) w A0 l0.length l0) (hc0:l0.length≤c0) (hr1:Kd.C (Kd.int .i64) w A1 l1.length l1) (hc1:l1.length≤c1) (h:Z70.f k l0 l1 = some r) :
  Calls Tryz.prog 52 #[.slice A0 l0.length c0,.slice A1 l1.length c1] w fun e w'=>∃ v0_:Value,e = .returned (v0_)∧Kd.R (Kd.int .i64) 3 w' w.heap.size (fun _=>True) v0_ r∧Below w.heap.size w w':=by
 have HR0:=A_ hr0
 have HC0:=A_ hc0
 clear hr0 hc0
 have HR1:=A_ hr1
 have HC1:=A_ hc1
 clear hr1 hc1
 have HB:=A_ (Below.refl w.heap.size w)
 have H:=h
 unfold Z70.f at H
 clear h
 obtain ⟨y199,hy199⟩:∃ y_:List Int,y_ = (([]:List Int)):=⟨_,rfl⟩
 replace H:(Z70.l0 k l1 y199 l0 (l0.length:Int) 0) = some r:=by first | (rw [hy199];exact H) | exact H
 have Ny199:=A_ hy199
 clear hy199
 have H':=A_ H
 clear H
 go_enter Tryz.func52,Tryz.ntmps52
 go_wp2_with (first | ((with_reducible refine gB_ (N:=8) rfl ?_);refine Kd.R_lit (Kd.int .i64) _ 3 ?hg (N:=8) ?hd (xs:=([]:List Int)) (inner:=[]) (ok:=fun _=>True) (okp:=fun _=>True) ?hr ?hp (fun _ hk=>hk) trivial (Below.refl _ _) (nA_ _) (by simp) ?_;(case hd=>rfl);(case hg=>rfl);(case hr=>first | (go_simp;done) | (go_simp;rfl));(case hp=>exact (Reps.none _ _));intro v200 w3 ho4 hb hg_ hnew_;clear hg_ hnew_;(first | rw [← Ny199.out] at ho4 | (simp only [Int.reduceToNat] at ho4;rw [← Ny199.out] at ho4));have HO201:=rl_ w ho4;replace HB:=b1_ hb;clear hb ho4))
 go_loopg [5,11] k (fun kq v5 v11 w'=>∃ (x5_1:List Int) (x11_1:Int),v11 = .int .i64 x11_1∧Aside0 (Z70.l0 kq l1 x5_1 l0 (l0.length:Int) x11_1 = some r)∧Aside0 (kq≤k)∧Aside0 (Kd.R (Kd.int .i64) 3 w' w.heap.size (fun _=>True) v5 x5_1)∧Aside0 (Below w.heap.size w w'))
 case atStart=>exact ⟨(y199),(0),qc_,H',⟨nA_ _⟩,⟨(rr_ HO201)⟩,⟨hB_⟩⟩
 case round =>
  clear H'
  obtain ⟨x5_1,x11_1,rfl,HA,HK1,HO_5,HB⟩:=hrel
  cases gk with
  | zero=>exact absurd HA.out (by simp [Z70.l0])
  | succ k1 =>
   have H:=HA.out
   clear HA
   simp only [Z70.l0] at H
   by_cases c5:x11_1 < (l0.length:Int)
   ·rw [if_pos c5] at H
    have c5b0:=oC_ c5
    clear c5
    have c6:=cp_ H
    replace H:=ca_ H
    have c6b0:=oC_ c6
    clear c6
    have c7:=cp_ H
    replace H:=ca_ H
    have c7b0:=oC_ c7
    clear c7
    have c8:=cp_ H
    replace H:=ca_ H
    have c8b0:=oC_ c8
    clear c8
    have c9:=cp_ H
    replace H:=ca_ H
    have c9b0:=oC_ c9
    clear c9
    have c10:=cp_ H
    replace H:=ca_ H
    have LMc10:=A_ c10
    clear c10
    obtain ⟨y204,hy204⟩:∃ y_:List Int,y_ = (x5_1 ++ [rd l1 (rd l0 x11_1)]):=⟨_,rfl⟩
    replace H:(Z70.l0 k1 l1 y204 l0 (l0.length:Int) (wrap64 (x11_1 + 1))) = some r:=by first | (rw [hy204];exact H) | exact H
    have Ny204:=A_ hy204
    clear hy204
    have H':=A_ H
    clear H
    have p202:0≤(x11_1:Int):=oB_ qe_
    have q202:x11_1 < (l0.length:Int):=oB_ qe_
    obtain ⟨ad202,e202,hx202_0⟩:=Kd.at_int HR0.out x11_1 p202 q202
    cases e202
    replace hx202_0:=(HB.out.cell (World.block_lt_of_cell? w _ hx202_0)).trans hx202_0
    replace p202:=eq_true p202
    replace q202:=eq_true q202
    have p203:0≤((rd l0 x11_1):Int):=oB_ qe_
    have q203:(rd l0 x11_1) < (l1.length:Int):=oB_ qe_
    obtain ⟨ad203,e203,hx203_0⟩:=Kd.at_int HR1.out (rd l0 x11_1) p203 q203
    cases e203
    replace hx203_0:=(HB.out.cell (World.block_lt_of_cell? w _ hx203_0)).trans hx203_0
    replace p203:=eq_true p203
    replace q203:=eq_true q203
    go_wp2_with (first | ((with_reducible refine gate_builtin (b:=.append) (xs:=#[.tmp 15,.tmp 20]) rfl ?_);at_builtin;refine Kd.R_append (Kd.int .i64) (w0:=w) w.heap.size rfl (.tmp 15) (.tmp 20) 22 3 (.int .i64 0) 8 rfl Tryz.underlying22 info3 rfl (by decide) (by omega) u5 x5_1 (rd l1 (rd l0 x11_1)) [.int .i64 (rd l1 (rd l0 x11_1))] (fun _=>True) (fun _=>False) rfl rfl ?aP (fun _ hk=>hk.elim) ?aF ?aO ?aB ?aS ?aL ?_;(case aP=>exact rfl);(case aB=>exact hB_);(case aF=>exact (fun _ _=>trivial));(case aO=>exact (rr_ HO_5));(case aS=>exact (bF_ hB_));(case aL=>have:=LMc10.out;omega);intro v205 w11 ho hb hg hat;rw [← Ny204.out] at ho;replace HB:=A_ hb;have HO206:=A_ ho;clear HO_5;clear ho hb hg hat))
    go_roundg k1
    case measure=>have:=HK1.out;omega
    case rel=>exact ⟨(y204),(wrap64 (x11_1 + 1)),qc_,H',⟨by have:=HK1.out;omega⟩,⟨(rr_ HO206)⟩,⟨hB_⟩⟩
   ·rw [if_neg c5] at H
    have c5b0:=oD_ c5
    clear c5
    obtain rfl:=Option.some.inj H
    go_wp2
    go_ret
    exact ⟨_,qb_,(rr_ HO_5),hB_⟩
def Z59.f (k:Nat) (l0_0:List Int) (l0_1:List Int):Option (List Int × List Int):=(some (([]:List Int):List Int)).bind fun y209=>(if y209.length + l0_0.length < 17592186044416 then ((Z34.f k l0_0).bind fun t215=>((Z70.f k t215 l0_1).bind fun t218=>(some ((y209 ++ l0_0),t218)))) else (none))
theorem Z59.mono:∀ a0 a1 k,LeO (Z59.f k a0 a1) (Z59.f (k + 1) a0 a1):=by
 intro a0 a1 k
 unfold Z59.f
 repeat' first|exact Z34.mono _ _|exact Z70.mono _ _ _|exact lo_|refine LeO.ite ?_ ?_|refine LeO.bind ?_ (fun _=>?_)
def Z59.T1:Bool × List (List Nat × List Nat):=(true,[([],[]),([],[]),([1],[1]),([0,2],[0,2]),([],[]),([4],[4]),([5,3],[5]),([],[]),([7],[7]),([6,8,6],[6,8]),([3,9],[3,9]),([10,9,0,1,2,3,4,5,6,7,8,9,10],[10])])
def Z59.B1:List Nat:=[0,0,2,7,0,16,63,0,128,511,1023,2047]
theorem Z59.tab1:rtab .any (opsOf Tryz.f36 1) = Z59.T1:=by kernel_rfl
theorem Z59.bits1:waitsOk Z59.T1.2 Z59.B1 = true:=by kernel_rfl
set_option maxHeartbeats 8000000 in
set_option maxRecDepth 100000 in
theorem Z59.calls (k:Nat) (A0_0:Option Addr) (c0_0:Nat) (l0_0:List Int) (A0_1:Option Addr) (c0_1:Nat) (l0_1:List Int) (r1:List Int) (r2:List Int) (w:World) (hr0_0:Kd.C (Kd.int .i64) w A0_0 l0_0.length l0_0) (hc0_0:l0_0.length≤c0_0) (hr0_1:Kd.C (Kd.int .i64) w A0_1 l0_1.length l0_1) (hc0_1:l0_1.length≤c0_1) (h:Z59.f k l0_0 l0_1 = some (r1,r2)) :
  Calls Tryz.prog 36 #[.agg #[.slice A0_0 l0_0.length c0_0,.slice A0_1 l0_1.length c0_1]] w fun e w'=>∃ v0_ v1_:Value,e = .returned (.agg #[v0_,v1_])∧Kd.R (Kd.int .i64) 3 w' w.heap.size (fun k_=>some k_≠(v1_:Value).ownBlock) v0_ r1∧Kd.R (Kd.int .i64) 3 w' w.heap.size (fun k_=>some k_≠(v0_:Value).ownBlock) v1_ r2∧Below w.heap.size w w':=by
 have hu27:=Tryz.underlying27
 have HR0_0:=A_ hr0_0
 have HC0_0:=A_ hc0_0
 clear hr0_0 hc0_0
 have HR0_1:=A_ hr0_1
 have HC0_1:=A_ hc0_1
 clear hr0_1 hc0_1
 have HB:=A_ (Below.refl w.heap.size w)
 have H:=h
 unfold Z59.f at H
 clear h
 obtain ⟨y209,hy209⟩:∃ y_:List Int,y_ = (([]:List Int)):=⟨_,rfl⟩
 replace H:(if y209.length + l0_0.length < 17592186044416 then ((Z34.f k l0_0).bind fun t215=>((Z70.f k t215 l0_1).bind fun t218=>(some ((y209 ++ l0_0),t218)))) else (none)) = some (r1,r2):=by first | (rw [hy209];exact H) | exact H
 have Ny209:=A_ hy209
 clear hy209
 have c2:=cp_ H
 replace H:=ca_ H
 have LMc2:=A_ c2
 clear c2
 obtain ⟨y212,hy212⟩:∃ y_:List Int,y_ = (y209 ++ l0_0):=⟨_,rfl⟩
 replace H:((Z34.f k l0_0).bind fun t215=>((Z70.f k t215 l0_1).bind fun t218=>(some (y212,t218)))) = some (r1,r2):=by first | (rw [hy212];exact H) | exact H
 have Ny212:=A_ hy212
 clear hy212
 obtain ⟨t215,A3,H⟩:=bi_ H
 obtain ⟨t218,A4,H⟩:=bi_ H
 simp only [Option.some.injEq,Prod.mk.injEq] at H
 obtain ⟨rfl,rfl⟩:=H
 go_enter Tryz.func36,Tryz.ntmps36
 try go_wp2_with (first | ((with_reducible refine gB_ (N:=1) rfl ?_);refine bx_ 1 #[.slice A0_0 l0_0.length c0_0,.slice A0_1 l0_1.length c0_1] 27 ?_;intro gb207 hg w5 hbox hb;have BK207:=A_ hbox;have GW207:=gw_ w hg;have GE207:=GW207;replace HB:=b1_ hb;clear hb hbox hg) | ((with_reducible refine gB_ (N:=2) rfl ?_);refine bx_ 2 #[.slice none 0 0,.slice none 0 0] 27 ?_;intro gb208 hg w6 hbox hb;have BK208:=A_ hbox;have GW208:=gw_ w hg;have GE208:=GW208;replace HB:=b1_ hb;have NB207_208:=gN_ BK207 hg;have NB208_207:=gP_ BK207 hg;replace BK207:=bb_ BK207 hb;clear hb hbox hg))
 replace BK207:=A_ (kB_ BK207.out)
 replace BK208:=A_ (kB_ BK208.out)
 replace HB:=A_ (bC_ HB.out)
 refine start_ (n:=12) (S:=fun w'=>w'.cell? ⟨gb207,0,none⟩ = some (.slice A0_0 l0_0.length c0_0)∧w'.cell? ⟨gb207,1,none⟩ = some (.slice A0_1 l0_1.length c0_1)) (ds:=[]) (bl_ 12 0) (by kernel_rfl) rfl (by kernel_rfl) ⟨cz0_ BK207,cz1_ BK207⟩ (fun hHeld=>?_);refine with_tabW Z59.tab1 Z59.bits1 (fun HT_ HW_=>?_)
 generalize w6.drew = w7 at BK207 BK208 HB hHeld ⊢
 refine pu_ 1 (some 4) (bl_ 12 2) HT_ ?_
 refine pu_ 4 (some 7) (bl_ 12 18) HT_ ?_
 refine pu_ 7 (some 10) (bl_ 12 146) HT_ ?_
 refine ta_ 2 (some 5) (bl_ 12 150) HT_ HW_ hHeld ?_
 refine ta_ 5 (some 8) (bl_ 12 182) HT_ HW_ hHeld ?_
 refine ta_ 8 (some 11) (bl_ 12 438) HT_ HW_ hHeld ?_
 refine on_ 0 (some 3) (bl_ 12 439) HT_ (fun K hK=>?_)
 refine Kd.R_lit_step (Kd.int .i64) _ 3 ?hg (N:=3) ?hd (xs:=([]:List Int)) (inner:=[]) (ok:=fun _=>True) (okp:=fun _=>True) ?hr ?hp (fun _ hk=>hk) trivial (Below.refl _ _) (nA_ _) (by simp) ?_;(case hd=>rfl);(case hg=>rfl);(case hr=>first | (go_simp;done) | (go_simp;rfl));(case hp=>exact (Reps.none _ _))
 intro v210 w8 ho9 hb hg_ hnew_
 clear hg_ hnew_
 (first | rw [← Ny209.out] at ho9 | (simp only [Int.reduceToNat] at ho9;rw [← Ny209.out] at ho9))
 have HO211:=rl_ w ho9
 replace BK207:=bb_ BK207 hb
 replace BK208:=bb_ BK208 hb
 replace HB:=b1_ hb
 clear hb ho9
 refine hK.out _ _ ⟨cz0_ BK207,cz1_ BK207⟩ (fun hHeld=>?_)
 clear hK K
 refine no_ (some 3) ?_
 refine on_ 3 (some 6) (bl_ 12 447) HT_ (fun K hK=>?_)
 refine Kd.R_append_rows_step (Kd.int .i64) (w0:=w) w.heap.size (by rfl) (.tmp 3) (.tmp 5) 22 3 (.int .i64 0) 8 rfl Tryz.underlying22 info3 rfl (by decide) (by omega) v210 y209 l0_0 _ _ _ (fun _=>True) (fun _=>False) rfl rfl ?aO ?aR (fun _ _ h=>h) (fun _ h=>h.elim) ?aF ?aB ?aS ?aL ?_
 (case aR=>exact cb_ HR0_0)
 (case aB=>exact hB_)
 (case aF=>exact (fun _ _=>trivial))
 (case aO=>exact (rr_ HO211))
 (case aS=>exact (bF_ hB_))
 (case aL=>have:=LMc2.out;omega)
 intro v213 w10 ho hb hg hat
 rw [← Ny212.out] at ho
 replace BK207:=A_ (blk_grown (kk_ BK207) hg (Kd.R_ne HO211.out BK207.out (by decide)))
 replace BK208:=A_ (blk_grown (kk_ BK208) hg (Kd.R_ne HO211.out BK208.out (by decide)))
 replace HB:=A_ hb
 have HO214:=A_ ho
 clear HO211
 clear ho hb hg hat
 refine hK.out _ _ ⟨cz0_ BK207,cz1_ BK207⟩ (fun hHeld=>?_)
 clear hK K
 refine no_ (some 6) ?_
 refine on_ 6 (some 9) (bl_ 12 511) HT_ (fun K hK=>?_)
 refine gO_ Tryz.func53 #[.slice A0_0 l0_0.length c0_0] (by rfl) rfl rfl qa_ ?_
 with_reducible refine (Z34.calls k _ _ l0_0 t215 _ (cb_ HR0_0) HC0_0.out A3.out).mono ?_
 rintro e w11 ⟨v216,rfl,ho0,hb⟩
 refine ⟨_,rfl,?_⟩
 have HO217:=A_ (rE_ (Kd.R_new' ho0 (Kd.R_lt (rr_ HO214))) (bF_ hB_))
 replace HO214:=A_ (Kd.R_elder' (rr_ HO214) (Kd.R_base ho0) hb)
 replace BK207:=bb_ BK207 hb
 replace BK208:=bb_ BK208 hb
 replace HB:=b1_ hb
 clear hb ho0
 obtain ⟨Ao12,co12,eo12⟩:=Kd.R_slice HO217.out
 (first | subst eo12 | (injection eo12 with f1_ f2_ f3_;have f4_:=f1_.symm;have f5_:=f3_.symm;clear f1_ f2_ f3_;subst f4_;subst f5_))
 refine hK.out _ _ ⟨cz0_ BK207,cz1_ BK207⟩ (fun hHeld=>?_)
 clear hK K
 refine no_ (some 9) ?_
 refine on_ 9 (some 12) (bl_ 12 1023) HT_ (fun K hK=>?_)
 refine gO_ Tryz.func52 #[.slice Ao12 t215.length co12,.slice A0_1 l0_1.length c0_1] (by rfl) rfl rfl qa_ ?_
 with_reducible refine (Z70.calls k _ _ t215 _ _ l0_1 t218 _ (cr_ HO217) ((Kd.R_reads' HO217.out).2.1) (cb_ HR0_1) HC0_1.out A4.out).mono ?_
 rintro e w13 ⟨v219,rfl,ho0,hb⟩
 refine ⟨_,rfl,?_⟩
 have HO220:=A_ (rE_ (Kd.R_new' (Kd.R_new' ho0 (Kd.R_lt (rr_ HO214))) (Kd.R_lt (rr_ HO217))) (bF_ hB_))
 replace HO214:=A_ (Kd.R_elder' (rr_ HO214) (Kd.R_base ho0) hb)
 replace HO217:=A_ (Kd.R_elder' (rr_ HO217) (Kd.R_base ho0) hb)
 replace BK207:=bb_ BK207 hb
 replace BK208:=bb_ BK208 hb
 replace HB:=b1_ hb
 clear hb ho0
 obtain ⟨Ao14,co14,eo14⟩:=Kd.R_slice HO220.out
 (first | subst eo14 | (injection eo14 with f1_ f2_ f3_;have f4_:=f1_.symm;have f5_:=f3_.symm;clear f1_ f2_ f3_;subst f4_;subst f5_))
 obtain ⟨Ao15,co15,eo15⟩:=Kd.R_slice HO214.out
 (first | subst eo15 | (injection eo15 with f1_ f2_ f3_;have f4_:=f1_.symm;have f5_:=f3_.symm;clear f1_ f2_ f3_;subst f4_;subst f5_))
 refine hK.out _ _ ⟨cz0_ BK207,cz1_ BK207⟩ (fun hHeld=>?_)
 clear hK K
 refine no_ (some 12) ?_
 refine pu_ 10 (some 13) (bl_ 12 2047) HT_ ?_
 refine on_ 11 (none) (bl_ 12 4095) HT_ (fun K hK=>?_)
 have hs16:w13.cell? ⟨gb208,0,none⟩ = some (.slice none 0 0):=cz0_ BK208
 have hfs16:=kD_ BK208.out 0
 have hns16_0:=NB207_208.out
 have hms16_0:=NB208_207.out
 have hs17:w13.cell? ⟨gb208,1,none⟩ = some (.slice none 0 0):=cz1_ BK208
 have hfs17:=kD_ BK208.out 1
 have hns17_0:=NB207_208.out
 have hms17_0:=NB208_207.out
 refine skip_ (w1:=?_) (by rfl) rfl ?_ ?_
 rotate_left
 ·go_simp
  rfl
 refine hK.out _ _ ⟨((cell_far (p:=⟨gb208,_,none⟩) NB207_208.out _).trans (((cell_far (p:=⟨gb208,_,none⟩) NB207_208.out _).trans (hHeld.1)))),((cell_far (p:=⟨gb208,_,none⟩) NB207_208.out _).trans (((cell_far (p:=⟨gb208,_,none⟩) NB207_208.out _).trans (hHeld.2))))⟩ (fun hHeld=>?_)
 clear hK K
 refine done_ (done_of HT_.out (by kernel_rfl)) ?_
 try go_wp2
 refine bodyPost_ret (results_cell_row rfl _ _ gb208 27 #[.slice Ao15 y212.length co15,.slice Ao14 t218.length co14] (0,0) _ rfl qp_ Tryz.underlying27 rfl (by kernel_rfl)) rfl ?_
 exact ⟨_,_,qb_,(rw_ (Kd.R_mono (fa_ HO214 BK208) (fun _ hk=>hk.2))),(rw_ (Kd.R_mono (fa_ HO220 BK208) (fun _ hk=>hk.1.2))),hB_⟩
def Z35.f (k:Nat) (l0_0:List Int) (l0_1:List Int):Option (List Int × List Int):=(some (([]:List Int):List Int)).bind fun y223=>(if y223.length + l0_0.length < 17592186044416 then ((Z70.f k l0_0 l0_1).bind fun t229=>(some ((y223 ++ l0_0),t229))) else (none))
theorem Z35.mono:∀ a0 a1 k,LeO (Z35.f k a0 a1) (Z35.f (k + 1) a0 a1):=by
 intro a0 a1 k
 unfold Z35.f
 repeat' first|exact Z70.mono _ _ _|exact lo_|refine LeO.ite ?_ ?_|refine LeO.bind ?_ (fun _=>?_)
def Z35.T1:Bool × List (List Nat × List Nat):=(true,[([],[]),([],[]),([1],[1]),([0,2],[0,2]),([],[]),([4],[4]),([],[]),([6],[6]),([5,7,3],[5,7]),([3,8],[3,8]),([9,8,0,1,2,3,4,5,6,7,8,9],[9])])
def Z35.B1:List Nat:=[0,0,2,7,0,16,0,64,255,511,1023]
theorem Z35.tab1:rtab .any (opsOf Tryz.f81 1) = Z35.T1:=by kernel_rfl
theorem Z35.bits1:waitsOk Z35.T1.2 Z35.B1 = true:=by kernel_rfl
set_option maxHeartbeats 8000000 in
set_option maxRecDepth 100000 in
theorem Z35.calls (k:Nat) (A0_0:Option Addr) (c0_0:Nat) (l0_0:List Int) (A0_1:Option Addr) (c0_1:Nat) (l0_1:List Int) (r1:List Int) (r2:List Int) (w:World) (hr0_0:Kd.C (Kd.int .i64) w A0_0 l0_0.length l0_0) (hc0_0:l0_0.length≤c0_0) (hr0_1:Kd.C (Kd.int .i64) w A0_1 l0_1.length l0_1) (hc0_1:l0_1.length≤c0_1) (h:Z35.f k l0_0 l0_1 = some (r1,r2)) :
  Calls Tryz.prog 81 #[.agg #[.slice A0_0 l0_0.length c0_0,.slice A0_1 l0_1.length c0_1]] w fun e w'=>∃ v0_ v1_:Value,e = .returned (.agg #[v0_,v1_])∧Kd.R (Kd.int .i64) 3 w' w.heap.size (fun k_=>some k_≠(v1_:Value).ownBlock) v0_ r1∧Kd.R (Kd.int .i64) 3 w' w.heap.size (fun k_=>some k_≠(v0_:Value).ownBlock) v1_ r2∧Below w.heap.size w w':=by
 have hu27:=Tryz.underlying27
 have HR0_0:=A_ hr0_0
 have HC0_0:=A_ hc0_0
 clear hr0_0 hc0_0
 have HR0_1:=A_ hr0_1
 have HC0_1:=A_ hc0_1
 clear hr0_1 hc0_1
 have HB:=A_ (Below.refl w.heap.size w)
 have H:=h
 unfold Z35.f at H
 clear h
 obtain ⟨y223,hy223⟩:∃ y_:List Int,y_ = (([]:List Int)):=⟨_,rfl⟩
 replace H:(if y223.length + l0_0.length < 17592186044416 then ((Z70.f k l0_0 l0_1).bind fun t229=>(some ((y223 ++ l0_0),t229))) else (none)) = some (r1,r2):=by first | (rw [hy223];exact H) | exact H
 have Ny223:=A_ hy223
 clear hy223
 have c2:=cp_ H
 replace H:=ca_ H
 have LMc2:=A_ c2
 clear c2
 obtain ⟨y226,hy226⟩:∃ y_:List Int,y_ = (y223 ++ l0_0):=⟨_,rfl⟩
 replace H:((Z70.f k l0_0 l0_1).bind fun t229=>(some (y226,t229))) = some (r1,r2):=by first | (rw [hy226];exact H) | exact H
 have Ny226:=A_ hy226
 clear hy226
 obtain ⟨t229,A3,H⟩:=bi_ H
 simp only [Option.some.injEq,Prod.mk.injEq] at H
 obtain ⟨rfl,rfl⟩:=H
 go_enter Tryz.func81,Tryz.ntmps81
 try go_wp2_with (first | ((with_reducible refine gB_ (N:=1) rfl ?_);refine bx_ 1 #[.slice A0_0 l0_0.length c0_0,.slice A0_1 l0_1.length c0_1] 27 ?_;intro gb221 hg w4 hbox hb;have BK221:=A_ hbox;have GW221:=gw_ w hg;have GE221:=GW221;replace HB:=b1_ hb;clear hb hbox hg) | ((with_reducible refine gB_ (N:=2) rfl ?_);refine bx_ 2 #[.slice none 0 0,.slice none 0 0] 27 ?_;intro gb222 hg w5 hbox hb;have BK222:=A_ hbox;have GW222:=gw_ w hg;have GE222:=GW222;replace HB:=b1_ hb;have NB221_222:=gN_ BK221 hg;have NB222_221:=gP_ BK221 hg;replace BK221:=bb_ BK221 hb;clear hb hbox hg))
 replace BK221:=A_ (kB_ BK221.out)
 replace BK222:=A_ (kB_ BK222.out)
 replace HB:=A_ (bC_ HB.out)
 refine start_ (n:=11) (S:=fun w'=>w'.cell? ⟨gb221,0,none⟩ = some (.slice A0_0 l0_0.length c0_0)∧w'.cell? ⟨gb221,1,none⟩ = some (.slice A0_1 l0_1.length c0_1)) (ds:=[]) (bl_ 11 0) (by kernel_rfl) rfl (by kernel_rfl) ⟨cz0_ BK221,cz1_ BK221⟩ (fun hHeld=>?_);refine with_tabW Z35.tab1 Z35.bits1 (fun HT_ HW_=>?_)
 generalize w5.drew = w6 at BK221 BK222 HB hHeld ⊢
 refine pu_ 1 (some 4) (bl_ 11 2) HT_ ?_
 refine pu_ 4 (some 7) (bl_ 11 18) HT_ ?_
 refine pu_ 6 (some 9) (bl_ 11 82) HT_ ?_
 refine ta_ 2 (some 5) (bl_ 11 86) HT_ HW_ hHeld ?_
 refine ta_ 5 (some 8) (bl_ 11 118) HT_ HW_ hHeld ?_
 refine ta_ 7 (some 10) (bl_ 11 246) HT_ HW_ hHeld ?_
 refine on_ 0 (some 3) (bl_ 11 247) HT_ (fun K hK=>?_)
 refine Kd.R_lit_step (Kd.int .i64) _ 3 ?hg (N:=3) ?hd (xs:=([]:List Int)) (inner:=[]) (ok:=fun _=>True) (okp:=fun _=>True) ?hr ?hp (fun _ hk=>hk) trivial (Below.refl _ _) (nA_ _) (by simp) ?_;(case hd=>rfl);(case hg=>rfl);(case hr=>first | (go_simp;done) | (go_simp;rfl));(case hp=>exact (Reps.none _ _))
 intro v224 w7 ho8 hb hg_ hnew_
 clear hg_ hnew_
 (first | rw [← Ny223.out] at ho8 | (simp only [Int.reduceToNat] at ho8;rw [← Ny223.out] at ho8))
 have HO225:=rl_ w ho8
 replace BK221:=bb_ BK221 hb
 replace BK222:=bb_ BK222 hb
 replace HB:=b1_ hb
 clear hb ho8
 refine hK.out _ _ ⟨cz0_ BK221,cz1_ BK221⟩ (fun hHeld=>?_)
 clear hK K
 refine no_ (some 3) ?_
 refine on_ 3 (some 6) (bl_ 11 255) HT_ (fun K hK=>?_)
 refine Kd.R_append_rows_step (Kd.int .i64) (w0:=w) w.heap.size (by rfl) (.tmp 3) (.tmp 5) 22 3 (.int .i64 0) 8 rfl Tryz.underlying22 info3 rfl (by decide) (by omega) v224 y223 l0_0 _ _ _ (fun _=>True) (fun _=>False) rfl rfl ?aO ?aR (fun _ _ h=>h) (fun _ h=>h.elim) ?aF ?aB ?aS ?aL ?_
 (case aR=>exact cb_ HR0_0)
 (case aB=>exact hB_)
 (case aF=>exact (fun _ _=>trivial))
 (case aO=>exact (rr_ HO225))
 (case aS=>exact (bF_ hB_))
 (case aL=>have:=LMc2.out;omega)
 intro v227 w9 ho hb hg hat
 rw [← Ny226.out] at ho
 replace BK221:=A_ (blk_grown (kk_ BK221) hg (Kd.R_ne HO225.out BK221.out (by decide)))
 replace BK222:=A_ (blk_grown (kk_ BK222) hg (Kd.R_ne HO225.out BK222.out (by decide)))
 replace HB:=A_ hb
 have HO228:=A_ ho
 clear HO225
 clear ho hb hg hat
 refine hK.out _ _ ⟨cz0_ BK221,cz1_ BK221⟩ (fun hHeld=>?_)
 clear hK K
 refine no_ (some 6) ?_
 refine on_ 8 (some 11) (bl_ 11 511) HT_ (fun K hK=>?_)
 refine gO_ Tryz.func52 #[.slice A0_0 l0_0.length c0_0,.slice A0_1 l0_1.length c0_1] (by rfl) rfl rfl qa_ ?_
 with_reducible refine (Z70.calls k _ _ l0_0 _ _ l0_1 t229 _ (cb_ HR0_0) HC0_0.out (cb_ HR0_1) HC0_1.out A3.out).mono ?_
 rintro e w10 ⟨v230,rfl,ho0,hb⟩
 refine ⟨_,rfl,?_⟩
 have HO231:=A_ (rE_ (Kd.R_new' ho0 (Kd.R_lt (rr_ HO228))) (bF_ hB_))
 replace HO228:=A_ (Kd.R_elder' (rr_ HO228) (Kd.R_base ho0) hb)
 replace BK221:=bb_ BK221 hb
 replace BK222:=bb_ BK222 hb
 replace HB:=b1_ hb
 clear hb ho0
 obtain ⟨Ao11,co11,eo11⟩:=Kd.R_slice HO231.out
 (first | subst eo11 | (injection eo11 with f1_ f2_ f3_;have f4_:=f1_.symm;have f5_:=f3_.symm;clear f1_ f2_ f3_;subst f4_;subst f5_))
 obtain ⟨Ao12,co12,eo12⟩:=Kd.R_slice HO228.out
 (first | subst eo12 | (injection eo12 with f1_ f2_ f3_;have f4_:=f1_.symm;have f5_:=f3_.symm;clear f1_ f2_ f3_;subst f4_;subst f5_))
 refine hK.out _ _ ⟨cz0_ BK221,cz1_ BK221⟩ (fun hHeld=>?_)
 clear hK K
 refine no_ (some 11) ?_
 refine pu_ 9 (some 12) (bl_ 11 1023) HT_ ?_
 refine on_ 10 (none) (bl_ 11 2047) HT_ (fun K hK=>?_)
 have hs13:w10.cell? ⟨gb222,0,none⟩ = some (.slice none 0 0):=cz0_ BK222
 have hfs13:=kD_ BK222.out 0
 have hns13_0:=NB221_222.out
 have hms13_0:=NB222_221.out
 have hs14:w10.cell? ⟨gb222,1,none⟩ = some (.slice none 0 0):=cz1_ BK222
 have hfs14:=kD_ BK222.out 1
 have hns14_0:=NB221_222.out
 have hms14_0:=NB222_221.out
 refine skip_ (w1:=?_) (by rfl) rfl ?_ ?_
 rotate_left
 ·go_simp
  rfl
 refine hK.out _ _ ⟨((cell_far (p:=⟨gb222,_,none⟩) NB221_222.out _).trans (((cell_far (p:=⟨gb222,_,none⟩) NB221_222.out _).trans (hHeld.1)))),((cell_far (p:=⟨gb222,_,none⟩) NB221_222.out _).trans (((cell_far (p:=⟨gb222,_,none⟩) NB221_222.out _).trans (hHeld.2))))⟩ (fun hHeld=>?_)
 clear hK K
 refine done_ (done_of HT_.out (by kernel_rfl)) ?_
 try go_wp2
 refine bodyPost_ret (results_cell_row rfl _ _ gb222 27 #[.slice Ao12 y226.length co12,.slice Ao11 t229.length co11] (0,0) _ rfl qp_ Tryz.underlying27 rfl (by kernel_rfl)) rfl ?_
 exact ⟨_,_,qb_,(rw_ (Kd.R_mono (fa_ HO228 BK222) (fun _ hk=>hk.2))),(rw_ (Kd.R_mono (fa_ HO231 BK222) (fun _ hk=>hk.2))),hB_⟩
def Z73.f (k:Nat) (l0_0:List Int) (l0_1:List Int):Option (List Int × List Int):=(Z34.f k l0_1).bind fun t234=>((some (([]:List Int):List Int)).bind fun y237=>(if y237.length + l0_0.length < 17592186044416 then (some (t234,(y237 ++ l0_0))) else (none)))
theorem Z73.mono:∀ a0 a1 k,LeO (Z73.f k a0 a1) (Z73.f (k + 1) a0 a1):=by
 intro a0 a1 k
 unfold Z73.f
 repeat' first|exact Z34.mono _ _|exact lo_|refine LeO.ite ?_ ?_|refine LeO.bind ?_ (fun _=>?_)
def Z73.T1:Bool × List (List Nat × List Nat):=(true,[([],[]),([0],[0]),([1],[1]),([],[]),([],[]),([4],[4]),([3,5,2],[3,5]),([2,6],[2,6]),([7,6,0,1,2,3,4,5,6,7],[7])])
def Z73.B1:List Nat:=[0,1,3,0,0,16,63,127,255]
theorem Z73.tab1:rtab .any (opsOf Tryz.f82 1) = Z73.T1:=by kernel_rfl
theorem Z73.bits1:waitsOk Z73.T1.2 Z73.B1 = true:=by kernel_rfl
set_option maxHeartbeats 8000000 in
set_option maxRecDepth 100000 in
theorem Z73.calls (k:Nat) (A0_0:Option Addr) (c0_0:Nat) (l0_0:List Int) (A0_1:Option Addr) (c0_1:Nat) (l0_1:List Int) (r1:List Int) (r2:List Int) (w:World) (hr0_0:Kd.C (Kd.int .i64) w A0_0 l0_0.length l0_0) (hc0_0:l0_0.length≤c0_0) (hr0_1:Kd.C (Kd.int .i64) w A0_1 l0_1.length l0_1) (hc0_1:l0_1.length≤c0_1) (h:Z73.f k l0_0 l0_1 = some (r1,r2)) :
  Calls Tryz.prog 82 #[.agg #[.slice A0_0 l0_0.length c0_0,.slice A0_1 l0_1.length c0_1]] w fun e w'=>∃ v0_ v1_:Value,e = .returned (.agg #[v0_,v1_])∧Kd.R (Kd.int .i64) 3 w' w.heap.size (fun k_=>some k_≠(v1_:Value).ownBlock) v0_ r1∧Kd.R (Kd.int .i64) 3 w' w.heap.size (fun k_=>some k_≠(v0_:Value).ownBlock) v1_ r2∧Below w.heap.size w w':=by
 have hu27:=Tryz.underlying27
 have HR0_0:=A_ hr0_0
 have HC0_0:=A_ hc0_0
 clear hr0_0 hc0_0
 have HR0_1:=A_ hr0_1
 have HC0_1:=A_ hc0_1
 clear hr0_1 hc0_1
 have HB:=A_ (Below.refl w.heap.size w)
 have H:=h
 unfold Z73.f at H
 clear h
 obtain ⟨t234,A2,H⟩:=bi_ H
 obtain ⟨y237,hy237⟩:∃ y_:List Int,y_ = (([]:List Int)):=⟨_,rfl⟩
 replace H:(if y237.length + l0_0.length < 17592186044416 then (some (t234,(y237 ++ l0_0))) else (none)) = some (r1,r2):=by first | (rw [hy237];exact H) | exact H
 have Ny237:=A_ hy237
 clear hy237
 have c3:=cp_ H
 replace H:=ca_ H
 have LMc3:=A_ c3
 clear c3
 obtain ⟨y240,hy240⟩:∃ y_:List Int,y_ = (y237 ++ l0_0):=⟨_,rfl⟩
 replace H:(some (t234,y240)) = some (r1,r2):=by first | (rw [hy240];exact H) | exact H
 have Ny240:=A_ hy240
 clear hy240
 simp only [Option.some.injEq,Prod.mk.injEq] at H
 obtain ⟨rfl,rfl⟩:=H
 go_enter Tryz.func82,Tryz.ntmps82
 try go_wp2_with (first | ((with_reducible refine gB_ (N:=1) rfl ?_);refine bx_ 1 #[.slice A0_0 l0_0.length c0_0,.slice A0_1 l0_1.length c0_1] 27 ?_;intro gb232 hg w4 hbox hb;have BK232:=A_ hbox;have GW232:=gw_ w hg;have GE232:=GW232;replace HB:=b1_ hb;clear hb hbox hg) | ((with_reducible refine gB_ (N:=2) rfl ?_);refine bx_ 2 #[.slice none 0 0,.slice none 0 0] 27 ?_;intro gb233 hg w5 hbox hb;have BK233:=A_ hbox;have GW233:=gw_ w hg;have GE233:=GW233;replace HB:=b1_ hb;have NB232_233:=gN_ BK232 hg;have NB233_232:=gP_ BK232 hg;replace BK232:=bb_ BK232 hb;clear hb hbox hg))
 replace BK232:=A_ (kB_ BK232.out)
 replace BK233:=A_ (kB_ BK233.out)
 replace HB:=A_ (bC_ HB.out)
 refine start_ (n:=9) (S:=fun w'=>w'.cell? ⟨gb232,0,none⟩ = some (.slice A0_0 l0_0.length c0_0)∧w'.cell? ⟨gb232,1,none⟩ = some (.slice A0_1 l0_1.length c0_1)) (ds:=[]) (bl_ 9 0) (by kernel_rfl) rfl (by kernel_rfl) ⟨cz0_ BK232,cz1_ BK232⟩ (fun hHeld=>?_);refine with_tabW Z73.tab1 Z73.bits1 (fun HT_ HW_=>?_)
 generalize w5.drew = w6 at BK232 BK233 HB hHeld ⊢
 refine pu_ 0 (some 3) (bl_ 9 1) HT_ ?_
 refine pu_ 4 (some 7) (bl_ 9 17) HT_ ?_
 refine ta_ 1 (some 4) (bl_ 9 19) HT_ HW_ hHeld ?_
 refine ta_ 5 (some 8) (bl_ 9 51) HT_ HW_ hHeld ?_
 refine join_ (σ:=Value × Value) 3 (bl_ 9 63) (fun s_=>[(5,s_.1),(6,s_.2)]) (fun s_ w'=>(w'.cell? ⟨gb232,0,none⟩ = some (.slice A0_0 l0_0.length c0_0)∧w'.cell? ⟨gb232,1,none⟩ = some (.slice A0_1 l0_1.length c0_1))∧(Kd.R (Kd.int .i64) 3 w' w.heap.size (fun k_=>some k_≠(s_.2:Value).ownBlock) s_.1 t234)∧(Kd.R (Kd.int .i64) 3 w' w.heap.size (fun k_=>some k_≠(s_.1:Value).ownBlock) s_.2 y237)∧(w'.heap[gb232]? = some (.cells #[.slice A0_0 l0_0.length c0_0,.slice A0_1 l0_1.length c0_1] 27 (0,0)))∧(w'.heap[gb233]? = some (.cells #[.slice none 0 0,.slice none 0 0] 27 (0,0)))∧(Below w.heap.size w w')) ?_ ?_
 rotate_left
 ·intro hCont
  refine two_ (i:=2) (j:=3) (Ni:=some 5) (Nj:=some 6) (bl_ 9 55) (bl_ 9 59) rfl rfl rfl rfl (two_of HT_.out (by kernel_rfl)) (by decide) (by decide) (fun K hK=>?_) (fun K hK=>?_)
  ·skip
   refine gO_ Tryz.func53 #[.slice A0_1 l0_1.length c0_1] (by rfl) rfl rfl qa_ ?_
   with_reducible refine (Z34.calls k _ _ l0_1 t234 _ (cb_ HR0_1) HC0_1.out A2.out).mono ?_
   rintro e w7 ⟨v235,rfl,ho0,hb⟩
   refine ⟨_,rfl,?_⟩
   have HO236:=rl_ w ho0
   replace BK232:=bb_ BK232 hb
   replace BK233:=bb_ BK233 hb
   replace HB:=b1_ hb
   clear hb ho0
   refine hK.out _ _ ⟨cz0_ BK232,cz1_ BK232⟩ (fun hHeld=>?_)
   clear hK K
   refine no_ (some 5) ?_
   refine on_ 3 (some 6) (bl_ 9 63) HT_ (fun K hK=>?_)
   refine Kd.R_lit_step (Kd.int .i64) _ 3 ?hg (N:=6) ?hd (xs:=([]:List Int)) (inner:=[]) (ok:=fun _=>True) (okp:=fun _=>True) ?hr ?hp (fun _ hk=>hk) trivial (Below.refl _ _) (nA_ _) (by simp) ?_;(case hd=>rfl);(case hg=>rfl);(case hr=>first | (go_simp;done) | (go_simp;rfl));(case hp=>exact (Reps.none _ _))
   intro v238 w8 ho9 hb hg_ hnew_
   clear hg_ hnew_
   (first | rw [← Ny237.out] at ho9 | (simp only [Int.reduceToNat] at ho9;rw [← Ny237.out] at ho9))
   have HO239:=A_ (rE_ (Kd.R_new' ho9 (Kd.R_lt (rr_ HO236))) (bF_ hB_))
   replace HO236:=A_ (Kd.R_elder' (rr_ HO236) (Kd.R_base ho9) hb)
   replace BK232:=bb_ BK232 hb
   replace BK233:=bb_ BK233 hb
   replace HB:=b1_ hb
   clear hb ho9
   refine hK.out _ _ ⟨cz0_ BK232,cz1_ BK232⟩ (fun hHeld=>?_)
   clear hK K
   refine no_ (some 6) ?_
   exact norm_ (by simp only [putAll,Act.put,sA_,sB_,sC_]) (hCont (v235,v238) _ ⟨hHeld,(rw_ (Kd.R_mono HO236.out (fun _ hk=>hk.2))),(rw_ (Kd.R_mono HO239.out (fun _ hk=>hk.2))),(kk_ BK232),(kk_ BK233),hB_⟩)
  ·skip
   refine Kd.R_lit_step (Kd.int .i64) _ 3 ?hg (N:=6) ?hd (xs:=([]:List Int)) (inner:=[]) (ok:=fun _=>True) (okp:=fun _=>True) ?hr ?hp (fun _ hk=>hk) trivial (Below.refl _ _) (nA_ _) (by simp) ?_;(case hd=>rfl);(case hg=>rfl);(case hr=>first | (go_simp;done) | (go_simp;rfl));(case hp=>exact (Reps.none _ _))
   intro v238 w7 ho8 hb hg_ hnew_
   clear hg_ hnew_
   (first | rw [← Ny237.out] at ho8 | (simp only [Int.reduceToNat] at ho8;rw [← Ny237.out] at ho8))
   have HO239:=rl_ w ho8
   replace BK232:=bb_ BK232 hb
   replace BK233:=bb_ BK233 hb
   replace HB:=b1_ hb
   clear hb ho8
   refine hK.out _ _ ⟨cz0_ BK232,cz1_ BK232⟩ (fun hHeld=>?_)
   clear hK K
   refine no_ (some 6) ?_
   refine on_ 2 (some 5) (bl_ 9 63) HT_ (fun K hK=>?_)
   refine gO_ Tryz.func53 #[.slice A0_1 l0_1.length c0_1] (by rfl) rfl rfl qa_ ?_
   with_reducible refine (Z34.calls k _ _ l0_1 t234 _ (cb_ HR0_1) HC0_1.out A2.out).mono ?_
   rintro e w9 ⟨v235,rfl,ho0,hb⟩
   refine ⟨_,rfl,?_⟩
   have HO236:=A_ (rE_ (Kd.R_new' ho0 (Kd.R_lt (rr_ HO239))) (bF_ hB_))
   replace HO239:=A_ (Kd.R_elder' (rr_ HO239) (Kd.R_base ho0) hb)
   replace BK232:=bb_ BK232 hb
   replace BK233:=bb_ BK233 hb
   replace HB:=b1_ hb
   clear hb ho0
   refine hK.out _ _ ⟨cz0_ BK232,cz1_ BK232⟩ (fun hHeld=>?_)
   clear hK K
   refine no_ (some 5) ?_
   exact norm_ (by simp only [putAll,Act.put,sA_,sB_,sC_]) (hCont (v235,v238) _ ⟨hHeld,(rw_ (Kd.R_mono HO236.out (fun _ hk=>hk.2))),(rw_ (Kd.R_mono HO239.out (fun _ hk=>hk.2))),(kk_ BK232),(kk_ BK233),hB_⟩)
 rintro ⟨v235,v238⟩ w10 ⟨hS_,h0_,h1_,h2_,h3_,h4_⟩
 have n0_:Aside0 (Kd.R (Kd.int .i64) 3 w10 w.heap.size (fun k_=>some k_≠(v238:Value).ownBlock) v235 t234):=⟨h0_⟩
 have n1_:Aside0 (Kd.R (Kd.int .i64) 3 w10 w.heap.size (fun k_=>some k_≠(v235:Value).ownBlock) v238 y237):=⟨h1_⟩
 have n2_:Aside0 (w10.heap[gb232]? = some (.cells #[.slice A0_0 l0_0.length c0_0,.slice A0_1 l0_1.length c0_1] 27 (0,0))):=⟨h2_⟩
 have n3_:Aside0 (w10.heap[gb233]? = some (.cells #[.slice none 0 0,.slice none 0 0] 27 (0,0))):=⟨h3_⟩
 have n4_:Aside0 (Below w.heap.size w w10):=⟨h4_⟩
 clear BK232
 clear BK233
 clear HB
 clear h0_ h1_ h2_ h3_ h4_
 have HO236:=n0_
 have HO239:=n1_
 have BK232:=n2_
 have BK233:=n3_
 have HB:=n4_
 clear n0_ n1_ n2_ n3_ n4_
 have hHeld:w10.cell? ⟨gb232,0,none⟩ = some (.slice A0_0 l0_0.length c0_0)∧w10.cell? ⟨gb232,1,none⟩ = some (.slice A0_1 l0_1.length c0_1):=hS_
 refine norm_ (a':=?_) ?_ ?_
 rotate_left
 ·simp only [putAll,Act.put,sA_,sB_,sC_]
  rfl
 refine on_ 6 (some 9) (bl_ 9 127) HT_ (fun K hK=>?_)
 refine Kd.R_append_rows_step (Kd.int .i64) (w0:=w) w.heap.size (by rfl) (.tmp 6) (.tmp 8) 22 3 (.int .i64 0) 8 rfl Tryz.underlying22 info3 rfl (by decide) (by omega) v238 y237 l0_0 _ _ _ (fun k_=>some k_≠(v235:Value).ownBlock) (fun _=>False) rfl rfl ?aO ?aR (fun _ _ h=>h) (fun _ h=>h.elim) ?aF ?aB ?aS ?aL ?_
 (case aR=>exact cb_ HR0_0)
 (case aB=>exact hB_)
 (case aF=>exact (fun k_ hk=>Kd.fresh' (Kd.R_lt (rr_ HO236)) k_ hk))
 (case aO=>exact (rr_ HO239))
 (case aS=>exact (bF_ hB_))
 (case aL=>have:=LMc3.out;omega)
 intro v241 w11 ho hb hg hat
 rw [← Ny240.out] at ho
 replace BK232:=A_ (blk_grown (kk_ BK232) hg (Kd.R_ne HO239.out BK232.out (by decide)))
 replace BK233:=A_ (blk_grown (kk_ BK233) hg (Kd.R_ne HO239.out BK233.out (by decide)))
 replace HO236:=A_ (Kd.R_after (ok:=(fun _=>True)) (rw_ (Kd.R_mono HO236.out (fun _ hk=>⟨trivial,hk⟩))) hg hat)
 replace HB:=A_ hb
 have HO242:=A_ ho
 clear HO239
 clear ho hb hg hat
 obtain ⟨Ao12,co12,eo12⟩:=Kd.R_slice HO242.out
 (first | subst eo12 | (injection eo12 with f1_ f2_ f3_;have f4_:=f1_.symm;have f5_:=f3_.symm;clear f1_ f2_ f3_;subst f4_;subst f5_))
 obtain ⟨Ao13,co13,eo13⟩:=Kd.R_slice HO236.out
 (first | subst eo13 | (injection eo13 with f1_ f2_ f3_;have f4_:=f1_.symm;have f5_:=f3_.symm;clear f1_ f2_ f3_;subst f4_;subst f5_))
 refine hK.out _ _ ⟨cz0_ BK232,cz1_ BK232⟩ (fun hHeld=>?_)
 clear hK K
 refine no_ (some 9) ?_
 refine pu_ 7 (some 10) (bl_ 9 255) HT_ ?_
 refine on_ 8 (none) (bl_ 9 511) HT_ (fun K hK=>?_)
 have hs14:w11.cell? ⟨gb233,0,none⟩ = some (.slice none 0 0):=cz0_ BK233
 have hfs14:=kD_ BK233.out 0
 have hns14_0:=NB232_233.out
 have hms14_0:=NB233_232.out
 have hs15:w11.cell? ⟨gb233,1,none⟩ = some (.slice none 0 0):=cz1_ BK233
 have hfs15:=kD_ BK233.out 1
 have hns15_0:=NB232_233.out
 have hms15_0:=NB233_232.out
 refine skip_ (w1:=?_) (by rfl) rfl ?_ ?_
 rotate_left
 ·go_simp
  rfl
 refine hK.out _ _ ⟨((cell_far (p:=⟨gb233,_,none⟩) NB232_233.out _).trans (((cell_far (p:=⟨gb233,_,none⟩) NB232_233.out _).trans (hHeld.1)))),((cell_far (p:=⟨gb233,_,none⟩) NB232_233.out _).trans (((cell_far (p:=⟨gb233,_,none⟩) NB232_233.out _).trans (hHeld.2))))⟩ (fun hHeld=>?_)
 clear hK K
 refine done_ (done_of HT_.out (by kernel_rfl)) ?_
 try go_wp2
 refine bodyPost_ret (results_cell_row rfl _ _ gb233 27 #[.slice Ao13 t234.length co13,.slice Ao12 y240.length co12] (0,0) _ rfl qp_ Tryz.underlying27 rfl (by kernel_rfl)) rfl ?_
 exact ⟨_,_,qb_,(rw_ (Kd.R_mono (fa_ HO236 BK233) (fun _ hk=>hk.2))),(rw_ (fa_ HO242 BK233)),hB_⟩
def Z49.f (k:Nat) (l0_0:List Int) (l0_1:List Int):Option (List Int × List Int):=(some (([]:List Int):List Int)).bind fun y245=>(if y245.length + l0_1.length < 17592186044416 then ((Z34.f k l0_0).bind fun t251=>(some ((y245 ++ l0_1),t251))) else (none))
theorem Z49.mono:∀ a0 a1 k,LeO (Z49.f k a0 a1) (Z49.f (k + 1) a0 a1):=by
 intro a0 a1 k
 unfold Z49.f
 repeat' first|exact Z34.mono _ _|exact lo_|refine LeO.ite ?_ ?_|refine LeO.bind ?_ (fun _=>?_)
def Z49.T1:Bool × List (List Nat × List Nat):=(true,[([],[]),([],[]),([1],[1]),([0,2],[0,2]),([],[]),([4],[4]),([5,3],[5]),([3,6],[3,6]),([7,6,0,1,2,3,4,5,6,7],[7])])
def Z49.B1:List Nat:=[0,0,2,7,0,16,63,127,255]
theorem Z49.tab1:rtab .any (opsOf Tryz.f83 1) = Z49.T1:=by kernel_rfl
theorem Z49.bits1:waitsOk Z49.T1.2 Z49.B1 = true:=by kernel_rfl
set_option maxHeartbeats 8000000 in
set_option maxRecDepth 100000 in
theorem Z49.calls (k:Nat) (A0_0:Option Addr) (c0_0:Nat) (l0_0:List Int) (A0_1:Option Addr) (c0_1:Nat) (l0_1:List Int) (r1:List Int) (r2:List Int) (w:World) (hr0_0:Kd.C (Kd.int .i64) w A0_0 l0_0.length l0_0) (hc0_0:l0_0.length≤c0_0) (hr0_1:Kd.C (Kd.int .i64) w A0_1 l0_1.length l0_1) (hc0_1:l0_1.length≤c0_1) (h:Z49.f k l0_0 l0_1 = some (r1,r2)) :
  Calls Tryz.prog 83 #[.agg #[.slice A0_0 l0_0.length c0_0,.slice A0_1 l0_1.length c0_1]] w fun e w'=>∃ v0_ v1_:Value,e = .returned (.agg #[v0_,v1_])∧Kd.R (Kd.int .i64) 3 w' w.heap.size (fun k_=>some k_≠(v1_:Value).ownBlock) v0_ r1∧Kd.R (Kd.int .i64) 3 w' w.heap.size (fun k_=>some k_≠(v0_:Value).ownBlock) v1_ r2∧Below w.heap.size w w':=by
 have hu27:=Tryz.underlying27
 have HR0_0:=A_ hr0_0
 have HC0_0:=A_ hc0_0
 clear hr0_0 hc0_0
 have HR0_1:=A_ hr0_1
 have HC0_1:=A_ hc0_1
 clear hr0_1 hc0_1
 have HB:=A_ (Below.refl w.heap.size w)
 have H:=h
 unfold Z49.f at H
 clear h
 obtain ⟨y245,hy245⟩:∃ y_:List Int,y_ = (([]:List Int)):=⟨_,rfl⟩
 replace H:(if y245.length + l0_1.length < 17592186044416 then ((Z34.f k l0_0).bind fun t251=>(some ((y245 ++ l0_1),t251))) else (none)) = some (r1,r2):=by first | (rw [hy245];exact H) | exact H
 have Ny245:=A_ hy245
 clear hy245
 have c2:=cp_ H
 replace H:=ca_ H
 have LMc2:=A_ c2
 clear c2
 obtain ⟨y248,hy248⟩:∃ y_:List Int,y_ = (y245 ++ l0_1):=⟨_,rfl⟩
 replace H:((Z34.f k l0_0).bind fun t251=>(some (y248,t251))) = some (r1,r2):=by first | (rw [hy248];exact H) | exact H
 have Ny248:=A_ hy248
 clear hy248
 obtain ⟨t251,A3,H⟩:=bi_ H
 simp only [Option.some.injEq,Prod.mk.injEq] at H
 obtain ⟨rfl,rfl⟩:=H
 go_enter Tryz.func83,Tryz.ntmps83
 try go_wp2_with (first | ((with_reducible refine gB_ (N:=1) rfl ?_);refine bx_ 1 #[.slice A0_0 l0_0.length c0_0,.slice A0_1 l0_1.length c0_1] 27 ?_;intro gb243 hg w4 hbox hb;have BK243:=A_ hbox;have GW243:=gw_ w hg;have GE243:=GW243;replace HB:=b1_ hb;clear hb hbox hg) | ((with_reducible refine gB_ (N:=2) rfl ?_);refine bx_ 2 #[.slice none 0 0,.slice none 0 0] 27 ?_;intro gb244 hg w5 hbox hb;have BK244:=A_ hbox;have GW244:=gw_ w hg;have GE244:=GW244;replace HB:=b1_ hb;have NB243_244:=gN_ BK243 hg;have NB244_243:=gP_ BK243 hg;replace BK243:=bb_ BK243 hb;clear hb hbox hg))
 replace BK243:=A_ (kB_ BK243.out)
 replace BK244:=A_ (kB_ BK244.out)
 replace HB:=A_ (bC_ HB.out)
 refine start_ (n:=9) (S:=fun w'=>w'.cell? ⟨gb243,0,none⟩ = some (.slice A0_0 l0_0.length c0_0)∧w'.cell? ⟨gb243,1,none⟩ = some (.slice A0_1 l0_1.length c0_1)) (ds:=[]) (bl_ 9 0) (by kernel_rfl) rfl (by kernel_rfl) ⟨cz0_ BK243,cz1_ BK243⟩ (fun hHeld=>?_);refine with_tabW Z49.tab1 Z49.bits1 (fun HT_ HW_=>?_)
 generalize w5.drew = w6 at BK243 BK244 HB hHeld ⊢
 refine pu_ 1 (some 4) (bl_ 9 2) HT_ ?_
 refine pu_ 4 (some 7) (bl_ 9 18) HT_ ?_
 refine ta_ 2 (some 5) (bl_ 9 22) HT_ HW_ hHeld ?_
 refine ta_ 5 (some 8) (bl_ 9 54) HT_ HW_ hHeld ?_
 refine on_ 0 (some 3) (bl_ 9 55) HT_ (fun K hK=>?_)
 refine Kd.R_lit_step (Kd.int .i64) _ 3 ?hg (N:=3) ?hd (xs:=([]:List Int)) (inner:=[]) (ok:=fun _=>True) (okp:=fun _=>True) ?hr ?hp (fun _ hk=>hk) trivial (Below.refl _ _) (nA_ _) (by simp) ?_;(case hd=>rfl);(case hg=>rfl);(case hr=>first | (go_simp;done) | (go_simp;rfl));(case hp=>exact (Reps.none _ _))
 intro v246 w7 ho8 hb hg_ hnew_
 clear hg_ hnew_
 (first | rw [← Ny245.out] at ho8 | (simp only [Int.reduceToNat] at ho8;rw [← Ny245.out] at ho8))
 have HO247:=rl_ w ho8
 replace BK243:=bb_ BK243 hb
 replace BK244:=bb_ BK244 hb
 replace HB:=b1_ hb
 clear hb ho8
 refine hK.out _ _ ⟨cz0_ BK243,cz1_ BK243⟩ (fun hHeld=>?_)
 clear hK K
 refine no_ (some 3) ?_
 refine on_ 3 (some 6) (bl_ 9 63) HT_ (fun K hK=>?_)
 refine Kd.R_append_rows_step (Kd.int .i64) (w0:=w) w.heap.size (by rfl) (.tmp 3) (.tmp 5) 22 3 (.int .i64 0) 8 rfl Tryz.underlying22 info3 rfl (by decide) (by omega) v246 y245 l0_1 _ _ _ (fun _=>True) (fun _=>False) rfl rfl ?aO ?aR (fun _ _ h=>h) (fun _ h=>h.elim) ?aF ?aB ?aS ?aL ?_
 (case aR=>exact cb_ HR0_1)
 (case aB=>exact hB_)
 (case aF=>exact (fun _ _=>trivial))
 (case aO=>exact (rr_ HO247))
 (case aS=>exact (bF_ hB_))
 (case aL=>have:=LMc2.out;omega)
 intro v249 w9 ho hb hg hat
 rw [← Ny248.out] at ho
 replace BK243:=A_ (blk_grown (kk_ BK243) hg (Kd.R_ne HO247.out BK243.out (by decide)))
 replace BK244:=A_ (blk_grown (kk_ BK244) hg (Kd.R_ne HO247.out BK244.out (by decide)))
 replace HB:=A_ hb
 have HO250:=A_ ho
 clear HO247
 clear ho hb hg hat
 refine hK.out _ _ ⟨cz0_ BK243,cz1_ BK243⟩ (fun hHeld=>?_)
 clear hK K
 refine no_ (some 6) ?_
 refine on_ 6 (some 9) (bl_ 9 127) HT_ (fun K hK=>?_)
 refine gO_ Tryz.func53 #[.slice A0_0 l0_0.length c0_0] (by rfl) rfl rfl qa_ ?_
 with_reducible refine (Z34.calls k _ _ l0_0 t251 _ (cb_ HR0_0) HC0_0.out A3.out).mono ?_
 rintro e w10 ⟨v252,rfl,ho0,hb⟩
 refine ⟨_,rfl,?_⟩
 have HO253:=A_ (rE_ (Kd.R_new' ho0 (Kd.R_lt (rr_ HO250))) (bF_ hB_))
 replace HO250:=A_ (Kd.R_elder' (rr_ HO250) (Kd.R_base ho0) hb)
 replace BK243:=bb_ BK243 hb
 replace BK244:=bb_ BK244 hb
 replace HB:=b1_ hb
 clear hb ho0
 obtain ⟨Ao11,co11,eo11⟩:=Kd.R_slice HO253.out
 (first | subst eo11 | (injection eo11 with f1_ f2_ f3_;have f4_:=f1_.symm;have f5_:=f3_.symm;clear f1_ f2_ f3_;subst f4_;subst f5_))
 obtain ⟨Ao12,co12,eo12⟩:=Kd.R_slice HO250.out
 (first | subst eo12 | (injection eo12 with f1_ f2_ f3_;have f4_:=f1_.symm;have f5_:=f3_.symm;clear f1_ f2_ f3_;subst f4_;subst f5_))
 refine hK.out _ _ ⟨cz0_ BK243,cz1_ BK243⟩ (fun hHeld=>?_)
 clear hK K
 refine no_ (some 9) ?_
 refine pu_ 7 (some 10) (bl_ 9 255) HT_ ?_
 refine on_ 8 (none) (bl_ 9 511) HT_ (fun K hK=>?_)
 have hs13:w10.cell? ⟨gb244,0,none⟩ = some (.slice none 0 0):=cz0_ BK244
 have hfs13:=kD_ BK244.out 0
 have hns13_0:=NB243_244.out
 have hms13_0:=NB244_243.out
 have hs14:w10.cell? ⟨gb244,1,none⟩ = some (.slice none 0 0):=cz1_ BK244
 have hfs14:=kD_ BK244.out 1
 have hns14_0:=NB243_244.out
 have hms14_0:=NB244_243.out
 refine skip_ (w1:=?_) (by rfl) rfl ?_ ?_
 rotate_left
 ·go_simp
  rfl
 refine hK.out _ _ ⟨((cell_far (p:=⟨gb244,_,none⟩) NB243_244.out _).trans (((cell_far (p:=⟨gb244,_,none⟩) NB243_244.out _).trans (hHeld.1)))),((cell_far (p:=⟨gb244,_,none⟩) NB243_244.out _).trans (((cell_far (p:=⟨gb244,_,none⟩) NB243_244.out _).trans (hHeld.2))))⟩ (fun hHeld=>?_)
 clear hK K
 refine done_ (done_of HT_.out (by kernel_rfl)) ?_
 try go_wp2
 refine bodyPost_ret (results_cell_row rfl _ _ gb244 27 #[.slice Ao12 y248.length co12,.slice Ao11 t251.length co11] (0,0) _ rfl qp_ Tryz.underlying27 rfl (by kernel_rfl)) rfl ?_
 exact ⟨_,_,qb_,(rw_ (Kd.R_mono (fa_ HO250 BK244) (fun _ hk=>hk.2))),(rw_ (Kd.R_mono (fa_ HO253 BK244) (fun _ hk=>hk.2))),hB_⟩
def Z48.f (k:Nat) (l0_0:List Int) (l0_1:List Int) (a1:Int):Option (List Int × List Int):=if a1 = 84 then ((Z59.f k l0_0 l0_1).bind fun bt256=>(some (bt256.1,bt256.2))) else (if a1 = 116 then ((Z35.f k l0_0 l0_1).bind fun bt262=>(some (bt262.1,bt262.2))) else (if a1 = 83 then ((Z73.f k l0_0 l0_1).bind fun bt268=>(some (bt268.1,bt268.2))) else ((Z49.f k l0_0 l0_1).bind fun bt274=>(some (bt274.1,bt274.2)))))
theorem Z48.mono:∀ a0 a1 a2 k,LeO (Z48.f k a0 a1 a2) (Z48.f (k + 1) a0 a1 a2):=by
 intro a0 a1 a2 k
 unfold Z48.f
 repeat' first|exact Z59.mono _ _ _|exact Z73.mono _ _ _|exact Z35.mono _ _ _|exact Z49.mono _ _ _|exact lo_|refine LeO.ite ?_ ?_|refine LeO.bind ?_ (fun _=>?_)
set_option maxHeartbeats 8000000 in
set_option maxRecDepth 100000 in
theorem Z48.calls (k:Nat) (A0_0:Option Addr) (c0_0:Nat) (l0_0:List Int) (A0_1:Option Addr) (c0_1:Nat) (l0_1:List Int) (a1:Int) (r1:List Int) (r2:List Int) (w:World) (hr0_0:Kd.C (Kd.int .i64) w A0_0 l0_0.length l0_0) (hc0_0:l0_0.length≤c0_0) (hr0_1:Kd.C (Kd.int .i64) w A0_1 l0_1.length l0_1) (hc0_1:l0_1.length≤c0_1) (h:Z48.f k l0_0 l0_1 a1 = some (r1,r2)) :
  Calls Tryz.prog 47 #[.agg #[.slice A0_0 l0_0.length c0_0,.slice A0_1 l0_1.length c0_1],.int .u8 a1] w fun e w'=>∃ v0_ v1_:Value,e = .returned (.agg #[v0_,v1_])∧Kd.R (Kd.int .i64) 3 w' w.heap.size (fun k_=>some k_≠(v1_:Value).ownBlock) v0_ r1∧Kd.R (Kd.int .i64) 3 w' w.heap.size (fun k_=>some k_≠(v0_:Value).ownBlock) v1_ r2∧Below w.heap.size w w':=by
 have hu27:=Tryz.underlying27
 have HR0_0:=A_ hr0_0
 have HC0_0:=A_ hc0_0
 clear hr0_0 hc0_0
 have HR0_1:=A_ hr0_1
 have HC0_1:=A_ hc0_1
 clear hr0_1 hc0_1
 have HB:=A_ (Below.refl w.heap.size w)
 have H:=h
 unfold Z48.f at H
 clear h
 by_cases c3:a1 = 84
 ·rw [if_pos c3] at H
  have c3b0:(a1 == 84) = true:=beq_iff_eq.mpr c3
  have c3b1:(a1 != 84) = false:=bne_eq_false_iff_eq.mpr c3
  clear c3
  obtain ⟨⟨t256,t259⟩,A4,H⟩:=bi_ H
  try dsimp only at H
  simp only [Option.some.injEq,Prod.mk.injEq] at H
  obtain ⟨rfl,rfl⟩:=H
  go_enter Tryz.func47,Tryz.ntmps47
  go_wp2_with (first | ((with_reducible refine gB_ (N:=2) rfl ?_);refine bx_ 2 #[.slice A0_0 l0_0.length c0_0,.slice A0_1 l0_1.length c0_1] 27 ?_;intro gb254 hg w5 hbox hb;have BK254:=A_ hbox;have GW254:=gw_ w hg;have GE254:=GW254;replace HB:=b1_ hb;clear hb hbox hg) | ((with_reducible refine gB_ (N:=4) rfl ?_);refine bx_ 4 #[.slice none 0 0,.slice none 0 0] 27 ?_;intro gb255 hg w6 hbox hb;have BK255:=A_ hbox;have GW255:=gw_ w hg;have GE255:=GW255;replace HB:=b1_ hb;have NB254_255:=gN_ BK254 hg;have NB255_254:=gP_ BK254 hg;replace BK254:=bb_ BK254 hb;clear hb hbox hg;have hnb7:=NB254_255.out;have hnc7:=NB255_254.out;obtain ⟨hcz8_0,hcz8_1,hfz8_0,hfz8_1⟩:=c2_ BK254) | ((with_reducible refine gA_ (f:=36) rfl ?_);refine gL_ (some 9) Tryz.func36 #[.agg #[.slice A0_0 l0_0.length c0_0,.slice A0_1 l0_1.length c0_1]] rfl qa_ ?_;(with_reducible refine (Z59.calls k _ _ l0_0 _ _ l0_1 t256 t259 _ (cb_ HR0_0) HC0_0.out (cb_ HR0_1) HC0_1.out A4.out).mono ?_);rintro e w9 ⟨v257,v260,rfl,ho0,ho1,hb⟩;refine ⟨_,rfl,?_⟩;have HO258:=rl_ w ho0;have HO261:=rl_ w ho1;replace BK254:=bb_ BK254 hb;replace BK255:=bb_ BK255 hb;replace HB:=b1_ hb;clear hb ho0 ho1;obtain ⟨Ao10,co10,eo10⟩:=Kd.R_slice HO258.out;subst eo10;obtain ⟨hcz11_0,hcz11_1,hfz11_0,hfz11_1⟩:=c2_ BK255;obtain ⟨Ao12,co12,eo12⟩:=Kd.R_slice HO261.out;subst eo12))
  refine bodyPost_ret (results_cell_row rfl _ _ gb255 27 #[.slice Ao10 t256.length co10,.slice Ao12 t259.length co12] (0,0) _ rfl qp_ Tryz.underlying27 rfl (by kernel_rfl)) rfl ?_
  exact ⟨_,_,qb_,(rw_ (fa_ HO258 BK255)),(rw_ (fa_ HO261 BK255)),hB_⟩
 ·rw [if_neg c3] at H
  have c3b0:(a1 == 84) = false:=beq_eq_false_iff_ne.mpr c3
  have c3b1:(a1 != 84) = true:=bne_iff_ne.mpr c3
  by_cases c13:a1 = 116
  ·rw [if_pos c13] at H
   have c13b0:(a1 == 116) = true:=beq_iff_eq.mpr c13
   have c13b1:(a1 != 116) = false:=bne_eq_false_iff_eq.mpr c13
   clear c13
   obtain ⟨⟨t262,t265⟩,A14,H⟩:=bi_ H
   try dsimp only at H
   simp only [Option.some.injEq,Prod.mk.injEq] at H
   obtain ⟨rfl,rfl⟩:=H
   go_enter Tryz.func47,Tryz.ntmps47
   go_wp2_with (first | ((with_reducible refine gB_ (N:=2) rfl ?_);refine bx_ 2 #[.slice A0_0 l0_0.length c0_0,.slice A0_1 l0_1.length c0_1] 27 ?_;intro gb254 hg w15 hbox hb;have BK254:=A_ hbox;have GW254:=gw_ w hg;have GE254:=GW254;replace HB:=b1_ hb;clear hb hbox hg) | ((with_reducible refine gB_ (N:=4) rfl ?_);refine bx_ 4 #[.slice none 0 0,.slice none 0 0] 27 ?_;intro gb255 hg w16 hbox hb;have BK255:=A_ hbox;have GW255:=gw_ w hg;have GE255:=GW255;replace HB:=b1_ hb;have NB254_255:=gN_ BK254 hg;have NB255_254:=gP_ BK254 hg;replace BK254:=bb_ BK254 hb;clear hb hbox hg;have hnb17:=NB254_255.out;have hnc17:=NB255_254.out;obtain ⟨hcz18_0,hcz18_1,hfz18_0,hfz18_1⟩:=c2_ BK254) | ((with_reducible refine gA_ (f:=81) rfl ?_);refine gL_ (some 13) Tryz.func81 #[.agg #[.slice A0_0 l0_0.length c0_0,.slice A0_1 l0_1.length c0_1]] rfl qa_ ?_;(with_reducible refine (Z35.calls k _ _ l0_0 _ _ l0_1 t262 t265 _ (cb_ HR0_0) HC0_0.out (cb_ HR0_1) HC0_1.out A14.out).mono ?_);rintro e w19 ⟨v263,v266,rfl,ho0,ho1,hb⟩;refine ⟨_,rfl,?_⟩;have HO264:=rl_ w ho0;have HO267:=rl_ w ho1;replace BK254:=bb_ BK254 hb;replace BK255:=bb_ BK255 hb;replace HB:=b1_ hb;clear hb ho0 ho1;obtain ⟨Ao20,co20,eo20⟩:=Kd.R_slice HO264.out;subst eo20;obtain ⟨hcz21_0,hcz21_1,hfz21_0,hfz21_1⟩:=c2_ BK255;obtain ⟨Ao22,co22,eo22⟩:=Kd.R_slice HO267.out;subst eo22))
   refine bodyPost_ret (results_cell_row rfl _ _ gb255 27 #[.slice Ao20 t262.length co20,.slice Ao22 t265.length co22] (0,0) _ rfl qp_ Tryz.underlying27 rfl (by kernel_rfl)) rfl ?_
   exact ⟨_,_,qb_,(rw_ (fa_ HO264 BK255)),(rw_ (fa_ HO267 BK255)),hB_⟩
  ·rw [if_neg c13] at H
   have c13b0:(a1 == 116) = false:=beq_eq_false_iff_ne.mpr c13
   have c13b1:(a1 != 116) = true:=bne_iff_ne.mpr c13
   by_cases c23:a1 = 83
   ·rw [if_pos c23] at H
    have c23b0:(a1 == 83) = true:=beq_iff_eq.mpr c23
    have c23b1:(a1 != 83) = false:=bne_eq_false_iff_eq.mpr c23
    clear c23
    obtain ⟨⟨t268,t271⟩,A24,H⟩:=bi_ H
    try dsimp only at H
    simp only [Option.some.injEq,Prod.mk.injEq] at H
    obtain ⟨rfl,rfl⟩:=H
    go_enter Tryz.func47,Tryz.ntmps47
    go_wp2_with (first | ((with_reducible refine gB_ (N:=2) rfl ?_);refine bx_ 2 #[.slice A0_0 l0_0.length c0_0,.slice A0_1 l0_1.length c0_1] 27 ?_;intro gb254 hg w25 hbox hb;have BK254:=A_ hbox;have GW254:=gw_ w hg;have GE254:=GW254;replace HB:=b1_ hb;clear hb hbox hg) | ((with_reducible refine gB_ (N:=4) rfl ?_);refine bx_ 4 #[.slice none 0 0,.slice none 0 0] 27 ?_;intro gb255 hg w26 hbox hb;have BK255:=A_ hbox;have GW255:=gw_ w hg;have GE255:=GW255;replace HB:=b1_ hb;have NB254_255:=gN_ BK254 hg;have NB255_254:=gP_ BK254 hg;replace BK254:=bb_ BK254 hb;clear hb hbox hg;have hnb27:=NB254_255.out;have hnc27:=NB255_254.out;obtain ⟨hcz28_0,hcz28_1,hfz28_0,hfz28_1⟩:=c2_ BK254) | ((with_reducible refine gA_ (f:=82) rfl ?_);refine gL_ (some 17) Tryz.func82 #[.agg #[.slice A0_0 l0_0.length c0_0,.slice A0_1 l0_1.length c0_1]] rfl qa_ ?_;(with_reducible refine (Z73.calls k _ _ l0_0 _ _ l0_1 t268 t271 _ (cb_ HR0_0) HC0_0.out (cb_ HR0_1) HC0_1.out A24.out).mono ?_);rintro e w29 ⟨v269,v272,rfl,ho0,ho1,hb⟩;refine ⟨_,rfl,?_⟩;have HO270:=rl_ w ho0;have HO273:=rl_ w ho1;replace BK254:=bb_ BK254 hb;replace BK255:=bb_ BK255 hb;replace HB:=b1_ hb;clear hb ho0 ho1;obtain ⟨Ao30,co30,eo30⟩:=Kd.R_slice HO270.out;subst eo30;obtain ⟨hcz31_0,hcz31_1,hfz31_0,hfz31_1⟩:=c2_ BK255;obtain ⟨Ao32,co32,eo32⟩:=Kd.R_slice HO273.out;subst eo32))
    refine bodyPost_ret (results_cell_row rfl _ _ gb255 27 #[.slice Ao30 t268.length co30,.slice Ao32 t271.length co32] (0,0) _ rfl qp_ Tryz.underlying27 rfl (by kernel_rfl)) rfl ?_
    exact ⟨_,_,qb_,(rw_ (fa_ HO270 BK255)),(rw_ (fa_ HO273 BK255)),hB_⟩
   ·rw [if_neg c23] at H
    have c23b0:(a1 == 83) = false:=beq_eq_false_iff_ne.mpr c23
    have c23b1:(a1 != 83) = true:=bne_iff_ne.mpr c23
    obtain ⟨⟨t274,t277⟩,A33,H⟩:=bi_ H
    try dsimp only at H
    simp only [Option.some.injEq,Prod.mk.injEq] at H
    obtain ⟨rfl,rfl⟩:=H
    go_enter Tryz.func47,Tryz.ntmps47
    go_wp2_with (first | ((with_reducible refine gB_ (N:=2) rfl ?_);refine bx_ 2 #[.slice A0_0 l0_0.length c0_0,.slice A0_1 l0_1.length c0_1] 27 ?_;intro gb254 hg w34 hbox hb;have BK254:=A_ hbox;have GW254:=gw_ w hg;have GE254:=GW254;replace HB:=b1_ hb;clear hb hbox hg) | ((with_reducible refine gB_ (N:=4) rfl ?_);refine bx_ 4 #[.slice none 0 0,.slice none 0 0] 27 ?_;intro gb255 hg w35 hbox hb;have BK255:=A_ hbox;have GW255:=gw_ w hg;have GE255:=GW255;replace HB:=b1_ hb;have NB254_255:=gN_ BK254 hg;have NB255_254:=gP_ BK254 hg;replace BK254:=bb_ BK254 hb;clear hb hbox hg;have hnb36:=NB254_255.out;have hnc36:=NB255_254.out;obtain ⟨hcz37_0,hcz37_1,hfz37_0,hfz37_1⟩:=c2_ BK254) | ((with_reducible refine gA_ (f:=83) rfl ?_);refine gL_ (some 19) Tryz.func83 #[.agg #[.slice A0_0 l0_0.length c0_0,.slice A0_1 l0_1.length c0_1]] rfl qa_ ?_;(with_reducible refine (Z49.calls k _ _ l0_0 _ _ l0_1 t274 t277 _ (cb_ HR0_0) HC0_0.out (cb_ HR0_1) HC0_1.out A33.out).mono ?_);rintro e w38 ⟨v275,v278,rfl,ho0,ho1,hb⟩;refine ⟨_,rfl,?_⟩;have HO276:=rl_ w ho0;have HO279:=rl_ w ho1;replace BK254:=bb_ BK254 hb;replace BK255:=bb_ BK255 hb;replace HB:=b1_ hb;clear hb ho0 ho1;obtain ⟨Ao39,co39,eo39⟩:=Kd.R_slice HO276.out;subst eo39;obtain ⟨hcz40_0,hcz40_1,hfz40_0,hfz40_1⟩:=c2_ BK255;obtain ⟨Ao41,co41,eo41⟩:=Kd.R_slice HO279.out;subst eo41))
    refine bodyPost_ret (results_cell_row rfl _ _ gb255 27 #[.slice Ao39 t274.length co39,.slice Ao41 t277.length co41] (0,0) _ rfl qp_ Tryz.underlying27 rfl (by kernel_rfl)) rfl ?_
    exact ⟨_,_,qb_,(rw_ (fa_ HO276 BK255)),(rw_ (fa_ HO279 BK255)),hB_⟩
end Go.Proofs.YtcggfjpnfodbaaaGreat.A
end
