/- Lemmas for the row FnExactGeneratorWords: the program's functions told as plain functions, and plain mathematics. No conditions. -/
import Derived.ArgAppend
import Derived.Below
import Derived.BigQuiet
import Derived.Deep.AppendLies
import Derived.Deep.CutBlock
import Derived.Deep.DeepCutAuto
import Derived.Deep.Draws
import Derived.Deep.LoopGhost
import Derived.Deep.OwnRows
import Derived.Deep.QuietTactic
import Derived.Deep.RegionHeld3
import Derived.KernelRfl
import Derived.Laws.BitsLemmas
import Derived.Laws.BytesArg
import Derived.Laws.IdiomCopy
import Derived.Laws.MakeOwn
import Derived.Laws.OwnMore
import Derived.Laws.Rows
import Derived.Laws.Slices
import Derived.Laws.Tables
import Derived.Lib.AppendStr
import Derived.Lib.ConvBytes
import Derived.Maps.AppendAt
import Derived.OrdersHeld
import Derived.OwnWalk
import Derived.RowKit
import Derived.RowKit3
import Derived.Tactics
import Derived.Test.YtcggfjpnfodbaaaProg
import Derived.WalkKit
import Derived.WideLaws
import Derived.Test.YtcggfjpnfodbaaaQFnExactGeneratorWords0
section
namespace Go.Proofs.Ytcggfjpnfodbaaa.A
open Go.RowKit Go.Proofs.YtcggfjpnfodbaaaW.PrintWords Go.Proofs.YtcggfjpnfodbaaaW.PrintLast Go.Proofs.YtcggfjpnfodbaaaW.PrintMore
theorem cx_ {c : Prop} {d : Decidable c} {α : Type} {x : Option α} {r : α} (h : (@ite _ c d x none) = some r) : @decide c d = true ∧ x = some r := by
  by_cases hc : c
  · rw [if_pos hc] at h
    exact ⟨decide_eq_true hc, h⟩
  · rw [if_neg hc] at h
    cases h
theorem cq0_ {w:World} {g:Nat} {t:TypeId} {a b:Value} (h:w.heap[g]? = some (.cells #[a,b] t (0,0))):w.cell? ⟨g,0,none⟩ = some a:=(blk_cell h 0).trans rfl
theorem cq1_ {w:World} {g:Nat} {t:TypeId} {a b:Value} (h:w.heap[g]? = some (.cells #[a,b] t (0,0))):w.cell? ⟨g,1,none⟩ = some b:=(blk_cell h 1).trans rfl
theorem bA_:type_of% @below_alloc:=@below_alloc
theorem bB_:type_of% @pw_below_drewN:=@pw_below_drewN
theorem bC_:type_of% @below_drew1:=@below_drew1
theorem bD_:type_of% @below_set:=@below_set
theorem bE_:type_of% @below_step:=@below_step
theorem kA_:type_of% @blk_drewN:=@blk_drewN
theorem kB_:type_of% @blk_drew:=@blk_drew
theorem kC_:type_of% @blk_alloc:=@blk_alloc
theorem cA_:type_of% @Kd.C_alloc:=@Kd.C_alloc
theorem cB_:type_of% @Kd.C_drewN:=@Kd.C_drewN
theorem cC_:type_of% @Kd.C_drew:=@Kd.C_drew
theorem rA_:type_of% @Kd.R_alloc:=@Kd.R_alloc
theorem rB_:type_of% @Kd.R_drewN:=@Kd.R_drewN
theorem rC_:type_of% @Kd.R_drew:=@Kd.R_drew
theorem cD_:type_of% @Kd.C_below:=@Kd.C_below
theorem rD_:type_of% @Kd.R_below:=@Kd.R_below
theorem kD_:type_of% @blk_frozen:=@blk_frozen
theorem A_:type_of% @Aside0.mk:=@Aside0.mk
theorem mA_:type_of% @List.map_toArray:=@List.map_toArray
theorem mB_:type_of% @List.map_cons:=@List.map_cons
theorem mC_:type_of% @List.map_nil:=@List.map_nil
theorem sA_:type_of% @List.setIfInBounds_toArray:=@List.setIfInBounds_toArray
theorem sB_:type_of% @List.set_cons_zero:=@List.set_cons_zero
theorem sC_:type_of% @List.set_cons_succ:=@List.set_cons_succ
theorem lA_:type_of% @List.length_drop:=@List.length_drop
theorem lB_:type_of% @List.length_take:=@List.length_take
theorem gA_:type_of% @gate_callee:=@gate_callee
theorem gB_:type_of% @gate_dst:=@gate_dst
theorem oB_:type_of% @of_decide_eq_true:=@of_decide_eq_true
theorem oC_:type_of% @decide_eq_true:=@decide_eq_true
theorem oD_:type_of% @decide_eq_false:=@decide_eq_false
theorem rE_:type_of% @Kd.R_lower:=@Kd.R_lower
theorem bF_:type_of% @below_size:=@below_size
theorem kE_:type_of% @blk_below:=@blk_below
theorem nA_:type_of% @Nat.le_refl:=@Nat.le_refl
end Go.Proofs.Ytcggfjpnfodbaaa.A
end
section
namespace Go.Proofs.Ytcggfjpnfodbaaa.A
open Go.RowKit Go.Proofs.YtcggfjpnfodbaaaW.PrintWords Go.Proofs.YtcggfjpnfodbaaaW.PrintLast Go.Proofs.YtcggfjpnfodbaaaW.PrintMore
attribute [local go_sem] max2_int min2_int max_two min_two max_three min_three max_four min_four
set_option linter.unusedVariables false
set_option linter.unusedSimpArgs false
def errW:Option Int→Value
 | none=>.nilIface
 | some c=>.iface 0 (.int .i64 c)
theorem errW_none:errW none = .nilIface:=rfl
theorem errW_some (c:Int):errW (some c) = .iface 0 (.int .i64 c):=rfl
theorem info3:(Try.prog.info? 3).map (fun i=>(i.zero,i.size,i.bytes)) = some (some (.int .i64 0),1,8):=by kernel_rfl
theorem info4:(Try.prog.info? 4).map (fun i=>(i.zero,i.size,i.bytes)) = some (some (.bool false),1,1):=by kernel_rfl
theorem info5:(Try.prog.info? 5).map (fun i=>(i.zero,i.size,i.bytes)) = some (some (.int .u8 0),1,1):=by kernel_rfl
theorem info9:(Try.prog.info? 9).map (fun i=>(i.zero,i.size,i.bytes)) = some (some (.string ⟨#[]⟩),1,16):=by kernel_rfl
theorem info25:(Try.prog.info? 25).map (fun i=>(i.zero,i.size,i.bytes)) = some (some (.agg #[(.slice none 0 0),(.slice none 0 0)]),2,48):=by kernel_rfl
structure S25 where
 f0:(List Int)
 f1:(List Int)
def z25:S25:=⟨([]:List Int),([]:List Int)⟩
def pairN {α β:Type} (a:Kd α) (b:Kd β):Kd (α × β) where
 sz:=a.sz + b.sz
 E:=a.E ++ b.E
 K:=(Kd.pair a b).K
 M:=fun w base ok x cs=>∃ c0 c1,cs = c0 ++ c1∧a.M w base ok x.1 c0∧b.M w base ok x.2 c1∧∀ u ∈ c0,∀ v ∈ c1,NeRow u v
 K_len:=(Kd.pair a b).K_len
 K_one:=(Kd.pair a b).K_one
 K_below:=(Kd.pair a b).K_below
 K_of_M:=fun ⟨c0,c1,e,h0,h1,_⟩=>(Kd.pair a b).K_of_M ⟨c0,c1,e,h0,h1⟩
 M_mono:=fun hok ⟨c0,c1,e,h0,h1,n⟩=>⟨c0,c1,e,a.M_mono hok h0,b.M_mono hok h1,n⟩
 M_bound:=by
  rintro w base ok x cs ⟨c0,c1,rfl,h0,h1,n⟩
  refine ⟨c0,c1,rfl,a.M_mono ?_ (a.M_bound h0),b.M_mono ?_ (b.M_bound h1),n⟩
  ·rintro k ⟨h2,h3,h4,q,hq,hc⟩
   exact ⟨h2,h3,h4,q,List.mem_append_left _ hq,hc⟩
  ·rintro k ⟨h2,h3,h4,q,hq,hc⟩
   exact ⟨h2,h3,h4,q,List.mem_append_right _ hq,hc⟩
 M_move:=fun hm ⟨c0,c1,e,h0,h1,n⟩=>⟨c0,c1,e,a.M_move hm h0,b.M_move hm h1,n⟩
 M_lower:=fun hb ⟨c0,c1,e,h0,h1,n⟩=>⟨c0,c1,e,a.M_lower hb h0,b.M_lower hb h1,n⟩
def k25:Kd S25:=Kd.iso (pairN (Kd.slice 3 (Kd.int .i64)) (Kd.slice 3 (Kd.int .i64))) (fun x:S25=>(x.f0,x.f1))
theorem k25_open {w:World} {x:S25} {cs:List Value} (h:k25.K w x cs):∃ A0 c0 A1 c1,cs = [.slice A0 x.f0.length c0,.slice A1 x.f1.length c1]∧x.f0.length≤c0∧(Kd.int .i64).C w A0 x.f0.length x.f0∧x.f1.length≤c1∧(Kd.int .i64).C w A1 x.f1.length x.f1:=by
 obtain ⟨_,_,rfl,⟨A0,c0,rfl,l0,g0⟩,⟨A1,c1,rfl,l1,g1⟩⟩:=h
 exact ⟨A0,c0,A1,c1,rfl,l0,g0,l1,g1⟩
theorem k25_openN {w:World} {base:Nat} {ok:Nat→Prop} {x:S25} {cs:List Value} (h:k25.M w base ok x cs):∃ v0 v1,cs = [v0,v1]∧(Kd.int .i64).R 3 w base ok v0 x.f0∧(Kd.int .i64).R 3 w base ok v1 x.f1∧NeRow v0 v1:=by
 obtain ⟨_,_,rfl,⟨v0,rfl,g0⟩,⟨v1,rfl,g1⟩,n⟩:=h
 exact ⟨v0,v1,rfl,g0,g1,n v0 (by simp) v1 (by simp)⟩
theorem k25_mk (w:World) (x:S25) {A0:Option Addr} {c0:Nat} (l0:x.f0.length≤c0) (g0:(Kd.int .i64).C w A0 x.f0.length x.f0) {A1:Option Addr} {c1:Nat} (l1:x.f1.length≤c1) (g1:(Kd.int .i64).C w A1 x.f1.length x.f1):k25.K w x [.slice A0 x.f0.length c0,.slice A1 x.f1.length c1]:=⟨[.slice A0 x.f0.length c0],[.slice A1 x.f1.length c1],rfl,⟨A0,c0,rfl,l0,g0⟩,⟨A1,c1,rfl,l1,g1⟩⟩
theorem k25_mkM (w:World) (base:Nat) (ok:Nat→Prop) (x:S25) {v0:Value} (g0:(Kd.int .i64).R 3 w base ok v0 x.f0) {v1:Value} (g1:(Kd.int .i64).R 3 w base ok v1 x.f1) (ne:NeRow v0 v1):k25.M w base ok x [v0,v1]:=⟨[v0],[v1],rfl,⟨v0,rfl,g0⟩,⟨v1,rfl,g1⟩,fun u hu v hv=>by rw [List.mem_singleton.1 hu,List.mem_singleton.1 hv];exact ne⟩
theorem k25_openF {W:World} {ok:Nat→Prop} {x:S25} {cs:List Value} (h:Kd.FK k25 W ok x cs):∃ A0 c0 A1 c1,cs = [.slice A0 x.f0.length c0,.slice A1 x.f1.length c1]∧x.f0.length≤c0∧Kd.F (Kd.int .i64) W ok A0 x.f0.length x.f0∧x.f1.length≤c1∧Kd.F (Kd.int .i64) W ok A1 x.f1.length x.f1:=by
 obtain ⟨A0,c0,A1,c1,rfl,l0,_,l1,_⟩:=k25_open (Kd.FK_now h)
 exact ⟨A0,c0,A1,c1,rfl,l0,(fun W' hW=>by obtain ⟨A0_,c0_,A1_,c1_,he,l0_,g0_,l1_,g1_⟩:=k25_open (h W' hW);injection (Option.some.inj (show some (Value.slice A0 x.f0.length c0) = some (Value.slice A0_ x.f0.length c0_) from congrArg (fun l=>l[0]?) he)) with ha_ _ _;rw [ha_];exact g0_),l1,(fun W' hW=>by obtain ⟨A0_,c0_,A1_,c1_,he,l0_,g0_,l1_,g1_⟩:=k25_open (h W' hW);injection (Option.some.inj (show some (Value.slice A1 x.f1.length c1) = some (Value.slice A1_ x.f1.length c1_) from congrArg (fun l=>l[1]?) he)) with ha_ _ _;rw [ha_];exact g1_)⟩
theorem k25_mkF (W:World) (ok:Nat→Prop) (x:S25) {A0:Option Addr} {c0:Nat} (l0:x.f0.length≤c0) (g0:Kd.F (Kd.int .i64) W ok A0 x.f0.length x.f0) {A1:Option Addr} {c1:Nat} (l1:x.f1.length≤c1) (g1:Kd.F (Kd.int .i64) W ok A1 x.f1.length x.f1):Kd.FK k25 W ok x [.slice A0 x.f0.length c0,.slice A1 x.f1.length c1]:=fun W2 hW=>k25_mk W2 x l0 (g0 W2 hW) l1 (g1 W2 hW)
def rd_T25 (xs:List S25) (i:Int):S25:=xs.getD i.toNat z25
theorem at_T25 {w:World} {A:Option Addr} {n:Nat} {xs:List S25} (h:Kd.C k25 w A n xs) (i:Int) (h0:0≤i) (h1:i < n):∃ ad A0 c0 A1 c1,A = some ad∧w.cell? (ad.add (i.toNat * 2)) = some (.slice A0 (rd_T25 xs i).f0.length c0)∧w.cell? ⟨(ad.add (i.toNat * 2)).block,(ad.add (i.toNat * 2)).off + 1,none⟩ = some (.slice A1 (rd_T25 xs i).f1.length c1)∧(rd_T25 xs i).f0.length≤c0∧(Kd.int .i64).C w A0 (rd_T25 xs i).f0.length (rd_T25 xs i).f0∧(rd_T25 xs i).f1.length≤c1∧(Kd.int .i64).C w A1 (rd_T25 xs i).f1.length (rd_T25 xs i).f1:=by
 obtain ⟨ad,c,e,_,hK,hc0⟩:=Kd.C_get h z25 i h0 h1
 have hc:∀ j u,c[j]? = some u→w.cell? (ad.add (i.toNat * 2 + j)) = some u:=hc0
 obtain ⟨A0,c0,A1,c1,rfl,l0,g0,l1,g1⟩:=k25_open hK
 exact ⟨ad,A0,c0,A1,c1,e,hc 0 _ rfl,by rw [← add_field _ _ 1 (by omega)];exact hc 1 _ rfl,l0,g0,l1,g1⟩
structure S78 where
 f0:Int
 f1:Int
structure S99 where
 f0:(List Int)
 f1:Int
 f2:Int
end Go.Proofs.Ytcggfjpnfodbaaa.A
end
section
/- Short words for printed texts. No conditions. -/
namespace Go.Proofs.Ytcggfjpnfodbaaa.A
open Go.RowKit Go.Proofs.YtcggfjpnfodbaaaW.PrintWords Go.Proofs.YtcggfjpnfodbaaaW.PrintLast Go.Proofs.YtcggfjpnfodbaaaW.PrintMore
set_option linter.unusedVariables false
theorem qa_ {p:Prop} (h:p:=by (try simp only [List.map_toArray,List.map_cons,List.map_nil]);first | done | rfl | (simp only [List.length_drop,List.length_take];rfl)):p:=h
theorem qb_ {p:Prop} (h:p:=by first | rfl | (simp [errW_none,errW_some] <;> rfl) | (simp [*,errW_none,errW_some] <;> rfl)):p:=h
theorem qc_ {p:Prop} (h:p:=by first | rfl | (simp;done) | (simp [*];done)):p:=h
theorem qd_ {p:Prop} (h:p:=by first | omega | exact Nat.le_refl _):p:=h
theorem qe_ {p:Prop} (h:p:=by first | (with_reducible assumption) | assumption):p:=h
theorem hB_ {p:Prop} (h:p:=by repeat (first | (with_reducible first | exact HB.out | apply below_alloc | apply pw_below_drewN | apply below_drew1 | refine below_set ?_ (Aside0.out (by assumption))) | exact HB.out)):p:=h
theorem kk_ {w W:World} {g:Nat} {o:Obj} (a:Aside0 (w.heap[g]? = some o)) (hw:Below w.heap.size w W:=by repeat (first | (with_reducible first | exact Below.refl _ _ | apply below_alloc | apply pw_below_drewN | apply below_drew1) | exact Below.refl _ _)):W.heap[g]? = some o:=blk_below a.out hw
theorem bb_ {w W w1:World} {g:Nat} {o:Obj} (a:Aside0 (w.heap[g]? = some o)) (hb:Below W.heap.size W w1) (hw:Below w.heap.size w W:=by repeat (first | (with_reducible first | exact Below.refl _ _ | apply below_alloc | apply pw_below_drewN | apply below_drew1) | exact Below.refl _ _)):Aside0 (w1.heap[g]? = some o):=⟨blk_below (blk_below a.out hw) hb⟩
section
variable {α:Type} {d:Kd α} {e n c:Nat} {b:Nat} {ok:Nat→Prop} {v:Value} {xs:List α} {A:Option Addr} {w W w1:World}
theorem rr_ (a:Aside0 (d.R e w b ok v xs)) (hw:Below w.heap.size w W:=by repeat (first | (with_reducible first | exact Below.refl _ _ | apply below_alloc | apply pw_below_drewN | apply below_drew1) | exact Below.refl _ _)):d.R e W b ok v xs:=Kd.R_below a.out hw
theorem rw_ (a:d.R e w b ok v xs) (hw:Below w.heap.size w W:=by repeat (first | (with_reducible first | exact Below.refl _ _ | apply below_alloc | apply pw_below_drewN | apply below_drew1) | exact Below.refl _ _)):d.R e W b ok v xs:=Kd.R_below a hw
theorem rb_ (a:Aside0 (d.R e w b ok v xs)) (hb:Below W.heap.size W w1) (hw:Below w.heap.size w W:=by repeat (first | (with_reducible first | exact Below.refl _ _ | apply below_alloc | apply pw_below_drewN | apply below_drew1) | exact Below.refl _ _)):Aside0 (d.R e w1 b ok v xs):=⟨Kd.R_below (Kd.R_below a.out hw) hb⟩
theorem ss_ (a:Aside0 (Kd.S d e w b ok v xs)) (hw:Below w.heap.size w W:=by repeat (first | (with_reducible first | exact Below.refl _ _ | apply below_alloc | apply pw_below_drewN | apply below_drew1) | exact Below.refl _ _)):Kd.S d e W b ok v xs:=Kd.S_below a.out hw
theorem sw_ (a:Kd.S d e w b ok v xs) (hw:Below w.heap.size w W:=by repeat (first | (with_reducible first | exact Below.refl _ _ | apply below_alloc | apply pw_below_drewN | apply below_drew1) | exact Below.refl _ _)):Kd.S d e W b ok v xs:=Kd.S_below a hw
theorem sb_ (a:Aside0 (Kd.S d e w b ok v xs)) (hb:Below W.heap.size W w1) (hw:Below w.heap.size w W:=by repeat (first | (with_reducible first | exact Below.refl _ _ | apply below_alloc | apply pw_below_drewN | apply below_drew1) | exact Below.refl _ _)):Aside0 (Kd.S d e w1 b ok v xs):=⟨Kd.S_below (Kd.S_below a.out hw) hb⟩
theorem cb_ (a:Aside0 (d.C w A n xs)) (hw:Below w.heap.size w W:=by repeat (first | (with_reducible first | exact HB.out | apply below_alloc | apply pw_below_drewN | apply below_drew1 | refine below_set ?_ (Aside0.out (by assumption))) | exact HB.out)):d.C W A n xs:=Kd.C_below a.out hw
theorem cc_ (a:Aside0 (d.C w A n xs)) (hw:Below w.heap.size w W:=by repeat (first | (with_reducible first | exact Below.refl _ _ | apply below_alloc | apply pw_below_drewN | apply below_drew1) | exact Below.refl _ _)):d.C W A n xs:=Kd.C_below a.out hw
theorem cw_ (a:d.C w A n xs) (hw:Below w.heap.size w W:=by repeat (first | (with_reducible first | exact Below.refl _ _ | apply below_alloc | apply pw_below_drewN | apply below_drew1) | exact Below.refl _ _)):d.C W A n xs:=Kd.C_below a hw
theorem cr_ (a:Aside0 (d.R e w b ok (.slice A n c) xs)) (hw:Below w.heap.size w W:=by repeat (first | (with_reducible first | exact Below.refl _ _ | apply below_alloc | apply pw_below_drewN | apply below_drew1) | exact Below.refl _ _)):d.C W A xs.length xs:=Kd.C_below (Kd.R_reads' a.out).2.2 hw
end
theorem b1_ {w W w1:World} (hb:Below W.heap.size W w1) (h:Below w.heap.size w W:=by repeat (first | (with_reducible first | exact HB.out | apply below_alloc | apply pw_below_drewN | apply below_drew1 | refine below_set ?_ (Aside0.out (by assumption))) | exact HB.out)):Aside0 (Below w.heap.size w w1):=⟨below_step h hb⟩
theorem gx_ {n m k:Nat} (hg:k = m) (h:n≤m):n≤k:=hg ▸ h
theorem gn_ {n m k:Nat} (hg:k = m) (h:n < m):n≠k:=hg ▸ Nat.ne_of_lt h
theorem gp_ {n m k:Nat} (hg:k = m) (h:n < m):k≠n:=hg ▸ Nat.ne_of_gt h
theorem cz0_ {w:World} {g:Nat} {t:TypeId} {l:List Value} {v0:Value} (h:Aside0 (w.heap[g]? = some (.cells (List.toArray (v0 :: l)) t (0,0)))):w.cell? ⟨g,0,none⟩ = some v0:=(blk_cell h.out 0).trans rfl
theorem cz1_ {w:World} {g:Nat} {t:TypeId} {l:List Value} {v0 v1:Value} (h:Aside0 (w.heap[g]? = some (.cells (List.toArray (v0 :: v1 :: l)) t (0,0)))):w.cell? ⟨g,1,none⟩ = some v1:=(blk_cell h.out 1).trans rfl
theorem c2_ {w:World} {g:Nat} {t:TypeId} {v0 v1:Value} (h:Aside0 (w.heap[g]? = some (.cells (List.toArray [v0,v1]) t (0,0)))):w.cell? ⟨g,0,none⟩ = some v0∧w.cell? ⟨g,1,none⟩ = some v1∧w.frozen? ⟨g,0,none⟩ = false∧w.frozen? ⟨g,1,none⟩ = false:=⟨cz0_ h,cz1_ h,blk_frozen h.out 0,blk_frozen h.out 1⟩
theorem gw_ (w:World) {W:World} {g:Nat} (hg:g = W.heap.size) (h:Below w.heap.size w W:=by repeat (first | (with_reducible first | exact HB.out | apply below_alloc | apply pw_below_drewN | apply below_drew1 | refine below_set ?_ (Aside0.out (by assumption))) | exact HB.out)):Aside0 (w.heap.size≤g):=⟨gx_ hg (below_size h)⟩
theorem gN_ {w W:World} {g k:Nat} {o:Obj} (a:Aside0 (w.heap[g]? = some o)) (hg:k = W.heap.size) (hw:Below w.heap.size w W:=by repeat (first | (with_reducible first | exact Below.refl _ _ | apply below_alloc | apply pw_below_drewN | apply below_drew1) | exact Below.refl _ _)):Aside0 (g≠k):=⟨gn_ hg (blk_lt (blk_below a.out hw))⟩
theorem gP_ {w W:World} {g k:Nat} {o:Obj} (a:Aside0 (w.heap[g]? = some o)) (hg:k = W.heap.size) (hw:Below w.heap.size w W:=by repeat (first | (with_reducible first | exact Below.refl _ _ | apply below_alloc | apply pw_below_drewN | apply below_drew1) | exact Below.refl _ _)):Aside0 (k≠g):=⟨gp_ hg (blk_lt (blk_below a.out hw))⟩
theorem rl_ {α:Type} {d:Kd α} {e:Nat} {ok:Nat→Prop} {v:Value} {xs:List α} (w:World) {W w1:World} (a:d.R e w1 W.heap.size ok v xs) (h:Below w.heap.size w W:=by repeat (first | (with_reducible first | exact HB.out | apply below_alloc | apply pw_below_drewN | apply below_drew1 | refine below_set ?_ (Aside0.out (by assumption))) | exact HB.out)):Aside0 (d.R e w1 w.heap.size ok v xs):=⟨Kd.R_lower a (below_size h)⟩
theorem cp_ {α:Type} {c:Prop} [Decidable c] {a:Option α} {r:α} (H:(if c then a else none) = some r):c:=Classical.byContradiction fun h=>by rw [if_neg h] at H;cases H
theorem ca_ {α:Type} {c:Prop} [Decidable c] {a:Option α} {r:α} (H:(if c then a else none) = some r):a = some r:=by rw [if_pos (cp_ H)] at H;exact H
theorem bi_ {α β:Type} {x:Option α} {f:α→Option β} {r:β} (H:x.bind f = some r):∃ a,Aside0 (x = some a)∧f a = some r:=by obtain ⟨a,h,k⟩:=Option.bind_eq_some_iff.mp H;exact ⟨a,⟨h⟩,k⟩
theorem qp_ {p:Prop} (h:p:=by (with_reducible repeat (first | refine blk_drewN ?_ _ | refine blk_drew ?_ | refine blk_alloc ?_ _));apply blk_put;(with_reducible repeat (first | refine blk_drewN ?_ _ | refine blk_drew ?_ | refine blk_alloc ?_ _));apply blk_put;(with_reducible repeat (first | refine blk_drewN ?_ _ | refine blk_drew ?_ | refine blk_alloc ?_ _));exact Aside0.out (by assumption);all_goals rfl):p:=h
theorem fa_ {α:Type} {d:Kd α} {e b g t:Nat} {ok:Nat→Prop} {v u0 u1:Value} {xs:List α} {w:World} {cs:Array Value} (a:Aside0 (d.R e w b ok v xs)) (h:Aside0 (w.heap[g]? = some (.cells cs t (0,0)))) (ht:∀ q,q ∈ e :: d.E→q≠t:=by decide):d.R e ((w.setCell ⟨g,0,none⟩ u0).setCell ⟨g,1,none⟩ u1) b ok v xs:=Kd.R_mono (Kd.R_far (p:=⟨g,1,none⟩) (Kd.R_far (p:=⟨g,0,none⟩) (Kd.R_types a.out h.out ht) (fun _ hk=>hk.2) u0) (fun _ hk=>hk.2) u1) (fun _ hk=>hk.1)
def bl_ (n m:Nat):Array Bool:=((List.range n).map fun i=>m.testBit i).toArray
theorem lo_ {α:Type} {a b:Option α} (h:LeO a b:=by first | exact LeO.refl _ | exact LeO.none _):LeO a b:=h
section
variable {P:Program} {ops:Array Oper} {rest:List Oper} {o:Oper} {a:Act} {Q:Exit→Act→World→Prop} {S:World→Prop} {ds:List Nat} {md:Region.Mode} {T:Bool × List (List Nat × List Nat)} {B:List Nat}
theorem bx_ {W:World} (N:Tmp) (cs:Array Value) (t:TypeId) (h:∀ g,g = W.heap.size→∀ w1,w1.heap[g]? = some (.cells cs t (0,0))→Below W.heap.size W w1→wpList P ops Q rest (a.put o.dst (.pointer (some ⟨g,0,none⟩))) w1) (hgd:o.guard = none:=by rfl) (hd:o.dst = some N:=by rfl) (hrun:(execOp a.eval o).run P W = .ok (.value (.pointer (some ⟨W.heap.size,0,none⟩))) (W.alloc (.cells cs t (0,0))):=by first | (go_simp;done) | (go_simp;rfl)):wpList P ops Q (o :: rest) a W:=box_event hgd hd hrun h
theorem gL_ {w : World} (N : Option Tmp) {f : FuncId} {fn : Func} {az : Array Operand} {ts : Array TypeId} (hf : P.funcs[f]? = some fn) (args : Array Value) (hop : o.op = .call { callee := .value (.func f), args := az, argTypes := ts }) (hargs : az.map a.eval = args) (h : Calls P f args w fun e w' => ∃ v, e = .returned v ∧ wpList P ops Q rest (a.put N v) w') (hd : o.dst = N := by rfl) (hg : o.guard = none := by rfl) (hname : (fn.name == "runtime.NumGoroutine") = false := by kernel_rfl) (hb : fn.body.isSome = true := by rfl) : wpList P ops Q (o :: rest) a w := goesL_ N hd hg hf hname hb args hop hargs h
theorem gO_ {N : Option Tmp} {w : World} {K : Act → World → Prop} {f : FuncId} {fn : Func} {az : Array Operand} {ts : Array TypeId} (hf : P.funcs[f]? = some fn) (args : Array Value) (hw : Region.wanted o (yielded ops a.tmps) = true) (hN : o.dst = N) (hop : o.op = .call { callee := .value (.func f), args := az, argTypes := ts }) (hargs : az.map a.eval = args) (h : Calls P f args w fun e w' => ∃ v, e = .returned v ∧ K (a.put N v) w') (hname : (fn.name == "runtime.NumGoroutine") = false := by kernel_rfl) (hb : fn.body.isSome = true := by rfl) : if Region.wanted o (yielded ops a.tmps) = true then Oper.wp P o a w K Q else K (a.put N undef) w := goes_ hf hname hb args hw hN hop hargs h
theorem goesF_ {N : Option Tmp} {w : World} {K : Act → World → Prop} {f : FuncId} {fn : Func} {c : Operand} {az : Array Operand} {ts : Array TypeId} (hf : P.funcs[f]? = some fn) (hname : (fn.name == "runtime.NumGoroutine") = false) (hb : fn.body.isSome = true) (args : Array Value) (hw : Region.wanted o (yielded ops a.tmps) = true) (hN : o.dst = N) (hop : o.op = .call { callee := .value c, args := az, argTypes := ts }) (hargs : az.map a.eval = args) (h : Calls P f args w fun e w' => ∃ v, e = .returned v ∧ K (a.put N v) w') (hc : a.eval c = .func (.func f) #[] #[] := by rfl) : if Region.wanted o (yielded ops a.tmps) = true then Oper.wp P o a w K Q else K (a.put N undef) w := by
 refine call_ f args hw hN ?_ h
 have he:=enters_ hf hname hb args w
 unfold execOp
 simp [hop,resolve,Deferred.ofValue,invoke,hargs,he,hc]
theorem pu_ (i:Nat) (N:Option Tmp) {v:Value} {fuel:Nat} {l:Array Bool} {w:World} (l':Array Bool) (hT:Aside0 (rtab md ops = T)) {a':Act} (h:wpAnyLast P md ops Q S ds fuel l' a' w) (hi:ops[i]? = some o:=by rfl) (hN:o.dst = N:=by rfl) (hc:anyT T l.toList l'.toList i = true:=by kernel_rfl) (hQ:∀ c a w,Q (.panic c) (a.put o.dst v) w→Q (.panic c) a w:=by exact fun _ _ _ h=>h) (hg:o.guard = none ∨ True:=by exact .inr trivial) (hy:Yields P ops o v a:=by exact Or.inl ⟨by rfl,by intro w';go_simp;with_reducible rfl⟩) (ha:a.put N v = a':=by simp only [Act.put,List.setIfInBounds_toArray,List.set_cons_zero,List.set_cons_succ,i64_w,i32_w];rfl):wpAnyLast P md ops Q S ds (fuel + 1) l a w:=pure_ l' hi hN (any_of hT.out hc) hQ hy ha h
theorem ta_ (i:Nat) (N:Option Tmp) {v:Value} {fuel:Nat} {l:Array Bool} {w:World} (l':Array Bool) (hT:Aside0 (rtab md ops = T)) (hB:Aside0 (waitsOk T.2 B = true)) (hS:S w) {a':Act} (h:wpAnyLast P md ops Q S ds fuel l' a' w) (hi:ops[i]? = some o:=by rfl) (hN:o.dst = N:=by rfl) (hc:takeW T B ds l.toList l'.toList i = true:=by kernel_rfl) (hQ:∀ c a w,Q (.panic c) (a.put o.dst v) w→Q (.panic c) a w:=by exact fun _ _ _ h=>h) (hy:YieldsIf P ops S o v a:=by exact Or.inl ⟨by rfl,by intro w' hs_;(repeat obtain ⟨s_,hs_⟩:=hs_);go_simp;with_reducible rfl⟩) (ha:a.put N v = a':=by simp only [Act.put,List.setIfInBounds_toArray,List.set_cons_zero,List.set_cons_succ,i64_w,i32_w];rfl):wpAnyLast P md ops Q S ds (fuel + 1) l a w:=take_ l' hi hN (take_ofW hT.out hB.out hc) hQ hy hS ha h
theorem on_ (i:Nat) (N:Option Tmp) {fuel:Nat} {l:Array Bool} {w:World} (l':Array Bool) (hT:Aside0 (rtab md ops = T)) (h:∀ K:Act→World→Prop,Shut (∀ a' w',S w'→(S w'→wpAnyLast P md ops Q S ds fuel l' a' w')→K a' w')→if Region.wanted o (yielded ops a.tmps) = true then Oper.wp P o a w K Q else K (a.put N undef) w) (hi:ops[i]? = some o:=by rfl) (hN:o.dst = N:=by rfl) (hc:(readyT T.2 l.toList == [i] && l.toList.set i true == l'.toList) = true:=by kernel_rfl) (hd:i ∉ ds:=by decide):wpAnyLast P md ops Q S ds (fuel + 1) l a w:=one_ l' hi hN (one_of hT.out hc) hd h
theorem no_ {v:Value} {fuel:Nat} {l:Array Bool} {w:World} (N:Option Tmp) {a':Act} (h:wpAnyLast P md ops Q S ds fuel l a' w) (ha:a.put N v = a':=by simp only [Act.put,List.setIfInBounds_toArray,List.set_cons_zero,List.set_cons_succ,i64_w,i32_w];rfl):wpAnyLast P md ops Q S ds fuel l (a.put N v) w:=norm_ ha h
end
end Go.Proofs.Ytcggfjpnfodbaaa.A
end
section
namespace Go.Proofs.Ytcggfjpnfodbaaa.A
open Go.RowKit Go.Proofs.YtcggfjpnfodbaaaW.PrintWords Go.Proofs.YtcggfjpnfodbaaaW.PrintLast Go.Proofs.YtcggfjpnfodbaaaW.PrintMore
attribute [local go_sem] max2_int min2_int max_two min_two max_three min_three max_four min_four
set_option linter.unusedVariables false
set_option linter.unusedSimpArgs false
def Z63.f (l0:List Int) (a1:Int):Option (Int):=if (wrap64 (a1 - (l0.length:Int))) < 0 then (some (-1)) else (some (wrap64 (a1 - (l0.length:Int))))
set_option maxHeartbeats 8000000 in
set_option maxRecDepth 100000 in
theorem Z63.calls (A0:Option Addr) (c0:Nat) (l0:List Int) (a1:Int) (r:Int) (w:World) (hr0:Kd.C (Kd.int .i64) w A0 l0.length l0) (hc0:l0.length≤c0) (h:Z63.f l0 a1 = some r) :
  Calls Try.prog 79 #[.slice A0 l0.length c0,.int .i64 a1] w fun e w'=>e = .returned (.int .i64 r)∧Drawn0 w w':=by
 have HR0:=A_ hr0
 have HC0:=A_ hc0
 clear hr0 hc0
 have H:=h
 unfold Z63.f at H
 clear h
 by_cases c3:(wrap64 (a1 - (l0.length:Int))) < 0
 ·rw [if_pos c3] at H
  have c3b0:=oC_ c3
  clear c3
  obtain rfl:=Option.some.inj H
  go_enter Try.func79,Try.ntmps79
  go_wp2
  go_ret
  exact ⟨qc_,by repeat (first | exact Drawn0.refl _ | apply Drawn0.step)⟩
 ·rw [if_neg c3] at H
  have c3b0:=oD_ c3
  clear c3
  obtain rfl:=Option.some.inj H
  go_enter Try.func79,Try.ntmps79
  go_wp2
  go_ret
  exact ⟨qc_,by repeat (first | exact Drawn0.refl _ | apply Drawn0.step)⟩
def Z35.f (l0_0:List Int) (l0_1:List Int) (a1:Int):Option (Int):=(Z63.f l0_0 a1).bind fun t718=>(if t718 < 0 then (some (-1)) else ((Z63.f l0_1 t718).bind fun t719=>(if t719 < 0 then (some (-1)) else (some t719))))
set_option maxHeartbeats 8000000 in
set_option maxRecDepth 100000 in
theorem Z35.calls (A0_0:Option Addr) (c0_0:Nat) (l0_0:List Int) (A0_1:Option Addr) (c0_1:Nat) (l0_1:List Int) (a1:Int) (r:Int) (w:World) (hr0_0:Kd.C (Kd.int .i64) w A0_0 l0_0.length l0_0) (hc0_0:l0_0.length≤c0_0) (hr0_1:Kd.C (Kd.int .i64) w A0_1 l0_1.length l0_1) (hc0_1:l0_1.length≤c0_1) (h:Z35.f l0_0 l0_1 a1 = some r) :
  Calls Try.prog 31 #[.agg #[.slice A0_0 l0_0.length c0_0,.slice A0_1 l0_1.length c0_1],.int .i64 a1] w fun e w'=>e = .returned (.int .i64 r)∧Below w.heap.size w w':=by
 have hu44:=Try.underlying44
 have HR0_0:=A_ hr0_0
 have HC0_0:=A_ hc0_0
 clear hr0_0 hc0_0
 have HR0_1:=A_ hr0_1
 have HC0_1:=A_ hc0_1
 clear hr0_1 hc0_1
 have HB:=A_ (Below.refl w.heap.size w)
 have H:=h
 unfold Z35.f at H
 clear h
 obtain ⟨t718,A3,H⟩:=bi_ H
 by_cases c4:t718 < 0
 ·rw [if_pos c4] at H
  have c4b0:=oC_ c4
  clear c4
  obtain rfl:=Option.some.inj H
  go_enter Try.func31,Try.ntmps31
  go_wp2_with (first | ((with_reducible refine gB_ (N:=2) rfl ?_);refine bx_ 2 #[.slice A0_0 l0_0.length c0_0,.slice A0_1 l0_1.length c0_1] 44 ?_;intro gb717 hg w5 hbox hb;have BK717:=A_ hbox;have GW717:=gw_ w hg;have GE717:=GW717;replace HB:=b1_ hb;clear hb hbox hg;obtain ⟨hcz6_0,hcz6_1,hfz6_0,hfz6_1⟩:=c2_ BK717) | ((with_reducible refine gA_ (f:=79) rfl ?_);refine gL_ (some 8) Try.func79 #[.slice A0_0 l0_0.length c0_0,.int .i64 a1] rfl qa_ ?_;(with_reducible refine (Z63.calls _ _ l0_0 a1 t718 _ (cb_ HR0_0) HC0_0.out A3.out).mono ?_);rintro e w' ⟨rfl,⟨nd,rfl⟩⟩;refine ⟨_,rfl,?_⟩))
  go_ret
  exact ⟨qb_,hB_⟩
 ·rw [if_neg c4] at H
  have c4b0:=oD_ c4
  clear c4
  obtain ⟨t719,A7,H⟩:=bi_ H
  by_cases c8:t719 < 0
  ·rw [if_pos c8] at H
   have c8b0:=oC_ c8
   clear c8
   obtain rfl:=Option.some.inj H
   go_enter Try.func31,Try.ntmps31
   go_wp2_with (first | ((with_reducible refine gB_ (N:=2) rfl ?_);refine bx_ 2 #[.slice A0_0 l0_0.length c0_0,.slice A0_1 l0_1.length c0_1] 44 ?_;intro gb717 hg w9 hbox hb;have BK717:=A_ hbox;have GW717:=gw_ w hg;have GE717:=GW717;replace HB:=b1_ hb;clear hb hbox hg;obtain ⟨hcz10_0,hcz10_1,hfz10_0,hfz10_1⟩:=c2_ BK717) | ((with_reducible refine gA_ (f:=79) rfl ?_);refine gL_ (some 8) Try.func79 #[.slice A0_0 l0_0.length c0_0,.int .i64 a1] rfl qa_ ?_;(with_reducible refine (Z63.calls _ _ l0_0 a1 t718 _ (cb_ HR0_0) HC0_0.out A3.out).mono ?_);rintro e w' ⟨rfl,⟨nd,rfl⟩⟩;refine ⟨_,rfl,?_⟩) | ((with_reducible refine gA_ (f:=79) rfl ?_);refine gL_ (some 14) Try.func79 #[.slice A0_1 l0_1.length c0_1,.int .i64 t718] rfl qa_ ?_;(with_reducible refine (Z63.calls _ _ l0_1 t718 t719 _ (cw_ (cD_ HR0_1.out hB_)) HC0_1.out A7.out).mono ?_);rintro e w' ⟨rfl,⟨nd,rfl⟩⟩;refine ⟨_,rfl,?_⟩))
   go_ret
   exact ⟨qb_,hB_⟩
  ·rw [if_neg c8] at H
   have c8b0:=oD_ c8
   clear c8
   obtain rfl:=Option.some.inj H
   go_enter Try.func31,Try.ntmps31
   go_wp2_with (first | ((with_reducible refine gB_ (N:=2) rfl ?_);refine bx_ 2 #[.slice A0_0 l0_0.length c0_0,.slice A0_1 l0_1.length c0_1] 44 ?_;intro gb717 hg w11 hbox hb;have BK717:=A_ hbox;have GW717:=gw_ w hg;have GE717:=GW717;replace HB:=b1_ hb;clear hb hbox hg;obtain ⟨hcz12_0,hcz12_1,hfz12_0,hfz12_1⟩:=c2_ BK717) | ((with_reducible refine gA_ (f:=79) rfl ?_);refine gL_ (some 8) Try.func79 #[.slice A0_0 l0_0.length c0_0,.int .i64 a1] rfl qa_ ?_;(with_reducible refine (Z63.calls _ _ l0_0 a1 t718 _ (cb_ HR0_0) HC0_0.out A3.out).mono ?_);rintro e w' ⟨rfl,⟨nd,rfl⟩⟩;refine ⟨_,rfl,?_⟩) | ((with_reducible refine gA_ (f:=79) rfl ?_);refine gL_ (some 14) Try.func79 #[.slice A0_1 l0_1.length c0_1,.int .i64 t718] rfl qa_ ?_;(with_reducible refine (Z63.calls _ _ l0_1 t718 t719 _ (cw_ (cD_ HR0_1.out hB_)) HC0_1.out A7.out).mono ?_);rintro e w' ⟨rfl,⟨nd,rfl⟩⟩;refine ⟨_,rfl,?_⟩))
   go_ret
   exact ⟨qb_,hB_⟩
def Z64.l0:Nat→List Int→List Int→Int→Option (List Int)
 | 0,_,_,_=>none
 | k + 1,x0,x3,x4=>if x4 < (x0.length:Int) then (if 0≤x4 then (if x4 < (x3.length:Int) then (Z64.l0 k x0 (x3.set (x4:Int).toNat (rd x0 x4)) (wrap64 (x4 + 1))) else (none)) else (none)) else (some x3)
def Z64.f (k:Nat) (l0:List Int):Option (List Int):=if 0≤(l0.length:Int) then (if ((l0.length:Int):Int).toNat≤35184372088832 then (Z64.l0 k l0 (List.replicate ((l0.length:Int):Int).toNat 0) 0) else (none)) else (none)
theorem Z64.mono_l:∀ k,(∀ y0 y1 y2,LeO (Z64.l0 k y0 y1 y2) (Z64.l0 (k + 1) y0 y1 y2))
 | 0=>fun _ _ _ r h=>by simp [Z64.l0] at h
 | k + 1=>by
  have ih0:=Z64.mono_l k
  ·intro y0 y1 y2
   unfold Z64.l0
   repeat' first|exact ih0 _ _ _|exact lo_|refine LeO.ite ?_ ?_|refine LeO.bind ?_ (fun _=>?_)
theorem Z64.mono:∀ a0 k,LeO (Z64.f k a0) (Z64.f (k + 1) a0):=by
 intro a0 k
 have ih0:=Z64.mono_l k
 unfold Z64.f
 repeat' first|exact ih0 _ _ _|exact lo_|refine LeO.ite ?_ ?_|refine LeO.bind ?_ (fun _=>?_)
set_option maxHeartbeats 8000000 in
set_option maxRecDepth 100000 in
theorem Z64.calls (k:Nat) (A0:Option Addr) (c0:Nat) (l0:List Int) (r:List Int) (w:World) (hr0:Kd.C (Kd.int .i64) w A0 l0.length l0) (hc0:l0.length≤c0) (h:Z64.f k l0 = some r) :
  Calls Try.prog 83 #[.slice A0 l0.length c0] w fun e w'=>∃ v0_:Value,e = .returned (v0_)∧Kd.R (Kd.int .i64) 3 w' w.heap.size (fun _=>True) v0_ r∧Below w.heap.size w w':=by
 have HR0:=A_ hr0
 have HC0:=A_ hc0
 clear hr0 hc0
 have HB:=A_ (Below.refl w.heap.size w)
 have H:=h
 unfold Z64.f at H
 clear h
 have c2:=cp_ H
 replace H:=ca_ H
 have c2b0:=eq_true c2
 have c2b1:=oC_ c2
 clear c2
 have c3:=cp_ H
 replace H:=ca_ H
 have c3b0:=eq_true c3
 have c3b1:=oC_ c3
 clear c3
 obtain ⟨y934,hy934⟩:∃ y_:List Int,y_ = (List.replicate ((l0.length:Int):Int).toNat 0):=⟨_,rfl⟩
 replace H:(Z64.l0 k l0 y934 0) = some r:=by first | (rw [hy934];exact H) | exact H
 have Ny934:=A_ hy934
 clear hy934
 have H':=A_ H
 clear H
 go_enter Try.func83,Try.ntmps83
 go_wp2_with (first | ((with_reducible refine gB_ (N:=7) rfl ?_);refine Kd.R_make (Kd.int .i64) _ 3 rfl (N:=7) rfl 23 _ _ rfl (l0.length:Int) rfl rfl Try.underlying23 (.int .i64 0) 8 info3 rfl (by decide) (by omega) 0 (ok:=fun _=>True) (okp:=fun _=>True) rfl (fun _ hk=>hk) trivial (oB_ qe_) (Nat.le_trans (Nat.mul_le_mul_right _ (oB_ qe_:(l0.length:Int).toNat≤35184372088832)) (by omega)) (Below.refl _ _) (nA_ _) ?_;intro v935 w4 ho5 hb hg_ hnew_;clear hg_ hnew_;(first | rw [← Ny934.out] at ho5 | (simp only [Int.reduceToNat] at ho5;rw [← Ny934.out] at ho5));have HO936:=rl_ w ho5;replace HB:=b1_ hb;clear hb ho5))
 go_loopg [4] k (fun kq v4 w'=>∃ (x3_1:List Int) (x4_1:Int),v4 = .int .i64 x4_1∧Aside0 (Z64.l0 kq l0 x3_1 x4_1 = some r)∧Aside0 (kq≤k)∧Aside0 (Kd.R (Kd.int .i64) 3 w' w.heap.size (fun _=>True) v935 x3_1)∧Aside0 (Below w.heap.size w w'))
 case atStart=>exact ⟨(y934),(0),qc_,H',⟨nA_ _⟩,⟨(rr_ HO936)⟩,⟨hB_⟩⟩
 case round =>
  clear H'
  obtain ⟨x3_1,x4_1,rfl,HA,HK1,HO_3,HB⟩:=hrel
  cases gk with
  | zero=>exact absurd HA.out (by simp [Z64.l0])
  | succ k1 =>
   have H:=HA.out
   clear HA
   simp only [Z64.l0] at H
   by_cases c6:x4_1 < (l0.length:Int)
   ·rw [if_pos c6] at H
    have c6b0:=oC_ c6
    clear c6
    replace H:=cx_ H;obtain ⟨c7b0,H⟩:=H
    replace H:=cx_ H;obtain ⟨c8b0,H⟩:=H
    obtain ⟨y938,hy938⟩:∃ y_:List Int,y_ = (x3_1.set (x4_1:Int).toNat (rd l0 x4_1)):=⟨_,rfl⟩
    replace H:(Z64.l0 k1 l0 y938 (wrap64 (x4_1 + 1))) = some r:=by first | (rw [hy938];exact H) | exact H
    have Ny938:=A_ hy938
    clear hy938
    have H':=A_ H
    clear H
    have p937:0≤(x4_1:Int):=oB_ qe_
    have q937:x4_1 < (l0.length:Int):=oB_ qe_
    obtain ⟨ad937,e937,hx937_0⟩:=Kd.at_int HR0.out x4_1 p937 q937
    cases e937
    replace hx937_0:=(HB.out.cell (World.block_lt_of_cell? w _ hx937_0)).trans hx937_0
    replace p937:=eq_true p937
    replace q937:=eq_true q937
    have p9:0≤(x4_1:Int):=oB_ qe_
    have q9:(x4_1:Int) < ((x3_1.length:Int):Int):=oB_ qe_
    obtain ⟨go9,co9,eo9,gb9,gl9,cl9,HG9⟩:=Kd.R_form HO_3.out (by omega)
    (first | cases eo9 | (injection eo9 with ea_ en_ ec_;(first | subst ea_ | (injection ea_ with ea_;subst ea_));subst ec_;clear en_))
    have GB9:=A_ gb9
    have GG9:=A_ HG9
    clear gb9 gl9 HG9
    obtain ⟨hx9_0,hf9_0⟩:=Kd.R_celln 0 HO_3.out (x4_1:Int) p9 q9
    replace p9:=eq_true p9
    replace q9:=eq_true q9
    have HP10:=Kd.R_putg HO_3.out (x4_1:Int) (rd l0 x4_1)
    go_wp2_with (first | ((with_reducible refine gate_store (t:=3) (p:=20) rfl ?_);refine store_event (t:=3) (p:=20) (v:=?vo_w11) (w1:=(wr.setCell ⟨go9,(x4_1:Int).toNat,none⟩ (.int .i64 (rd l0 x4_1)))) ?hg ?ho ?hn ?hr ?_;(case ho=>rfl);(case hg=>rfl);(case hn=>rfl);(case hr=>first | (go_simp;done) | (go_simp;rfl));intro w11 hw;have hg:wr.grownBy w11 (some go9):=(by rw [hw];exact HP10.2);have hp_:Kd.R (Kd.int .i64) 3 w11 w.heap.size (fun _=>True) (.slice (some ⟨go9,0,none⟩) x3_1.length co9) y938:=(by rw [hw,Ny938.out];exact HP10.1);clear HP10;replace HO_3:=A_ (hp_);replace HB:=A_ ((by rw [hw];exact bD_ (HB.out) GB9.out:Below w.heap.size w w11));clear hg hw hp_))
    go_roundg k1
    case measure=>have:=HK1.out;omega
    case rel=>exact ⟨(y938),(wrap64 (x4_1 + 1)),qc_,H',⟨by have:=HK1.out;omega⟩,⟨(rr_ HO_3)⟩,⟨hB_⟩⟩
   ·rw [if_neg c6] at H
    have c6b0:=oD_ c6
    clear c6
    obtain rfl:=Option.some.inj H
    go_wp2
    go_ret
    exact ⟨_,qb_,(rr_ HO_3),hB_⟩
def Z36.f (k:Nat) (l0_0:List Int) (l0_1:List Int):Option (List Int × List Int):=(Z64.f k l0_0).bind fun t942=>((Z64.f k l0_1).bind fun t945=>(some (t942,t945)))
theorem Z36.mono:∀ a0 a1 k,LeO (Z36.f k a0 a1) (Z36.f (k + 1) a0 a1):=by
 intro a0 a1 k
 unfold Z36.f
 repeat' first|exact Z64.mono _ _|exact lo_|refine LeO.ite ?_ ?_|refine LeO.bind ?_ (fun _=>?_)
set_option maxHeartbeats 8000000 in
set_option maxRecDepth 100000 in
theorem Z36.calls (k:Nat) (A0_0:Option Addr) (c0_0:Nat) (l0_0:List Int) (A0_1:Option Addr) (c0_1:Nat) (l0_1:List Int) (r1:List Int) (r2:List Int) (w:World) (hr0_0:Kd.C (Kd.int .i64) w A0_0 l0_0.length l0_0) (hc0_0:l0_0.length≤c0_0) (hr0_1:Kd.C (Kd.int .i64) w A0_1 l0_1.length l0_1) (hc0_1:l0_1.length≤c0_1) (h:Z36.f k l0_0 l0_1 = some (r1,r2)) :
  Calls Try.prog 33 #[.agg #[.slice A0_0 l0_0.length c0_0,.slice A0_1 l0_1.length c0_1]] w fun e w'=>∃ v0_ v1_:Value,e = .returned (.agg #[v0_,v1_])∧Kd.R (Kd.int .i64) 3 w' w.heap.size (fun k_=>some k_≠(v1_:Value).ownBlock) v0_ r1∧Kd.R (Kd.int .i64) 3 w' w.heap.size (fun k_=>some k_≠(v0_:Value).ownBlock) v1_ r2∧Below w.heap.size w w':=by
 have hu44:=Try.underlying44
 have hu25:=Try.underlying25
 have HR0_0:=A_ hr0_0
 have HC0_0:=A_ hc0_0
 clear hr0_0 hc0_0
 have HR0_1:=A_ hr0_1
 have HC0_1:=A_ hc0_1
 clear hr0_1 hc0_1
 have HB:=A_ (Below.refl w.heap.size w)
 have H:=h
 unfold Z36.f at H
 clear h
 obtain ⟨t942,A2,H⟩:=bi_ H
 obtain ⟨t945,A3,H⟩:=bi_ H
 simp only [Option.some.injEq,Prod.mk.injEq] at H
 obtain ⟨rfl,rfl⟩:=H
 go_enter Try.func33,Try.ntmps33
 go_wp2_with (first | ((with_reducible refine gB_ (N:=1) rfl ?_);refine bx_ 1 #[.slice A0_0 l0_0.length c0_0,.slice A0_1 l0_1.length c0_1] 44 ?_;intro gb939 hg w4 hbox hb;have BK939:=A_ hbox;have GW939:=gw_ w hg;have GE939:=GW939;replace HB:=b1_ hb;clear hb hbox hg) | ((with_reducible refine gB_ (N:=2) rfl ?_);refine bx_ 2 #[.slice none 0 0,.slice none 0 0] 25 ?_;intro gb940 hg w5 hbox hb;have BK940:=A_ hbox;have GW940:=gw_ w hg;have GE940:=GW940;replace HB:=b1_ hb;have NB939_940:=gN_ BK939 hg;have NB940_939:=gP_ BK939 hg;replace BK939:=bb_ BK939 hb;clear hb hbox hg) | ((with_reducible refine gB_ (N:=3) rfl ?_);refine bx_ 3 #[.slice none 0 0,.slice none 0 0] 25 ?_;intro gb941 hg w6 hbox hb;have BK941:=A_ hbox;have GW941:=gw_ w hg;have GE941:=GW941;replace HB:=b1_ hb;have NB939_941:=gN_ BK939 hg;have NB941_939:=gP_ BK939 hg;replace BK939:=bb_ BK939 hb;have NB940_941:=gN_ BK940 hg;have NB941_940:=gP_ BK940 hg;replace BK940:=bb_ BK940 hb;clear hb hbox hg;have hnb7:=NB939_940.out;have hnc7:=NB940_939.out;have hnb8:=NB939_941.out;have hnc8:=NB941_939.out;obtain ⟨hcz9_0,hcz9_1,hfz9_0,hfz9_1⟩:=c2_ BK939) | ((with_reducible refine gA_ (f:=83) rfl ?_);refine gL_ (some 6) Try.func83 #[.slice A0_0 l0_0.length c0_0] rfl qa_ ?_;(with_reducible refine (Z64.calls k _ _ l0_0 t942 _ (cb_ HR0_0) HC0_0.out A2.out).mono ?_);rintro e w10 ⟨v943,rfl,ho0,hb⟩;refine ⟨_,rfl,?_⟩;have HO944:=rl_ w ho0;replace BK939:=bb_ BK939 hb;replace BK940:=bb_ BK940 hb;replace BK941:=bb_ BK941 hb;replace HB:=b1_ hb;clear hb ho0;obtain ⟨Ao11,co11,eo11⟩:=Kd.R_slice HO944.out;subst eo11;have hnb12:=NB941_940.out;have hnc12:=NB940_941.out;obtain ⟨hcz13_0,hcz13_1,hfz13_0,hfz13_1⟩:=c2_ BK941;obtain ⟨hcz14_0,hcz14_1,hfz14_0,hfz14_1⟩:=c2_ BK939) | ((with_reducible refine gA_ (f:=83) rfl ?_);refine gL_ (some 10) Try.func83 #[.slice A0_1 l0_1.length c0_1] rfl qa_ ?_;(with_reducible refine (Z64.calls k _ _ l0_1 t945 _ (cD_ HR0_1.out hB_) HC0_1.out A3.out).mono ?_);rintro e w15 ⟨v946,rfl,ho0,hb⟩;refine ⟨_,rfl,?_⟩;have HO947:=A_ (rE_ (Kd.R_new' ho0 (Kd.R_lt (rw_ (Kd.R_mono (Kd.R_far (p:=⟨gb941,0,none⟩) (Kd.R_types HO944.out BK941.out (by decide)) (fun _ hk=>hk.2) (.slice Ao11 t942.length co11)) (fun _ h_=>h_.1))))) (bF_ hB_));replace HO944:=A_ (Kd.R_elder' (rw_ (Kd.R_mono (Kd.R_far (p:=⟨gb941,0,none⟩) (Kd.R_types HO944.out BK941.out (by decide)) (fun _ hk=>hk.2) (.slice Ao11 t942.length co11)) (fun _ h_=>h_.1))) (Kd.R_base ho0) hb);replace BK939:=A_ (kE_ (g:=gb939) (o:=.cells #[.slice A0_0 l0_0.length c0_0,.slice A0_1 l0_1.length c0_1] 44 (0,0)) (by (with_reducible repeat (first | refine kA_ ?_ _ | refine kB_ ?_ | refine kC_ ?_ _));refine blk_far ?_ NB939_941.out _;(with_reducible repeat (first | refine kA_ ?_ _ | refine kB_ ?_ | refine kC_ ?_ _));exact BK939.out) hb);replace BK940:=A_ (kE_ (g:=gb940) (o:=.cells #[.slice none 0 0,.slice none 0 0] 25 (0,0)) (by (with_reducible repeat (first | refine kA_ ?_ _ | refine kB_ ?_ | refine kC_ ?_ _));refine blk_far ?_ NB940_941.out _;(with_reducible repeat (first | refine kA_ ?_ _ | refine kB_ ?_ | refine kC_ ?_ _));exact BK940.out) hb);replace BK941:=A_ (kE_ (g:=gb941) (o:=.cells #[.slice Ao11 t942.length co11,.slice none 0 0] 25 (0,0)) (by (with_reducible repeat (first | refine kA_ ?_ _ | refine kB_ ?_ | refine kC_ ?_ _));refine blk_put (cs:=#[.slice none 0 0,.slice none 0 0]) ?_ 0 _ rfl;(with_reducible repeat (first | refine kA_ ?_ _ | refine kB_ ?_ | refine kC_ ?_ _));exact BK941.out) hb);replace HB:=b1_ hb;clear hb ho0;obtain ⟨Ao16,co16,eo16⟩:=Kd.R_slice HO947.out;subst eo16;obtain ⟨hcz17_0,hcz17_1,hfz17_0,hfz17_1⟩:=c2_ BK941;obtain ⟨hcz18_0,hcz18_1,hfz18_0,hfz18_1⟩:=c2_ BK940))
 refine bodyPost_ret (results_cell_row rfl _ _ gb940 25 #[.slice Ao11 t942.length co11,.slice Ao16 t945.length co16] (0,0) _ rfl (by (with_reducible repeat (first | refine kA_ ?_ _ | refine kB_ ?_ | refine kC_ ?_ _));refine blk_put (cs:=#[.slice Ao11 t942.length co11,.slice none 0 0]) ?_ 1 _ rfl;(with_reducible repeat (first | refine kA_ ?_ _ | refine kB_ ?_ | refine kC_ ?_ _));refine blk_put (cs:=#[.slice none 0 0,.slice none 0 0]) ?_ 0 _ rfl;(with_reducible repeat (first | refine kA_ ?_ _ | refine kB_ ?_ | refine kC_ ?_ _));refine blk_far ?_ NB940_941.out _;(with_reducible repeat (first | refine kA_ ?_ _ | refine kB_ ?_ | refine kC_ ?_ _));exact BK940.out) Try.underlying25 rfl (by kernel_rfl)) rfl ?_
 exact ⟨_,_,qb_,(rw_ (Kd.R_mono (Kd.R_far (p:=⟨gb940,1,none⟩) (Kd.R_far (p:=⟨gb940,0,none⟩) (Kd.R_far (p:=⟨gb941,1,none⟩) (Kd.R_types (Kd.R_types HO944.out BK941.out (by decide)) BK940.out (by decide)) (fun _ hk=>hk.1.2) (.slice Ao16 t945.length co16)) (fun _ hk=>hk.2) (.slice Ao11 t942.length co11)) (fun _ hk=>hk.2) (.slice Ao16 t945.length co16)) (fun _ hk=>hk.1.1.2))),(rw_ (Kd.R_mono (Kd.R_far (p:=⟨gb940,1,none⟩) (Kd.R_far (p:=⟨gb940,0,none⟩) (Kd.R_far (p:=⟨gb941,1,none⟩) (Kd.R_types (Kd.R_types HO947.out BK941.out (by decide)) BK940.out (by decide)) (fun _ hk=>hk.1.2) (.slice Ao16 t945.length co16)) (fun _ hk=>hk.2) (.slice Ao11 t942.length co11)) (fun _ hk=>hk.2) (.slice Ao16 t945.length co16)) (fun _ hk=>hk.1.1.2))),hB_⟩
def Z62.l0:Nat→List Int→List Int→Int→Option (Bool)
 | 0,_,_,_=>none
 | k + 1,x0,x1,x5=>if x5 < (x0.length:Int) then (if 0≤x5 then (if x5 < (x1.length:Int) then (if (rd x0 x5) = (rd x1 x5) then (Z62.l0 k x0 x1 (wrap64 (x5 + 1))) else (some false)) else (none)) else (none)) else (some true)
def Z62.f (k:Nat) (l0:List Int) (l1:List Int):Option (Bool):=if (l0.length:Int) = (l1.length:Int) then (Z62.l0 k l0 l1 0) else (some false)
theorem Z62.mono_l:∀ k,(∀ y0 y1 y2,LeO (Z62.l0 k y0 y1 y2) (Z62.l0 (k + 1) y0 y1 y2))
 | 0=>fun _ _ _ r h=>by simp [Z62.l0] at h
 | k + 1=>by
  have ih0:=Z62.mono_l k
  ·intro y0 y1 y2
   unfold Z62.l0
   repeat' first|exact ih0 _ _ _|exact lo_|refine LeO.ite ?_ ?_|refine LeO.bind ?_ (fun _=>?_)
theorem Z62.mono:∀ a0 a1 k,LeO (Z62.f k a0 a1) (Z62.f (k + 1) a0 a1):=by
 intro a0 a1 k
 have ih0:=Z62.mono_l k
 unfold Z62.f
 repeat' first|exact ih0 _ _ _|exact lo_|refine LeO.ite ?_ ?_|refine LeO.bind ?_ (fun _=>?_)
set_option maxHeartbeats 8000000 in
set_option maxRecDepth 100000 in
theorem Z62.calls (k:Nat) (A0:Option Addr) (c0:Nat) (l0:List Int) (A1:Option Addr) (c1:Nat) (l1:List Int) (r:Bool) (w:World) (hr0:Kd.C (Kd.int .i64) w A0 l0.length l0) (hc0:l0.length≤c0) (hr1:Kd.C (Kd.int .i64) w A1 l1.length l1) (hc1:l1.length≤c1) (h:Z62.f k l0 l1 = some r) :
  Calls Try.prog 54 #[.slice A0 l0.length c0,.slice A1 l1.length c1] w fun e w'=>e = .returned (.bool r)∧Drawn0 w w':=by
 have HR0:=A_ hr0
 have HC0:=A_ hc0
 clear hr0 hc0
 have HR1:=A_ hr1
 have HC1:=A_ hc1
 clear hr1 hc1
 have H:=h
 unfold Z62.f at H
 clear h
 by_cases c3:(l0.length:Int) = (l1.length:Int)
 ·rw [if_pos c3] at H
  have c3b0:((l0.length:Int) == (l1.length:Int)) = true:=beq_iff_eq.mpr c3
  have c3b1:((l0.length:Int) != (l1.length:Int)) = false:=bne_eq_false_iff_eq.mpr c3
  have c3b2:(l0.length == l1.length) = true:=by first | simpa using c3 | (simp at c3 ⊢;omega)
  clear c3
  have H':=A_ H
  clear H
  go_enter Try.func54,Try.ntmps54
  go_wp2
  repeat (go_quiet (fail);try go_wp2)
  go_loopg [5] k (fun kq v5 w'=>∃ (x5_1:Int),v5 = .int .i64 x5_1∧Aside0 (Z62.l0 kq l0 l1 x5_1 = some r)∧Aside0 (kq≤k)∧Drawn0 w w')
  case atStart=>exact ⟨(0),qc_,H',⟨nA_ _⟩,by repeat (first | exact Drawn0.refl _ | apply Drawn0.step)⟩
  case round =>
   clear H'
   obtain ⟨x5_1,rfl,HA,HK1,⟨m1,rfl⟩⟩:=hrel
   cases gk with
   | zero=>exact absurd HA.out (by simp [Z62.l0])
   | succ k1 =>
    have H:=HA.out
    clear HA
    simp only [Z62.l0] at H
    by_cases c4:x5_1 < (l0.length:Int)
    ·rw [if_pos c4] at H
     have c4b0:=oC_ c4
     clear c4
     replace H:=cx_ H;obtain ⟨c5b0,H⟩:=H
     replace H:=cx_ H;obtain ⟨c6b0,H⟩:=H
     by_cases c7:(rd l0 x5_1) = (rd l1 x5_1)
     ·rw [if_pos c7] at H
      have c7b0:((rd l0 x5_1) == (rd l1 x5_1)) = true:=beq_iff_eq.mpr c7
      have c7b1:((rd l0 x5_1) != (rd l1 x5_1)) = false:=bne_eq_false_iff_eq.mpr c7
      clear c7
      have H':=A_ H
      clear H
      have p948:0≤(x5_1:Int):=oB_ qe_
      have q948:x5_1 < (l0.length:Int):=oB_ qe_
      obtain ⟨ad948,e948,hx948_0⟩:=Kd.at_int HR0.out x5_1 p948 q948
      cases e948
      replace p948:=eq_true p948
      replace q948:=eq_true q948
      have p949:0≤(x5_1:Int):=oB_ qe_
      have q949:x5_1 < (l1.length:Int):=oB_ qe_
      obtain ⟨ad949,e949,hx949_0⟩:=Kd.at_int HR1.out x5_1 p949 q949
      cases e949
      replace p949:=eq_true p949
      replace q949:=eq_true q949
      go_wp2
      repeat (go_quiet (fail);try go_wp2)
      go_roundg k1
      case measure=>have:=HK1.out;omega
      case rel=>exact ⟨(wrap64 (x5_1 + 1)),qc_,H',⟨by have:=HK1.out;omega⟩,by repeat (first | exact Drawn0.refl _ | apply Drawn0.step)⟩
     ·rw [if_neg c7] at H
      have c7b0:((rd l0 x5_1) == (rd l1 x5_1)) = false:=beq_eq_false_iff_ne.mpr c7
      have c7b1:((rd l0 x5_1) != (rd l1 x5_1)) = true:=bne_iff_ne.mpr c7
      obtain rfl:=Option.some.inj H
      have p948:0≤(x5_1:Int):=oB_ qe_
      have q948:x5_1 < (l0.length:Int):=oB_ qe_
      obtain ⟨ad948,e948,hx948_0⟩:=Kd.at_int HR0.out x5_1 p948 q948
      cases e948
      replace p948:=eq_true p948
      replace q948:=eq_true q948
      have p949:0≤(x5_1:Int):=oB_ qe_
      have q949:x5_1 < (l1.length:Int):=oB_ qe_
      obtain ⟨ad949,e949,hx949_0⟩:=Kd.at_int HR1.out x5_1 p949 q949
      cases e949
      replace p949:=eq_true p949
      replace q949:=eq_true q949
      go_wp2
      repeat (go_quiet (fail);try go_wp2)
      go_ret
      exact ⟨qc_,by repeat (first | exact Drawn0.refl _ | apply Drawn0.step)⟩
    ·rw [if_neg c4] at H
     have c4b0:=oD_ c4
     clear c4
     obtain rfl:=Option.some.inj H
     go_wp2
     repeat (go_quiet (fail);try go_wp2)
     go_ret
     exact ⟨qc_,by repeat (first | exact Drawn0.refl _ | apply Drawn0.step)⟩
 ·rw [if_neg c3] at H
  have c3b0:((l0.length:Int) == (l1.length:Int)) = false:=beq_eq_false_iff_ne.mpr c3
  have c3b1:((l0.length:Int) != (l1.length:Int)) = true:=bne_iff_ne.mpr c3
  have c3b2:(l0.length == l1.length) = false:=by first | simpa using c3 | (simp at c3 ⊢;omega)
  obtain rfl:=Option.some.inj H
  go_enter Try.func54,Try.ntmps54
  go_wp2
  repeat (go_quiet (fail);try go_wp2)
  go_ret
  exact ⟨qc_,by repeat (first | exact Drawn0.refl _ | apply Drawn0.step)⟩
def Z34.f (k:Nat) (l0_0:List Int) (l0_1:List Int) (l1_0:List Int) (l1_1:List Int):Option (Bool):=(Z62.f k l0_0 l1_0).bind fun t952=>(if t952 = true then ((Z62.f k l0_1 l1_1).bind fun t953=>(if t953 = true then (some true) else (some false))) else (some false))
theorem Z34.mono:∀ a0 a1 a2 a3 k,LeO (Z34.f k a0 a1 a2 a3) (Z34.f (k + 1) a0 a1 a2 a3):=by
 intro a0 a1 a2 a3 k
 unfold Z34.f
 repeat' first|exact Z62.mono _ _ _|exact lo_|refine LeO.ite ?_ ?_|refine LeO.bind ?_ (fun _=>?_)
set_option maxHeartbeats 8000000 in
set_option maxRecDepth 100000 in
theorem Z34.calls (k:Nat) (A0_0:Option Addr) (c0_0:Nat) (l0_0:List Int) (A0_1:Option Addr) (c0_1:Nat) (l0_1:List Int) (A1_0:Option Addr) (c1_0:Nat) (l1_0:List Int) (A1_1:Option Addr) (c1_1:Nat) (l1_1:List Int) (r:Bool) (w:World) (hr0_0:Kd.C (Kd.int .i64) w A0_0 l0_0.length l0_0) (hc0_0:l0_0.length≤c0_0) (hr0_1:Kd.C (Kd.int .i64) w A0_1 l0_1.length l0_1) (hc0_1:l0_1.length≤c0_1) (hr1_0:Kd.C (Kd.int .i64) w A1_0 l1_0.length l1_0) (hc1_0:l1_0.length≤c1_0) (hr1_1:Kd.C (Kd.int .i64) w A1_1 l1_1.length l1_1) (hc1_1:l1_1.length≤c1_1) (h:Z34.f k l0_0 l0_1 l1_0 l1_1 = some r) :
  Calls Try.prog 34 #[.agg #[.slice A0_0 l0_0.length c0_0,.slice A0_1 l0_1.length c0_1],.agg #[.slice A1_0 l1_0.length c1_0,.slice A1_1 l1_1.length c1_1]] w fun e w'=>e = .returned (.bool r)∧Below w.heap.size w w':=by
 have hu25:=Try.underlying25
 have HR0_0:=A_ hr0_0
 have HC0_0:=A_ hc0_0
 clear hr0_0 hc0_0
 have HR0_1:=A_ hr0_1
 have HC0_1:=A_ hc0_1
 clear hr0_1 hc0_1
 have HR1_0:=A_ hr1_0
 have HC1_0:=A_ hc1_0
 clear hr1_0 hc1_0
 have HR1_1:=A_ hr1_1
 have HC1_1:=A_ hc1_1
 clear hr1_1 hc1_1
 have HB:=A_ (Below.refl w.heap.size w)
 have H:=h
 unfold Z34.f at H
 clear h
 obtain ⟨t952,A3,H⟩:=bi_ H
 by_cases c4:t952 = true
 ·subst c4
  rw [if_pos rfl] at H
  obtain ⟨t953,A5,H⟩:=bi_ H
  by_cases c6:t953 = true
  ·subst c6
   rw [if_pos rfl] at H
   obtain rfl:=Option.some.inj H
   go_enter Try.func34,Try.ntmps34
   go_wp2_with (first | ((with_reducible refine gB_ (N:=2) rfl ?_);refine bx_ 2 #[.slice A0_0 l0_0.length c0_0,.slice A0_1 l0_1.length c0_1] 25 ?_;intro gb950 hg w7 hbox hb;have BK950:=A_ hbox;have GW950:=gw_ w hg;have GE950:=GW950;replace HB:=b1_ hb;clear hb hbox hg) | ((with_reducible refine gB_ (N:=3) rfl ?_);refine bx_ 3 #[.slice A1_0 l1_0.length c1_0,.slice A1_1 l1_1.length c1_1] 25 ?_;intro gb951 hg w8 hbox hb;have BK951:=A_ hbox;have GW951:=gw_ w hg;have GE951:=GW951;replace HB:=b1_ hb;have NB950_951:=gN_ BK950 hg;have NB951_950:=gP_ BK950 hg;replace BK950:=bb_ BK950 hb;clear hb hbox hg;have hnb9:=NB950_951.out;have hnc9:=NB951_950.out;obtain ⟨hcz10_0,hcz10_1,hfz10_0,hfz10_1⟩:=c2_ BK950;obtain ⟨hcz11_0,hcz11_1,hfz11_0,hfz11_1⟩:=c2_ BK951) | ((with_reducible refine gA_ (f:=54) rfl ?_);refine gL_ (some 9) Try.func54 #[.slice A0_0 l0_0.length c0_0,.slice A1_0 l1_0.length c1_0] rfl qa_ ?_;(with_reducible refine (Z62.calls k _ _ l0_0 _ _ l1_0 true _ (cb_ HR0_0) HC0_0.out (cb_ HR1_0) HC1_0.out A3.out).mono ?_);rintro e w' ⟨rfl,⟨nd,rfl⟩⟩;refine ⟨_,rfl,?_⟩) | ((with_reducible refine gA_ (f:=54) rfl ?_);refine gL_ (some 15) Try.func54 #[.slice A0_1 l0_1.length c0_1,.slice A1_1 l1_1.length c1_1] rfl qa_ ?_;(with_reducible refine (Z62.calls k _ _ l0_1 _ _ l1_1 true _ (cw_ (cD_ HR0_1.out hB_)) HC0_1.out (cw_ (cD_ HR1_1.out hB_)) HC1_1.out A5.out).mono ?_);rintro e w' ⟨rfl,⟨nd,rfl⟩⟩;refine ⟨_,rfl,?_⟩))
   go_ret
   exact ⟨qb_,hB_⟩
  ·replace c6:=Bool.eq_false_iff.mpr c6
   subst c6
   have H1:(some false) = some r:=by rw [if_neg (show ¬ (false = true) by decide)] at H;exact H
   clear H
   have H:=H1
   clear H1
   obtain rfl:=Option.some.inj H
   go_enter Try.func34,Try.ntmps34
   go_wp2_with (first | ((with_reducible refine gB_ (N:=2) rfl ?_);refine bx_ 2 #[.slice A0_0 l0_0.length c0_0,.slice A0_1 l0_1.length c0_1] 25 ?_;intro gb950 hg w12 hbox hb;have BK950:=A_ hbox;have GW950:=gw_ w hg;have GE950:=GW950;replace HB:=b1_ hb;clear hb hbox hg) | ((with_reducible refine gB_ (N:=3) rfl ?_);refine bx_ 3 #[.slice A1_0 l1_0.length c1_0,.slice A1_1 l1_1.length c1_1] 25 ?_;intro gb951 hg w13 hbox hb;have BK951:=A_ hbox;have GW951:=gw_ w hg;have GE951:=GW951;replace HB:=b1_ hb;have NB950_951:=gN_ BK950 hg;have NB951_950:=gP_ BK950 hg;replace BK950:=bb_ BK950 hb;clear hb hbox hg;have hnb14:=NB950_951.out;have hnc14:=NB951_950.out;obtain ⟨hcz15_0,hcz15_1,hfz15_0,hfz15_1⟩:=c2_ BK950;obtain ⟨hcz16_0,hcz16_1,hfz16_0,hfz16_1⟩:=c2_ BK951) | ((with_reducible refine gA_ (f:=54) rfl ?_);refine gL_ (some 9) Try.func54 #[.slice A0_0 l0_0.length c0_0,.slice A1_0 l1_0.length c1_0] rfl qa_ ?_;(with_reducible refine (Z62.calls k _ _ l0_0 _ _ l1_0 true _ (cb_ HR0_0) HC0_0.out (cb_ HR1_0) HC1_0.out A3.out).mono ?_);rintro e w' ⟨rfl,⟨nd,rfl⟩⟩;refine ⟨_,rfl,?_⟩) | ((with_reducible refine gA_ (f:=54) rfl ?_);refine gL_ (some 15) Try.func54 #[.slice A0_1 l0_1.length c0_1,.slice A1_1 l1_1.length c1_1] rfl qa_ ?_;(with_reducible refine (Z62.calls k _ _ l0_1 _ _ l1_1 false _ (cw_ (cD_ HR0_1.out hB_)) HC0_1.out (cw_ (cD_ HR1_1.out hB_)) HC1_1.out A5.out).mono ?_);rintro e w' ⟨rfl,⟨nd,rfl⟩⟩;refine ⟨_,rfl,?_⟩))
   go_ret
   exact ⟨qb_,hB_⟩
 ·replace c4:=Bool.eq_false_iff.mpr c4
  subst c4
  have H1:(some false) = some r:=by rw [if_neg (show ¬ (false = true) by decide)] at H;exact H
  clear H
  have H:=H1
  clear H1
  obtain rfl:=Option.some.inj H
  go_enter Try.func34,Try.ntmps34
  go_wp2_with (first | ((with_reducible refine gB_ (N:=2) rfl ?_);refine bx_ 2 #[.slice A0_0 l0_0.length c0_0,.slice A0_1 l0_1.length c0_1] 25 ?_;intro gb950 hg w17 hbox hb;have BK950:=A_ hbox;have GW950:=gw_ w hg;have GE950:=GW950;replace HB:=b1_ hb;clear hb hbox hg) | ((with_reducible refine gB_ (N:=3) rfl ?_);refine bx_ 3 #[.slice A1_0 l1_0.length c1_0,.slice A1_1 l1_1.length c1_1] 25 ?_;intro gb951 hg w18 hbox hb;have BK951:=A_ hbox;have GW951:=gw_ w hg;have GE951:=GW951;replace HB:=b1_ hb;have NB950_951:=gN_ BK950 hg;have NB951_950:=gP_ BK950 hg;replace BK950:=bb_ BK950 hb;clear hb hbox hg;have hnb19:=NB950_951.out;have hnc19:=NB951_950.out;obtain ⟨hcz20_0,hcz20_1,hfz20_0,hfz20_1⟩:=c2_ BK950;obtain ⟨hcz21_0,hcz21_1,hfz21_0,hfz21_1⟩:=c2_ BK951) | ((with_reducible refine gA_ (f:=54) rfl ?_);refine gL_ (some 9) Try.func54 #[.slice A0_0 l0_0.length c0_0,.slice A1_0 l1_0.length c1_0] rfl qa_ ?_;(with_reducible refine (Z62.calls k _ _ l0_0 _ _ l1_0 false _ (cb_ HR0_0) HC0_0.out (cb_ HR1_0) HC1_0.out A3.out).mono ?_);rintro e w' ⟨rfl,⟨nd,rfl⟩⟩;refine ⟨_,rfl,?_⟩))
  go_ret
  exact ⟨qb_,hB_⟩
def Z47.l0:Nat→List Int→Int→Int→Option (Int × List Int)
 | 0,_,_,_=>none
 | k + 1,x0,x1,x5=>if x5 < (x0.length:Int) then (if 0≤x5 then (Z47.l0 k (x0.set (x5:Int).toNat x1) (wrap64 (x1 + 1)) (wrap64 (x5 + 1))) else (none)) else (some (x1,x0))
def Z47.f (k:Nat) (l0:List Int) (a1:Int):Option (Int × List Int):=Z47.l0 k l0 a1 0
theorem Z47.mono_l:∀ k,(∀ y0 y1 y2,LeO (Z47.l0 k y0 y1 y2) (Z47.l0 (k + 1) y0 y1 y2))
 | 0=>fun _ _ _ r h=>by simp [Z47.l0] at h
 | k + 1=>by
  have ih0:=Z47.mono_l k
  ·intro y0 y1 y2
   unfold Z47.l0
   repeat' first|exact ih0 _ _ _|exact lo_|refine LeO.ite ?_ ?_|refine LeO.bind ?_ (fun _=>?_)
theorem Z47.mono:∀ a0 a1 k,LeO (Z47.f k a0 a1) (Z47.f (k + 1) a0 a1):=by
 intro a0 a1 k
 have ih0:=Z47.mono_l k
 unfold Z47.f
 repeat' first|exact ih0 _ _ _|exact lo_|refine LeO.ite ?_ ?_|refine LeO.bind ?_ (fun _=>?_)
set_option maxHeartbeats 8000000 in
set_option maxRecDepth 100000 in
theorem Z47.calls (k:Nat) (P0_:Nat→Prop) (u9000_:Value) (l0:List Int) (a1:Int) (r1:Int) (r2:List Int) (w0 w:World) (hB:Below w0.heap.size w0 w) (ho0:Kd.R (Kd.int .i64) 3 w w0.heap.size P0_ u9000_ l0) (h:Z47.f k l0 a1 = some (r1,r2)) :
  Calls Try.prog 55 #[u9000_,.int .i64 a1] w fun e w'=>e = .returned (.int .i64 r1)∧Kd.R (Kd.int .i64) 3 w' w0.heap.size (fun k_=>(P0_ k_ ∨ w.heap.size≤k_)) u9000_ r2∧Below w0.heap.size w0 w'∧Kept w w' (fun k_=>P0_ k_):=by
 have HO0:=A_ (show Kd.R (Kd.int .i64) 3 w w0.heap.size (fun k_=>(P0_ k_ ∨ w.heap.size≤k_)) u9000_ l0 from Kd.R_mono ho0 (fun k_ hk=>(.inl hk)))
 have HK:=A_ (Kept.refl w (fun k_=>P0_ k_))
 have HW0:=A_ hB.size
 have HB:=A_ hB
 clear hB
 have H:=h
 unfold Z47.f at H
 clear h
 have H':=A_ H
 clear H
 go_enter Try.func55,Try.ntmps55
 go_wp2
 go_loopg [1,5] k (fun kq v1 v5 w'=>∃ (x0_1:List Int) (x1_1:Int) (x5_1:Int),v1 = .int .i64 x1_1∧v5 = .int .i64 x5_1∧Aside0 (Z47.l0 kq x0_1 x1_1 x5_1 = some (r1,r2))∧Aside0 (kq≤k)∧Aside0 (Kd.R (Kd.int .i64) 3 w' w0.heap.size (fun k_=>(P0_ k_ ∨ w.heap.size≤k_)) u9000_ x0_1)∧Aside0 (Kept w w' (fun k_=>P0_ k_))∧Aside0 (Below w0.heap.size w0 w'))
 case atStart=>exact ⟨(l0),(a1),(0),qc_,qc_,H',⟨nA_ _⟩,⟨(rr_ HO0)⟩,⟨by repeat (first | (with_reducible first | exact HK.out | apply Kept.alloc | apply Kept.drewN | apply Kept.drew) | exact HK.out)⟩,⟨hB_⟩⟩
 case round =>
  clear H'
  obtain ⟨x0_1,x1_1,x5_1,rfl,rfl,HA,HK1,HO_0,HK,HB⟩:=hrel
  cases gk with
  | zero=>exact absurd HA.out (by simp [Z47.l0])
  | succ k1 =>
   have H:=HA.out
   clear HA
   simp only [Z47.l0] at H
   by_cases c3:x5_1 < (x0_1.length:Int)
   ·rw [if_pos c3] at H
    have c3b0:=oC_ c3
    clear c3
    replace H:=cx_ H;obtain ⟨c4b0,H⟩:=H
    obtain ⟨y1128,hy1128⟩:∃ y_:List Int,y_ = (x0_1.set (x5_1:Int).toNat x1_1):=⟨_,rfl⟩
    replace H:(Z47.l0 k1 y1128 (wrap64 (x1_1 + 1)) (wrap64 (x5_1 + 1))) = some (r1,r2):=by first | (rw [hy1128];exact H) | exact H
    have Ny1128:=A_ hy1128
    clear hy1128
    have H':=A_ H
    clear H
    obtain ⟨Ao6,co6,eo6⟩:=Kd.R_slice HO_0.out
    subst eo6
    have p5:0≤(x5_1:Int):=oB_ qe_
    have q5:(x5_1:Int) < ((x0_1.length:Int):Int):=oB_ qe_
    obtain ⟨go5,co5,eo5,gb5,gl5,cl5,HG5⟩:=Kd.R_form HO_0.out (by omega)
    (first | cases eo5 | (injection eo5 with ea_ en_ ec_;(first | subst ea_ | (injection ea_ with ea_;subst ea_));subst ec_;clear en_))
    have GB5:=A_ gb5
    have GG5:=A_ HG5
    clear gb5 gl5 HG5
    have HMgo5:=A_ (show (P0_ go5 ∨ w.heap.size≤go5) from (HO_0.out.1 _ rfl))
    obtain ⟨hx5_0,hf5_0⟩:=Kd.R_celln 0 HO_0.out (x5_1:Int) p5 q5
    replace p5:=eq_true p5
    replace q5:=eq_true q5
    have HP7:=Kd.R_putg HO_0.out (x5_1:Int) x1_1
    go_wp2_with (first | ((with_reducible refine gate_store (t:=3) (p:=15) rfl ?_);refine store_event (t:=3) (p:=15) (v:=?vo_w8) (w1:=(wr.setCell ⟨go5,(x5_1:Int).toNat,none⟩ (.int .i64 x1_1))) ?hg ?ho ?hn ?hr ?_;(case ho=>rfl);(case hg=>rfl);(case hn=>rfl);(case hr=>first | (go_simp;done) | (go_simp;rfl));intro w8 hw;have hg:wr.grownBy w8 (some go5):=(by rw [hw];exact HP7.2);have hp_:Kd.R (Kd.int .i64) 3 w8 w0.heap.size (fun k_=>(P0_ k_ ∨ w.heap.size≤k_)) (.slice (some ⟨go5,0,none⟩) x0_1.length co6) y1128:=(by rw [hw,Ny1128.out];exact HP7.1);clear HP7;replace HB:=A_ ((by rw [hw];exact bD_ (HB.out) GB5.out:Below w0.heap.size w0 w8));replace HK:=A_ (Kept.of_grown (S:=(fun k_=>P0_ k_)) hg (by repeat (first | (with_reducible first | exact HK.out | apply Kept.alloc | apply Kept.drewN | apply Kept.drew) | exact HK.out)) (fun k_ e_=>(HO_0.out.1 k_ e_)));replace HO_0:=A_ (hp_);clear hg hw hp_))
    go_roundg k1
    case measure=>have:=HK1.out;omega
    case rel=>exact ⟨(y1128),(wrap64 (x1_1 + 1)),(wrap64 (x5_1 + 1)),qc_,qc_,H',⟨by have:=HK1.out;omega⟩,⟨(rr_ HO_0)⟩,⟨by repeat (first | (with_reducible first | exact HK.out | apply Kept.alloc | apply Kept.drewN | apply Kept.drew) | exact HK.out)⟩,⟨hB_⟩⟩
   ·rw [if_neg c3] at H
    have c3b0:=oD_ c3
    clear c3
    simp only [Option.some.injEq,Prod.mk.injEq] at H
    obtain ⟨rfl,rfl⟩:=H
    obtain ⟨Ao9,co9,eo9⟩:=Kd.R_slice HO_0.out
    subst eo9
    go_wp2
    go_ret
    exact ⟨qb_,(rr_ HO_0),hB_,by repeat (first | (with_reducible first | exact HK.out | apply Kept.alloc | apply Kept.drewN | apply Kept.drew) | exact HK.out)⟩
def Z22.f (k:Nat) (l0_0:List Int) (l0_1:List Int) (a1:Int):Option (Int × List Int × List Int):=(Z47.f k l0_0 a1).bind fun bt1130=>((Z47.f k l0_1 bt1130.1).bind fun bt1132=>(some (bt1132.1,bt1130.2,bt1132.2)))
theorem Z22.mono:∀ a0 a1 a2 k,LeO (Z22.f k a0 a1 a2) (Z22.f (k + 1) a0 a1 a2):=by
 intro a0 a1 a2 k
 unfold Z22.f
 repeat' first|exact Z47.mono _ _ _|exact lo_|refine LeO.ite ?_ ?_|refine LeO.bind ?_ (fun _=>?_)
set_option maxHeartbeats 8000000 in
set_option maxRecDepth 100000 in
theorem Z22.calls (k:Nat) (P0_0_:Nat→Prop) (u9000_:Value) (l0_0:List Int) (P0_1_:Nat→Prop) (u9001_:Value) (l0_1:List Int) (a1:Int) (r1:Int) (r2:List Int) (r3:List Int) (w0 w:World) (hB:Below w0.heap.size w0 w) (ho0_0:Kd.R (Kd.int .i64) 3 w w0.heap.size P0_0_ u9000_ l0_0) (hp0_0_0_1:∀ k_,P0_0_ k_→¬ P0_1_ k_) (ho0_1:Kd.R (Kd.int .i64) 3 w w0.heap.size P0_1_ u9001_ l0_1) (hp0_1_0_0:∀ k_,P0_1_ k_→¬ P0_0_ k_) (h:Z22.f k l0_0 l0_1 a1 = some (r1,r2,r3)) :
  Calls Try.prog 41 #[.agg #[u9000_,u9001_],.int .i64 a1] w fun e w'=>e = .returned (.int .i64 r1)∧Kd.R (Kd.int .i64) 3 w' w0.heap.size (fun k_=>((P0_0_ k_ ∨ P0_1_ k_) ∨ w.heap.size≤k_)) u9000_ r2∧Kd.R (Kd.int .i64) 3 w' w0.heap.size (fun k_=>((P0_0_ k_ ∨ P0_1_ k_) ∨ w.heap.size≤k_)) u9001_ r3∧Below w0.heap.size w0 w'∧Kept w w' (fun k_=>P0_0_ k_ ∨ P0_1_ k_):=by
 have hu25:=Try.underlying25
 have HO0_0:=A_ (show Kd.R (Kd.int .i64) 3 w w0.heap.size (fun k_=>((P0_0_ k_ ∨ P0_1_ k_) ∨ w.heap.size≤k_)∧some k_≠(u9001_:Value).ownBlock) u9000_ l0_0 from Kd.R_mono ho0_0 (fun k_ hk=>⟨(.inl (.inl hk)),fun e_=>hp0_0_0_1 k_ hk (ho0_1.1 k_ e_.symm)⟩))
 have HO0_1:=A_ (show Kd.R (Kd.int .i64) 3 w w0.heap.size (fun k_=>((P0_0_ k_ ∨ P0_1_ k_) ∨ w.heap.size≤k_)∧some k_≠(u9000_:Value).ownBlock) u9001_ l0_1 from Kd.R_mono ho0_1 (fun k_ hk=>⟨(.inl (.inr hk)),fun e_=>hp0_1_0_0 k_ hk (ho0_0.1 k_ e_.symm)⟩))
 have HK:=A_ (Kept.refl w (fun k_=>P0_0_ k_ ∨ P0_1_ k_))
 have HW0:=A_ hB.size
 have HB:=A_ hB
 clear hB
 have H:=h
 unfold Z22.f at H
 clear h
 obtain ⟨⟨t1130,t1131⟩,A3,H⟩:=bi_ H
 try dsimp only at H
 obtain ⟨⟨t1132,t1133⟩,A4,H⟩:=bi_ H
 try dsimp only at H
 simp only [Option.some.injEq,Prod.mk.injEq] at H
 obtain ⟨rfl,rfl,rfl⟩:=H
 obtain ⟨Ao5,co5,eo5⟩:=Kd.R_slice HO0_0.out
 subst eo5
 obtain ⟨Ao6,co6,eo6⟩:=Kd.R_slice HO0_1.out
 subst eo6
 go_enter Try.func41,Try.ntmps41
 go_wp2_with (first | ((with_reducible refine gB_ (N:=2) rfl ?_);refine bx_ 2 #[.slice Ao5 l0_0.length co5,.slice Ao6 l0_1.length co6] 25 ?_;intro gb1129 hg w7 hbox hb;replace HO0_0:=rb_ HO0_0 hb;replace HO0_1:=rb_ HO0_1 hb;have BK1129:=A_ hbox;have GW1129:=A_ ((gx_ hg (by first | exact HK.out.1 | exact (show Kept w _ (fun k_=>P0_0_ k_ ∨ P0_1_ k_) from by repeat (first | (with_reducible first | exact HK.out | apply Kept.alloc | apply Kept.drewN | apply Kept.drew) | exact HK.out)).1):w.heap.size≤gb1129));replace HK:=A_ (Kept.below (S:=(fun k_=>P0_0_ k_ ∨ P0_1_ k_)) (by repeat (first | (with_reducible first | exact HK.out | apply Kept.alloc | apply Kept.drewN | apply Kept.drew) | exact HK.out)) hb);have GE1129:=A_ ((gx_ hg (bF_ hB_):w0.heap.size≤gb1129));replace HB:=b1_ hb;clear hb hbox hg;obtain ⟨hcz8_0,hcz8_1,hfz8_0,hfz8_1⟩:=c2_ BK1129) | ((with_reducible refine gA_ (f:=55) rfl ?_);refine gL_ (some 8) Try.func55 #[.slice Ao5 l0_0.length co5,.int .i64 a1] rfl qa_ ?_;(with_reducible refine (Z47.calls k (fun k_=>some k_ = (.slice Ao5 l0_0.length co5:Value).ownBlock) (.slice Ao5 l0_0.length co5) l0_0 a1 t1130 t1131 w0 _ ?side1 ?side2 A3.out).mono ?_);(case side1=>repeat (first | (with_reducible first | exact HB.out | apply bA_ | apply bB_ | apply bC_ | refine bD_ ?_ GE1129.out) | exact HB.out));(case side2=>exact Kd.R_tight rfl HO0_0.out);rintro e w9 ⟨rfl,hy0,hb,hkp⟩;refine ⟨_,rfl,?_⟩;replace HO0_1:=A_ (Kd.R_mono (ok':=fun k_=>((P0_0_ k_ ∨ P0_1_ k_) ∨ w.heap.size≤k_)∧some k_≠(.slice Ao5 l0_0.length co5:Value).ownBlock) (Kd.R_keptB (HO0_1.out) hkp (fun k_ hk_ hs_=>(hk_.2) hs_)) (fun k_ hk_=>⟨hk_.1.1,hk_.1.2⟩));replace BK1129:=A_ (blk_kept (kk_ BK1129) hkp (fun hs_=>(fun e_=>(Kd.R_ne HO0_0.out BK1129.out (by decide)) e_) hs_));replace HK:=A_ (Kept.then_ (S:=(fun k_=>P0_0_ k_ ∨ P0_1_ k_)) (by repeat (first | (with_reducible first | exact HK.out | apply Kept.alloc | apply Kept.drewN | apply Kept.drew | refine Kept.setCell ?_ (.inr GW1129.out) _) | exact HK.out)) hkp (fun k_ hs_=>(fun e_=>(HO0_0.out.1 k_ e_.symm).1) hs_));replace HO0_0:=A_ (Kd.R_reok rfl hy0 (fun k_ e_=>HO0_0.out.1 k_ e_));replace HB:=A_ hb;clear hb hkp hy0;obtain ⟨hcz10_0,hcz10_1,hfz10_0,hfz10_1⟩:=c2_ BK1129) | ((with_reducible refine gA_ (f:=55) rfl ?_);refine gL_ (some 12) Try.func55 #[.slice Ao6 l0_1.length co6,.int .i64 t1130] rfl qa_ ?_;(with_reducible refine (Z47.calls k (fun k_=>some k_ = (.slice Ao6 l0_1.length co6:Value).ownBlock) (.slice Ao6 l0_1.length co6) l0_1 t1130 t1132 t1133 w0 _ ?side1 ?side2 A4.out).mono ?_);(case side1=>repeat (first | (with_reducible first | exact HB.out | apply bA_ | apply bB_ | apply bC_ | refine bD_ ?_ GE1129.out) | exact HB.out));(case side2=>exact Kd.R_tight rfl HO0_1.out);rintro e w11 ⟨rfl,hy0,hb,hkp⟩;refine ⟨_,rfl,?_⟩;replace HO0_0:=A_ (Kd.R_mono (ok':=fun k_=>((P0_0_ k_ ∨ P0_1_ k_) ∨ w.heap.size≤k_)∧some k_≠(.slice Ao6 l0_1.length co6:Value).ownBlock) (Kd.R_keptB (HO0_0.out) hkp (fun k_ hk_ hs_=>(hk_.2) hs_)) (fun k_ hk_=>⟨hk_.1.1,hk_.1.2⟩));replace BK1129:=A_ (blk_kept (kk_ BK1129) hkp (fun hs_=>(fun e_=>(Kd.R_ne HO0_1.out BK1129.out (by decide)) e_) hs_));replace HK:=A_ (Kept.then_ (S:=(fun k_=>P0_0_ k_ ∨ P0_1_ k_)) (by repeat (first | (with_reducible first | exact HK.out | apply Kept.alloc | apply Kept.drewN | apply Kept.drew | refine Kept.setCell ?_ (.inr GW1129.out) _) | exact HK.out)) hkp (fun k_ hs_=>(fun e_=>(HO0_1.out.1 k_ e_.symm).1) hs_));replace HO0_1:=A_ (Kd.R_reok rfl hy0 (fun k_ e_=>HO0_1.out.1 k_ e_));replace HB:=A_ hb;clear hb hkp hy0))
 go_ret
 exact ⟨qb_,(rw_ (Kd.R_mono HO0_0.out (fun _ hk=>hk.1))),(rw_ (Kd.R_mono HO0_1.out (fun _ hk=>hk.1))),hB_,by repeat (first | (with_reducible first | exact HK.out | apply Kept.alloc | apply Kept.drewN | apply Kept.drew | refine Kept.setCell ?_ (.inr GW1129.out) _) | exact HK.out)⟩
def Z68.f (a0:Int) (a1:Int) (a2:Int):Option (Bool):=if a0 ≥ a1 then (some (decide (a0≤a2))) else (some false)
set_option maxHeartbeats 8000000 in
set_option maxRecDepth 100000 in
theorem Z68.calls (a0:Int) (a1:Int) (a2:Int) (r:Bool) (w:World) (h:Z68.f a0 a1 a2 = some r) :
  Calls Try.prog 128 #[.int .i64 a0,.int .i64 a1,.int .i64 a2] w fun e w'=>e = .returned (.bool r)∧Drawn0 w w':=by
 have H:=h
 unfold Z68.f at H
 clear h
 by_cases c4:a0 ≥ a1
 ·rw [if_pos c4] at H
  have c4b0:decide (a1≤a0) = true:=oC_ c4
  clear c4
  obtain rfl:=Option.some.inj H
  go_enter Try.func128,Try.ntmps128
  go_wp2
  go_ret
  exact ⟨qc_,by repeat (first | exact Drawn0.refl _ | apply Drawn0.step)⟩
 ·rw [if_neg c4] at H
  have c4b0:decide (a1≤a0) = false:=oD_ c4
  clear c4
  obtain rfl:=Option.some.inj H
  go_enter Try.func128,Try.ntmps128
  go_wp2
  go_ret
  exact ⟨qc_,by repeat (first | exact Drawn0.refl _ | apply Drawn0.step)⟩
def Z67.l0:Nat→Int→List Int→Int→Int→Option (Bool)
 | 0,_,_,_,_=>none
 | k + 1,x1,x7,x8,x9=>if x9 < x8 then (if 0≤x9 then (if x9 < (x7.length:Int) then (if (rd x7 x9) = x1 then (some true) else (Z67.l0 k x1 x7 x8 (wrap64 (x9 + 1)))) else (none)) else (none)) else (some false)
def Z67.f (k:Nat) (l0:List Int) (a1:Int):Option (Bool):=Z67.l0 k a1 l0 (l0.length:Int) 0
theorem Z67.mono_l:∀ k,(∀ y0 y1 y2 y3,LeO (Z67.l0 k y0 y1 y2 y3) (Z67.l0 (k + 1) y0 y1 y2 y3))
 | 0=>fun _ _ _ _ r h=>by simp [Z67.l0] at h
 | k + 1=>by
  have ih0:=Z67.mono_l k
  ·intro y0 y1 y2 y3
   unfold Z67.l0
   repeat' first|exact ih0 _ _ _ _|exact lo_|refine LeO.ite ?_ ?_|refine LeO.bind ?_ (fun _=>?_)
theorem Z67.mono:∀ a0 a1 k,LeO (Z67.f k a0 a1) (Z67.f (k + 1) a0 a1):=by
 intro a0 a1 k
 have ih0:=Z67.mono_l k
 unfold Z67.f
 repeat' first|exact ih0 _ _ _ _|exact lo_|refine LeO.ite ?_ ?_|refine LeO.bind ?_ (fun _=>?_)
set_option maxHeartbeats 8000000 in
set_option maxRecDepth 100000 in
theorem Z67.calls (k:Nat) (A0:Option Addr) (c0:Nat) (l0:List Int) (a1:Int) (r:Bool) (w:World) (hr0:Kd.C (Kd.int .i64) w A0 l0.length l0) (hc0:l0.length≤c0) (h:Z67.f k l0 a1 = some r) :
  Calls Try.prog 163 #[.slice A0 l0.length c0,.int .i64 a1] w fun e w'=>e = .returned (.bool r)∧Drawn0 w w':=by
 have HR0:=A_ hr0
 have HC0:=A_ hc0
 clear hr0 hc0
 have H:=h
 unfold Z67.f at H
 clear h
 have H':=A_ H
 clear H
 go_enter Try.func163,Try.ntmps163
 go_wp2
 go_loopg [9] k (fun kq v9 w'=>∃ (x9_1:Int),v9 = .int .i64 x9_1∧Aside0 (Z67.l0 kq a1 l0 (l0.length:Int) x9_1 = some r)∧Aside0 (kq≤k)∧Drawn0 w w')
 case atStart=>exact ⟨(0),qc_,H',⟨nA_ _⟩,by repeat (first | exact Drawn0.refl _ | apply Drawn0.step)⟩
 case round =>
  clear H'
  obtain ⟨x9_1,rfl,HA,HK1,⟨m1,rfl⟩⟩:=hrel
  cases gk with
  | zero=>exact absurd HA.out (by simp [Z67.l0])
  | succ k1 =>
   have H:=HA.out
   clear HA
   simp only [Z67.l0] at H
   by_cases c3:x9_1 < (l0.length:Int)
   ·rw [if_pos c3] at H
    have c3b0:=oC_ c3
    clear c3
    replace H:=cx_ H;obtain ⟨c4b0,H⟩:=H
    replace H:=cx_ H;obtain ⟨c5b0,H⟩:=H
    by_cases c6:(rd l0 x9_1) = a1
    ·rw [if_pos c6] at H
     have c6b0:((rd l0 x9_1) == a1) = true:=beq_iff_eq.mpr c6
     have c6b1:((rd l0 x9_1) != a1) = false:=bne_eq_false_iff_eq.mpr c6
     clear c6
     obtain rfl:=Option.some.inj H
     have p101:0≤(x9_1:Int):=oB_ qe_
     have q101:x9_1 < (l0.length:Int):=oB_ qe_
     obtain ⟨ad101,e101,hx101_0⟩:=Kd.at_int HR0.out x9_1 p101 q101
     cases e101
     replace p101:=eq_true p101
     replace q101:=eq_true q101
     go_wp2
     go_ret
     exact ⟨qc_,by repeat (first | exact Drawn0.refl _ | apply Drawn0.step)⟩
    ·rw [if_neg c6] at H
     have c6b0:((rd l0 x9_1) == a1) = false:=beq_eq_false_iff_ne.mpr c6
     have c6b1:((rd l0 x9_1) != a1) = true:=bne_iff_ne.mpr c6
     have H':=A_ H
     clear H
     have p101:0≤(x9_1:Int):=oB_ qe_
     have q101:x9_1 < (l0.length:Int):=oB_ qe_
     obtain ⟨ad101,e101,hx101_0⟩:=Kd.at_int HR0.out x9_1 p101 q101
     cases e101
     replace p101:=eq_true p101
     replace q101:=eq_true q101
     go_wp2
     go_roundg k1
     case measure=>have:=HK1.out;omega
     case rel=>exact ⟨(wrap64 (x9_1 + 1)),qc_,H',⟨by have:=HK1.out;omega⟩,by repeat (first | exact Drawn0.refl _ | apply Drawn0.step)⟩
   ·rw [if_neg c3] at H
    have c3b0:=oD_ c3
    clear c3
    obtain rfl:=Option.some.inj H
    go_wp2
    go_ret
    exact ⟨qc_,by repeat (first | exact Drawn0.refl _ | apply Drawn0.step)⟩
def Z65.l0:Nat→List Int→List Int→Int→Int→Option (Bool)
 | 0,_,_,_,_=>none
 | k + 1,x0,x8,x9,x10=>if x10 < x9 then (if 0≤x10 then (if x10 < (x8.length:Int) then ((Z68.f (rd x8 x10) 0 (wrap64 ((x0.length:Int) - 1))).bind fun t103=>(if t103 = true then (if x10≤(x0.length:Int) then ((Z67.f k (x0.take (x10:Int).toNat) (rd x8 x10)).bind fun t105=>(if t105 = true then (some false) else (Z65.l0 k x0 x8 x9 (wrap64 (x10 + 1))))) else (none)) else (some false))) else (none)) else (none)) else (some true)
def Z65.f (k:Nat) (l0:List Int):Option (Bool):=if (l0.length:Int) > 24 then (some false) else (Z65.l0 k l0 l0 (l0.length:Int) 0)
theorem Z65.mono_l:∀ k,(∀ y0 y1 y2 y3,LeO (Z65.l0 k y0 y1 y2 y3) (Z65.l0 (k + 1) y0 y1 y2 y3))
 | 0=>fun _ _ _ _ r h=>by simp [Z65.l0] at h
 | k + 1=>by
  have ih0:=Z65.mono_l k
  ·intro y0 y1 y2 y3
   unfold Z65.l0
   repeat' first
   | (with_reducible exact ih0 _ _ _ _)
   | (with_reducible exact Z67.mono _ _ _)
   | (with_reducible exact LeO.refl _)
   | (with_reducible exact LeO.none _)
   | (with_reducible refine LeO.ite ?_ ?_)
   | (with_reducible refine LeO.bind ?_ (fun _=>?_))
   | exact ih0 _ _ _ _
   | exact Z67.mono _ _ _
   | exact LeO.none _
   | refine LeO.ite ?_ ?_
   | refine LeO.bind ?_ (fun _=>?_)
theorem Z65.mono:∀ a0 k,LeO (Z65.f k a0) (Z65.f (k + 1) a0):=by
 intro a0 k
 have ih0:=Z65.mono_l k
 unfold Z65.f
 repeat' first
   | (with_reducible exact ih0 _ _ _ _)
   | (with_reducible exact Z67.mono _ _ _)
   | (with_reducible exact LeO.refl _)
   | (with_reducible exact LeO.none _)
   | (with_reducible refine LeO.ite ?_ ?_)
   | (with_reducible refine LeO.bind ?_ (fun _=>?_))
   | exact ih0 _ _ _ _
   | exact Z67.mono _ _ _
   | exact LeO.none _
   | refine LeO.ite ?_ ?_
   | refine LeO.bind ?_ (fun _=>?_)
set_option maxHeartbeats 8000000 in
set_option maxRecDepth 100000 in
theorem Z65.calls (k:Nat) (A0:Option Addr) (c0:Nat) (l0:List Int) (r:Bool) (w:World) (hr0:Kd.C (Kd.int .i64) w A0 l0.length l0) (hc0:l0.length≤c0) (h:Z65.f k l0 = some r) :
  Calls Try.prog 146 #[.slice A0 l0.length c0] w fun e w'=>e = .returned (.bool r)∧Drawn0 w w':=by
 have HR0:=A_ hr0
 have HC0:=A_ hc0
 clear hr0 hc0
 have H:(if (l0.length:Int) > 24 then (some false) else (Z65.l0 k l0 l0 (l0.length:Int) 0)) = some r:=h
 clear h
 by_cases c2:(l0.length:Int) > 24
 ·rw [if_pos c2] at H
  have c2b0:decide (24 < (l0.length:Int)) = true:=oC_ c2
  have c2b1:decide (24 < l0.length) = true:=oC_ (by omega)
  clear c2
  obtain rfl:=Option.some.inj H
  go_enter Try.func146,Try.ntmps146
  go_wp2
  go_ret
  exact ⟨by first | rfl | (simp;done) | (simp [*];done),by repeat (first | exact Drawn0.refl _ | apply Drawn0.step)⟩
 ·rw [if_neg c2] at H
  have c2b0:decide (24 < (l0.length:Int)) = false:=oD_ c2
  have c2b1:decide (24 < l0.length) = false:=oD_ (by omega)
  clear c2
  have H':=A_ H
  clear H
  go_enter Try.func146,Try.ntmps146
  go_wp2
  go_loopg [10] k (fun kq v10 w'=>∃ (x10_1:Int),v10 = .int .i64 x10_1∧Aside0 (Z65.l0 kq l0 l0 (l0.length:Int) x10_1 = some r)∧Aside0 (kq≤k)∧Drawn0 w w')
  case atStart=>exact ⟨(0),(by first | rfl | (simp;done) | (simp [*];done)),H',⟨nA_ _⟩,by repeat (first | exact Drawn0.refl _ | apply Drawn0.step)⟩
  case round =>
   clear H'
   (try clear c1);(try clear c2);(try clear c2b0);(try clear c2b1);(try clear p2)
   obtain ⟨x10_1,rfl,HA,HK1,⟨m1,rfl⟩⟩:=hrel
   cases gk with
   | zero=>exact absurd HA.out (by simp [Z65.l0])
   | succ k1 =>
    have H:=HA.out
    clear HA
    simp only [Z65.l0] at H
    by_cases c3:x10_1 < (l0.length:Int)
    ·rw [if_pos c3] at H
     have c3b0:decide (x10_1 < (l0.length:Int)) = true:=oC_ c3
     clear c3
     by_cases c4:0≤x10_1
     ·rw [if_pos c4] at H
      have c4b0:decide (0≤x10_1) = true:=oC_ c4
      clear c4
      by_cases c5:x10_1 < (l0.length:Int)
      ·rw [if_pos c5] at H
       have c5b0:decide (x10_1 < (l0.length:Int)) = true:=oC_ c5
       clear c5
       replace H:=Option.bind_eq_some_iff.mp H
       obtain ⟨t103,A60,H⟩:=H
       replace H:(if t103 = true then (if x10_1≤(l0.length:Int) then ((Z67.f k1 (l0.take (x10_1:Int).toNat) (rd l0 x10_1)).bind fun t105=>(if t105 = true then (some false) else (Z65.l0 k1 l0 l0 (l0.length:Int) (wrap64 (x10_1 + 1))))) else (none)) else (some false)) = some r:=H
       have A6:=A_ A60
       clear A60
       by_cases c7:t103 = true
       ·subst c7
        have H1:(if x10_1≤(l0.length:Int) then ((Z67.f k1 (l0.take (x10_1:Int).toNat) (rd l0 x10_1)).bind fun t105=>(if t105 = true then (some false) else (Z65.l0 k1 l0 l0 (l0.length:Int) (wrap64 (x10_1 + 1))))) else (none)) = some r:=by rw [if_pos rfl] at H;exact H
        clear H
        have H:=H1
        clear H1
        have c8b0:=eq_true (oB_ (by first | (with_reducible assumption) | assumption):0≤x10_1)
        by_cases c9:x10_1≤(l0.length:Int)
        ·rw [if_pos c9] at H
         have c9b0:=eq_true c9
         have c9b1:decide (x10_1≤(l0.length:Int)) = true:=oC_ c9
         clear c9
         replace H:=Option.bind_eq_some_iff.mp H
         obtain ⟨t105,A100,H⟩:=H
         replace H:(if t105 = true then (some false) else (Z65.l0 k1 l0 l0 (l0.length:Int) (wrap64 (x10_1 + 1)))) = some r:=H
         have A10:=A_ A100
         clear A100
         by_cases c11:t105 = true
         ·subst c11
          have H1:(some false) = some r:=by rw [if_pos rfl] at H;exact H
          clear H
          have H:=H1
          clear H1
          obtain rfl:=Option.some.inj H
          have p102:0≤(x10_1:Int):=oB_ (by first | (with_reducible assumption) | assumption)
          have q102:x10_1 < (l0.length:Int):=oB_ (by first | (with_reducible assumption) | assumption)
          obtain ⟨ad102,e102,hx102_0⟩:=Kd.at_int HR0.out x10_1 p102 q102
          cases e102
          replace p102:=eq_true p102
          replace q102:=eq_true q102
          have HL_:=A_ (show (x10_1:Int).toNat = (l0.take (x10_1:Int).toNat).length by rw [lB_];have:=of_eq_true q102;omega)
          go_wp2_with (first | ((with_reducible refine gA_ (f:=128) rfl ?_);refine goesL_ (some 19) rfl rfl Try.func128 (by kernel_rfl) rfl #[.int .i64 (rd l0 x10_1),.int .i64 0,.int .i64 (wrap64 ((l0.length:Int) - 1))] rfl (by (try simp only [mA_,mB_,mC_]);first | done | rfl | (simp only [lA_,lB_];rfl)) ?_;(with_reducible refine (Z68.calls (rd l0 x10_1) 0 (wrap64 ((l0.length:Int) - 1)) true _ A6.out).mono ?_);rintro e w' ⟨rfl,⟨nd,rfl⟩⟩;refine ⟨_,rfl,?_⟩;obtain ⟨i012,hi012,_,hsz12,_⟩:=info_parts info3;obtain ⟨hcut12,hA12,hC12⟩:=print_take_of (P:=Try.prog) (Value.int .i64) 0 23 3 .i64 Try.underlying23 hi012 hsz12 (some ad102) c0 l0 x10_1 (oB_ (by first | (with_reducible assumption) | assumption)) (oB_ (by first | (with_reducible assumption) | assumption)) HC0.out;have HR104:=A_ (Kd.C_of_reads (h1:=fun _=>rfl) (hA12 _ (Kd.reads_of_C HR0.out)));have HC104:=A_ hC12;clear hA12 hC12 hi012 hsz12) | (go_at_call 163;refine calls_of_args (congrArg (fun n_=>#[Value.slice _ n_ _,_]) HL_.out) ?_;(with_reducible refine (Z67.calls k1 _ _ (l0.take (x10_1:Int).toNat) (rd l0 x10_1) true _ ?side1 ?side2 A10.out).mono ?_);(case side1=>repeat (first | exact HR104.out | (with_reducible first | refine cA_ ?_ _ | refine cB_ ?_ _ | refine cC_ ?_)));(case side2=>exact HC104.out);rintro e w' ⟨rfl,⟨nd,rfl⟩⟩))
          go_ret
          exact ⟨by first | rfl | (simp;done) | (simp [*];done),by repeat (first | exact Drawn0.refl _ | apply Drawn0.step)⟩
         ·replace c11:=Bool.eq_false_iff.mpr c11
          subst c11
          have H1:(Z65.l0 k1 l0 l0 (l0.length:Int) (wrap64 (x10_1 + 1))) = some r:=by rw [if_neg (show ¬ (false = true) by decide)] at H;exact H
          clear H
          have H:=H1
          clear H1
          have H':=A_ H
          clear H
          have p102:0≤(x10_1:Int):=oB_ (by first | (with_reducible assumption) | assumption)
          have q102:x10_1 < (l0.length:Int):=oB_ (by first | (with_reducible assumption) | assumption)
          obtain ⟨ad102,e102,hx102_0⟩:=Kd.at_int HR0.out x10_1 p102 q102
          cases e102
          replace p102:=eq_true p102
          replace q102:=eq_true q102
          have HL_:=A_ (show (x10_1:Int).toNat = (l0.take (x10_1:Int).toNat).length by rw [lB_];have:=of_eq_true q102;omega)
          go_wp2_with (first | ((with_reducible refine gA_ (f:=128) rfl ?_);refine goesL_ (some 19) rfl rfl Try.func128 (by kernel_rfl) rfl #[.int .i64 (rd l0 x10_1),.int .i64 0,.int .i64 (wrap64 ((l0.length:Int) - 1))] rfl (by (try simp only [mA_,mB_,mC_]);first | done | rfl | (simp only [lA_,lB_];rfl)) ?_;(with_reducible refine (Z68.calls (rd l0 x10_1) 0 (wrap64 ((l0.length:Int) - 1)) true _ A6.out).mono ?_);rintro e w' ⟨rfl,⟨nd,rfl⟩⟩;refine ⟨_,rfl,?_⟩;obtain ⟨i013,hi013,_,hsz13,_⟩:=info_parts info3;obtain ⟨hcut13,hA13,hC13⟩:=print_take_of (P:=Try.prog) (Value.int .i64) 0 23 3 .i64 Try.underlying23 hi013 hsz13 (some ad102) c0 l0 x10_1 (oB_ (by first | (with_reducible assumption) | assumption)) (oB_ (by first | (with_reducible assumption) | assumption)) HC0.out;have HR104:=A_ (Kd.C_of_reads (h1:=fun _=>rfl) (hA13 _ (Kd.reads_of_C HR0.out)));have HC104:=A_ hC13;clear hA13 hC13 hi013 hsz13) | (go_at_call 163;refine calls_of_args (congrArg (fun n_=>#[Value.slice _ n_ _,_]) HL_.out) ?_;(with_reducible refine (Z67.calls k1 _ _ (l0.take (x10_1:Int).toNat) (rd l0 x10_1) false _ ?side1 ?side2 A10.out).mono ?_);(case side1=>repeat (first | exact HR104.out | (with_reducible first | refine cA_ ?_ _ | refine cB_ ?_ _ | refine cC_ ?_)));(case side2=>exact HC104.out);rintro e w' ⟨rfl,⟨nd,rfl⟩⟩))
          go_roundg k1
          case measure=>have:=HK1.out;omega
          case rel=>exact ⟨(wrap64 (x10_1 + 1)),(by first | rfl | (simp;done) | (simp [*];done)),H',⟨by have:=HK1.out;omega⟩,by repeat (first | exact Drawn0.refl _ | apply Drawn0.step)⟩
        ·rw [if_neg c9] at H
         exact absurd H (by simp)
       ·replace c7:=Bool.eq_false_iff.mpr c7
        subst c7
        have H1:(some false) = some r:=by rw [if_neg (show ¬ (false = true) by decide)] at H;exact H
        clear H
        have H:=H1
        clear H1
        obtain rfl:=Option.some.inj H
        have p102:0≤(x10_1:Int):=oB_ (by first | (with_reducible assumption) | assumption)
        have q102:x10_1 < (l0.length:Int):=oB_ (by first | (with_reducible assumption) | assumption)
        obtain ⟨ad102,e102,hx102_0⟩:=Kd.at_int HR0.out x10_1 p102 q102
        cases e102
        replace p102:=eq_true p102
        replace q102:=eq_true q102
        have HL_:=A_ (show (x10_1:Int).toNat = (l0.take (x10_1:Int).toNat).length by rw [lB_];have:=of_eq_true q102;omega)
        go_wp2_with (first | ((with_reducible refine gA_ (f:=128) rfl ?_);refine goesL_ (some 19) rfl rfl Try.func128 (by kernel_rfl) rfl #[.int .i64 (rd l0 x10_1),.int .i64 0,.int .i64 (wrap64 ((l0.length:Int) - 1))] rfl (by (try simp only [mA_,mB_,mC_]);first | done | rfl | (simp only [lA_,lB_];rfl)) ?_;(with_reducible refine (Z68.calls (rd l0 x10_1) 0 (wrap64 ((l0.length:Int) - 1)) false _ A6.out).mono ?_);rintro e w' ⟨rfl,⟨nd,rfl⟩⟩;refine ⟨_,rfl,?_⟩))
        go_ret
        exact ⟨by first | rfl | (simp;done) | (simp [*];done),by repeat (first | exact Drawn0.refl _ | apply Drawn0.step)⟩
      ·rw [if_neg c5] at H
       exact absurd H (by simp)
     ·rw [if_neg c4] at H
      exact absurd H (by simp)
    ·rw [if_neg c3] at H
     have c3b0:decide (x10_1 < (l0.length:Int)) = false:=oD_ c3
     clear c3
     obtain rfl:=Option.some.inj H
     go_wp2
     go_ret
     exact ⟨by first | rfl | (simp;done) | (simp [*];done),by repeat (first | exact Drawn0.refl _ | apply Drawn0.step)⟩
end Go.Proofs.Ytcggfjpnfodbaaa.A
end
section
namespace Go.Proofs.Ytcggfjpnfodbaaa.A
open Go.RowKit Go.Proofs.YtcggfjpnfodbaaaW.PrintWords Go.Proofs.YtcggfjpnfodbaaaW.PrintLast Go.Proofs.YtcggfjpnfodbaaaW.PrintMore
attribute [local go_sem] max2_int min2_int max_two min_two max_three min_three max_four min_four
set_option linter.unusedVariables false
set_option linter.unusedSimpArgs false
mutual
def Z50.l0:Nat→List Int→List Int→List Int→Int→Option (List Int)
 | 0,_,_,_,_=>none
 | k + 1,x0,x1,x7,x8=>if x8 < (x7.length:Int) then (if 0≤x8 then (if 0≤(rd x7 x8) then (if (rd x7 x8) < (x0.length:Int) then (if (rd x7 x8) < (x1.length:Int) then ((some (([rd x0 (rd x7 x8),rd x1 (rd x7 x8)]:List Int):List Int)).bind fun y113=>(Z50.l1 k x0 x1 x7 x8 y113 (y113.length:Int) 0)) else (none)) else (none)) else (none)) else (none)) else (some x7)
def Z50.l1:Nat→List Int→List Int→List Int→Int→List Int→Int→Int→Option (List Int)
 | 0,_,_,_,_,_,_,_=>none
 | k + 1,x0,x1,x7,x8,x33,x34,x35=>if x35 < x34 then (if 0≤x35 then (if x35 < (x33.length:Int) then ((Z67.f k x7 (rd x33 x35)).bind fun t117=>(if t117 = true then (Z50.l1 k x0 x1 x7 x8 x33 x34 (wrap64 (x35 + 1))) else (if x7.length < 17592186044416 then (Z50.l1 k x0 x1 (x7 ++ [rd x33 x35]) x8 x33 x34 (wrap64 (x35 + 1))) else (none)))) else (none)) else (none)) else (Z50.l0 k x0 x1 x7 (wrap64 (x8 + 1)))
end
def Z50.f (k:Nat) (l0:List Int) (l1:List Int) (a2:Int):Option (List Int):=Z50.l0 k l0 l1 (([a2]:List Int)) 0
theorem Z50.mono_l:∀ k,(∀ y0 y1 y2 y3,LeO (Z50.l0 k y0 y1 y2 y3) (Z50.l0 (k + 1) y0 y1 y2 y3))∧(∀ y0 y1 y2 y3 y4 y5 y6,LeO (Z50.l1 k y0 y1 y2 y3 y4 y5 y6) (Z50.l1 (k + 1) y0 y1 y2 y3 y4 y5 y6))
 | 0=>⟨fun _ _ _ _ r h=>by simp [Z50.l0] at h,fun _ _ _ _ _ _ _ r h=>by simp [Z50.l1] at h⟩
 | k + 1=>by
  obtain ⟨ih0,ih1⟩:=Z50.mono_l k
  refine ⟨?_,?_⟩
  ·intro y0 y1 y2 y3
   unfold Z50.l0
   repeat' first|exact ih0 _ _ _ _|exact ih1 _ _ _ _ _ _ _|exact Z67.mono _ _ _|exact lo_|refine LeO.ite ?_ ?_|refine LeO.bind ?_ (fun _=>?_)
  ·intro y0 y1 y2 y3 y4 y5 y6
   unfold Z50.l1
   repeat' first|exact ih0 _ _ _ _|exact ih1 _ _ _ _ _ _ _|exact Z67.mono _ _ _|exact lo_|refine LeO.ite ?_ ?_|refine LeO.bind ?_ (fun _=>?_)
theorem Z50.mono:∀ a0 a1 a2 k,LeO (Z50.f k a0 a1 a2) (Z50.f (k + 1) a0 a1 a2):=by
 intro a0 a1 a2 k
 obtain ⟨ih0,ih1⟩:=Z50.mono_l k
 unfold Z50.f
 repeat' first|exact ih0 _ _ _ _|exact ih1 _ _ _ _ _ _ _|exact Z67.mono _ _ _|exact lo_|refine LeO.ite ?_ ?_|refine LeO.bind ?_ (fun _=>?_)
def Z50.T5:Bool × List (List Nat × List Nat):=(true,[([],[]),([],[]),([],[]),([1,2],[1,2]),([3],[3]),([0,4],[0,4]),([5],[5]),([],[]),([],[]),([],[]),([8,9],[8,9]),([10],[10]),([7,11],[7,11]),([12],[12]),([6,13],[6,13]),([14],[14]),([],[])])
def Z50.B5:List Nat:=[0,0,0,6,14,31,63,0,0,0,768,1792,3968,8064,16383,32767,0]
theorem Z50.tab5:rtab .any (opsOf Try.f147 5) = Z50.T5:=by kernel_rfl
theorem Z50.bits5:waitsOk Z50.T5.2 Z50.B5 = true:=by kernel_rfl
set_option maxHeartbeats 8000000 in
set_option maxRecDepth 100000 in
theorem Z50.calls (k:Nat) (A0:Option Addr) (c0:Nat) (l0:List Int) (A1:Option Addr) (c1:Nat) (l1:List Int) (a2:Int) (r:List Int) (w:World) (hr0:Kd.C (Kd.int .i64) w A0 l0.length l0) (hc0:l0.length≤c0) (hr1:Kd.C (Kd.int .i64) w A1 l1.length l1) (hc1:l1.length≤c1) (h:Z50.f k l0 l1 a2 = some r) :
  Calls Try.prog 147 #[.slice A0 l0.length c0,.slice A1 l1.length c1,.int .i64 a2] w fun e w'=>∃ v0_:Value,e = .returned (v0_)∧Kd.R (Kd.int .i64) 3 w' w.heap.size (fun _=>True) v0_ r∧Below w.heap.size w w':=by
 have HR0:=A_ hr0
 have HC0:=A_ hc0
 clear hr0 hc0
 have HR1:=A_ hr1
 have HC1:=A_ hc1
 clear hr1 hc1
 have HB:=A_ (Below.refl w.heap.size w)
 have H:=h
 unfold Z50.f at H
 clear h
 obtain ⟨y106,hy106⟩:∃ y_:List Int,y_ = (([a2]:List Int)):=⟨_,rfl⟩
 replace H:(Z50.l0 k l0 l1 y106 0) = some r:=by first | (rw [hy106];exact H) | exact H
 have Ny106:=A_ hy106
 clear hy106
 have H':=A_ H
 clear H
 go_enter Try.func147,Try.ntmps147
 go_wp2_with (first | ((with_reducible refine gB_ (N:=12) rfl ?_);refine Kd.R_lit (Kd.int .i64) _ 3 ?hg (N:=12) ?hd (xs:=([a2]:List Int)) (inner:=[.int .i64 a2]) (ok:=fun _=>True) (okp:=fun _=>True) ?hr ?hp (fun _ hk=>hk) trivial (Below.refl _ _) (nA_ _) (by simp) ?_;(case hd=>rfl);(case hg=>rfl);(case hr=>first | (go_simp;done) | (go_simp;rfl));(case hp=>exact (Reps.one (show Kd.M (Kd.int .i64) _ _ _ a2 [.int .i64 a2] from rfl) (Reps.none _ _)));intro v107 w4 ho5 hb hg_ hnew_;clear hg_ hnew_;(first | rw [← Ny106.out] at ho5 | (simp only [Int.reduceToNat] at ho5;rw [← Ny106.out] at ho5));have HO108:=rl_ w ho5;replace HB:=b1_ hb;clear hb ho5))
 go_loopg [7,8] k (fun kq v7 v8 w'=>∃ (x7_1:List Int) (x8_1:Int),v8 = .int .i64 x8_1∧Aside0 (Z50.l0 kq l0 l1 x7_1 x8_1 = some r)∧Aside0 (kq≤k)∧Aside0 (Kd.R (Kd.int .i64) 3 w' w.heap.size (fun _=>True) v7 x7_1)∧Aside0 (Below w.heap.size w w'))
 case atStart=>exact ⟨(y106),(0),qc_,H',⟨nA_ _⟩,⟨(rr_ HO108)⟩,⟨hB_⟩⟩
 case round =>
  clear H'
  obtain ⟨x7_1,x8_1,rfl,HA,HK1,HO_7,HB⟩:=hrel
  cases gk with
  | zero=>exact absurd HA.out (by simp [Z50.l0])
  | succ k1 =>
   have H:=HA.out
   clear HA
   simp only [Z50.l0] at H
   by_cases c6:x8_1 < (x7_1.length:Int)
   ·rw [if_pos c6] at H
    have c6b0:=oC_ c6
    clear c6
    replace H:=cx_ H;obtain ⟨c7b0,H⟩:=H
    replace H:=cx_ H;obtain ⟨c8b0,H⟩:=H
    replace H:=cx_ H;obtain ⟨c9b0,H⟩:=H
    replace H:=cx_ H;obtain ⟨c10b0,H⟩:=H
    obtain ⟨y113,hy113⟩:∃ y_:List Int,y_ = (([rd l0 (rd x7_1 x8_1),rd l1 (rd x7_1 x8_1)]:List Int)):=⟨_,rfl⟩
    replace H:(Z50.l1 k1 l0 l1 x7_1 x8_1 y113 (y113.length:Int) 0) = some r:=by first | (rw [hy113];exact H) | exact H
    have Ny113:=A_ hy113
    clear hy113
    have H':=A_ H
    clear H
    obtain ⟨Ao11,co11,eo11⟩:=Kd.R_slice HO_7.out
    subst eo11
    try go_wp2
    replace HO_7:=A_ (rC_ HO_7.out)
    replace HB:=A_ (bC_ HB.out)
    have p109:0≤(x8_1:Int):=oB_ qe_
    have q109:x8_1 < (x7_1.length:Int):=oB_ qe_
    obtain ⟨ad109,e109,hx109_0⟩:=Kd.at_int (Kd.R_reads' HO_7.out).2.2 x8_1 p109 q109
    cases e109
    replace p109:=eq_true p109
    replace q109:=eq_true q109
    have p110:0≤((rd x7_1 x8_1):Int):=oB_ qe_
    have q110:(rd x7_1 x8_1) < (l0.length:Int):=oB_ qe_
    obtain ⟨ad110,e110,hx110_0⟩:=Kd.at_int HR0.out (rd x7_1 x8_1) p110 q110
    have hw110_0:=hx110_0
    cases e110
    replace hx110_0:=(HB.out.cell (World.block_lt_of_cell? w _ hx110_0)).trans hx110_0
    replace p110:=eq_true p110
    replace q110:=eq_true q110
    have p111:0≤(x8_1:Int):=oB_ qe_
    have q111:x8_1 < (x7_1.length:Int):=oB_ qe_
    obtain ⟨ad111,e111,hx111_0⟩:=Kd.at_int (Kd.R_reads' HO_7.out).2.2 x8_1 p111 q111
    obtain rfl:ad109 = ad111:=(by injection e111)
    replace p111:=eq_true p111
    replace q111:=eq_true q111
    have p112:0≤((rd x7_1 x8_1):Int):=oB_ qe_
    have q112:(rd x7_1 x8_1) < (l1.length:Int):=oB_ qe_
    obtain ⟨ad112,e112,hx112_0⟩:=Kd.at_int HR1.out (rd x7_1 x8_1) p112 q112
    have hw112_0:=hx112_0
    cases e112
    replace hx112_0:=(HB.out.cell (World.block_lt_of_cell? w _ hx112_0)).trans hx112_0
    replace p112:=eq_true p112
    replace q112:=eq_true q112
    refine start_ (n:=17) (S:=fun w'=>w'.cell? (ad109.add (x8_1).toNat) = some (.int .i64 (rd x7_1 x8_1))∧w'.cell? (ad110.add ((rd x7_1 x8_1)).toNat) = some (.int .i64 (rd l0 (rd x7_1 x8_1)))∧w'.cell? (ad109.add (x8_1).toNat) = some (.int .i64 (rd x7_1 x8_1))∧w'.cell? (ad112.add ((rd x7_1 x8_1)).toNat) = some (.int .i64 (rd l1 (rd x7_1 x8_1)))) (ds:=[]) (bl_ 17 0) (by kernel_rfl) rfl (by kernel_rfl) ⟨hx109_0,((HB.out.cell (World.block_lt_of_cell? w _ hw110_0)).trans hw110_0),hx111_0,((HB.out.cell (World.block_lt_of_cell? w _ hw112_0)).trans hw112_0)⟩ (fun hHeld=>?_);refine with_tabW Z50.tab5 Z50.bits5 (fun HT_ HW_=>?_)
    generalize wr.drew = w12 at HO_7 HB hx109_0 hx110_0 hx111_0 hx112_0 hHeld ⊢
    refine pu_ 0 (some 19) (bl_ 17 1) HT_ ?_
    refine pu_ 1 (some 20) (bl_ 17 3) HT_ ?_
    refine pu_ 2 (some 21) (bl_ 17 7) HT_ ?_
    refine pu_ 3 (some 22) (bl_ 17 15) HT_ ?_
    refine pu_ 7 (some 26) (bl_ 17 143) HT_ ?_
    refine pu_ 8 (some 27) (bl_ 17 399) HT_ ?_
    refine pu_ 9 (some 28) (bl_ 17 911) HT_ ?_
    refine pu_ 10 (some 29) (bl_ 17 1935) HT_ ?_
    refine pu_ 16 (some 35) (bl_ 17 67471) HT_ ?_
    refine ta_ 4 (some 23) (bl_ 17 67487) HT_ HW_ hHeld ?_
    refine pu_ 5 (some 24) (bl_ 17 67519) HT_ ?_
    refine ta_ 6 (some 25) (bl_ 17 67583) HT_ HW_ hHeld ?_
    refine ta_ 11 (some 30) (bl_ 17 69631) HT_ HW_ hHeld ?_
    refine pu_ 12 (some 31) (bl_ 17 73727) HT_ ?_
    refine ta_ 13 (some 32) (bl_ 17 81919) HT_ HW_ hHeld ?_
    refine on_ 14 (some 33) (bl_ 17 98303) HT_ (fun K hK=>?_)
    refine Kd.R_lit_step (Kd.int .i64) _ 3 ?hg (N:=33) ?hd (xs:=([rd l0 (rd x7_1 x8_1),rd l1 (rd x7_1 x8_1)]:List Int)) (inner:=[.int .i64 (rd l0 (rd x7_1 x8_1)),.int .i64 (rd l1 (rd x7_1 x8_1))]) (ok:=fun _=>True) (okp:=fun _=>True) ?hr ?hp (fun _ hk=>hk) trivial (Below.refl _ _) (nA_ _) (by simp) ?_;(case hd=>rfl);(case hg=>rfl);(case hr=>first | (go_simp;done) | (go_simp;rfl));(case hp=>exact (Reps.one (show Kd.M (Kd.int .i64) _ _ _ (rd l0 (rd x7_1 x8_1)) [.int .i64 (rd l0 (rd x7_1 x8_1))] from rfl) (Reps.one (show Kd.M (Kd.int .i64) _ _ _ (rd l1 (rd x7_1 x8_1)) [.int .i64 (rd l1 (rd x7_1 x8_1))] from rfl) (Reps.none _ _))))
    intro v114 w13 ho14 hb hg_ hnew_
    have HS0_:=(hb.cell (World.block_lt_of_cell? _ _ (hHeld.1))).trans (hHeld.1)
    have HS2_:=(hb.cell (World.block_lt_of_cell? _ _ (hHeld.2.2.1))).trans (hHeld.2.2.1)
    clear hg_ hnew_
    (first | rw [← Ny113.out] at ho14 | (simp only [Int.reduceToNat] at ho14;rw [← Ny113.out] at ho14))
    have HO115:=A_ (rE_ (Kd.R_new' ho14 (Kd.R_lt (rr_ HO_7))) (bF_ hB_))
    replace HO_7:=A_ (Kd.R_elder' (rr_ HO_7) (Kd.R_base ho14) hb)
    replace HB:=b1_ hb
    clear hb ho14
    obtain ⟨Ao15,co15,eo15⟩:=Kd.R_slice HO115.out
    (first|subst eo15|(injection eo15 with a_ b_ c_;have a_:=a_.symm;have c_:=c_.symm;clear b_;subst a_;subst c_))
    refine hK.out _ _ ⟨HS0_,((HB.out.cell (World.block_lt_of_cell? w _ hw110_0)).trans hw110_0),HS2_,((HB.out.cell (World.block_lt_of_cell? w _ hw112_0)).trans hw112_0)⟩ (fun hHeld=>?_)
    clear hK K
    refine no_ (some 33) ?_
    refine pu_ 15 (some 34) (bl_ 17 131071) HT_ ?_
    refine done_ (done_of HT_.out (by kernel_rfl)) ?_
    try go_wp2
    go_loopg [7,35] k1 (fun kq v7 v35 w'=>∃ (x7_2:List Int) (x35_2:Int),v35 = .int .i64 x35_2∧Aside0 (Z50.l1 kq l0 l1 x7_2 x8_1 y113 (y113.length:Int) x35_2 = some r)∧Aside0 (kq≤k1)∧Aside0 (Kd.R (Kd.int .i64) 3 w' w.heap.size (fun k_=>some k_≠((.slice Ao15 y113.length co15):Value).ownBlock) v7 x7_2)∧Aside0 (Kd.R (Kd.int .i64) 3 w' w.heap.size (fun k_=>some k_≠(v7:Value).ownBlock) (.slice Ao15 y113.length co15) y113)∧Aside0 (Below w.heap.size w w'))
    case atStart=>exact ⟨(x7_1),(0),qc_,H',⟨nA_ _⟩,⟨(rw_ (Kd.R_mono HO_7.out (fun _ hk=>hk.2)))⟩,⟨(rw_ (Kd.R_mono HO115.out (fun _ hk=>hk.2)))⟩,⟨hB_⟩⟩
    case round =>
     clear H'
     obtain ⟨x7_2,x35_2,rfl,HA,HK2,HO_7,HO_33,HB⟩:=hrel
     cases gk with
     | zero=>exact absurd HA.out (by simp [Z50.l1])
     | succ k2 =>
      have H:=HA.out
      clear HA
      simp only [Z50.l1] at H
      by_cases c16:x35_2 < (y113.length:Int)
      ·rw [if_pos c16] at H
       have c16b0:=oC_ c16
       clear c16
       replace H:=cx_ H;obtain ⟨c17b0,H⟩:=H
       replace H:=cx_ H;obtain ⟨c18b0,H⟩:=H
       obtain ⟨t117,A19,H⟩:=bi_ H
       by_cases c20:t117 = true
       ·subst c20
        rw [if_pos rfl] at H
        have H':=A_ H
        clear H
        have p116:0≤(x35_2:Int):=oB_ qe_
        have q116:x35_2 < (y113.length:Int):=oB_ qe_
        obtain ⟨ad116,e116,hx116_0⟩:=Kd.at_int (Kd.R_reads' HO_33.out).2.2 x35_2 p116 q116
        cases e116
        replace p116:=eq_true p116
        replace q116:=eq_true q116
        obtain ⟨Ao21,co21,eo21⟩:=Kd.R_slice HO_7.out
        subst eo21
        go_wp2_with (first | ((with_reducible refine gA_ (f:=163) rfl ?_);refine gL_ (some 41) Try.func163 #[.slice Ao21 x7_2.length co21,.int .i64 (rd y113 x35_2)] rfl qa_ ?_;(with_reducible refine (Z67.calls k2 _ _ x7_2 (rd y113 x35_2) true _ (cr_ HO_7) ((Kd.R_reads' HO_7.out).2.1) A19.out).mono ?_);rintro e w' ⟨rfl,⟨nd,rfl⟩⟩;refine ⟨_,rfl,?_⟩))
        go_roundg k2
        case measure=>have:=HK1.out;have:=HK2.out;omega
        case rel=>exact ⟨(x7_2),(wrap64 (x35_2 + 1)),qc_,H',⟨by have:=HK1.out;have:=HK2.out;omega⟩,⟨(rr_ HO_7)⟩,⟨(rr_ HO_33)⟩,⟨hB_⟩⟩
       ·replace c20:=Bool.eq_false_iff.mpr c20
        subst c20
        have H1:(if x7_2.length < 17592186044416 then (Z50.l1 k2 l0 l1 (x7_2 ++ [rd y113 x35_2]) x8_1 y113 (y113.length:Int) (wrap64 (x35_2 + 1))) else (none)) = some r:=by rw [if_neg (show ¬ (false = true) by decide)] at H;exact H
        clear H
        have H:=H1
        clear H1
        have c22:=cp_ H
        replace H:=ca_ H
        have LMc22:=A_ c22
        clear c22
        obtain ⟨y118,hy118⟩:∃ y_:List Int,y_ = (x7_2 ++ [rd y113 x35_2]):=⟨_,rfl⟩
        replace H:(Z50.l1 k2 l0 l1 y118 x8_1 y113 (y113.length:Int) (wrap64 (x35_2 + 1))) = some r:=by first | (rw [hy118];exact H) | exact H
        have Ny118:=A_ hy118
        clear hy118
        have H':=A_ H
        clear H
        have p116:0≤(x35_2:Int):=oB_ qe_
        have q116:x35_2 < (y113.length:Int):=oB_ qe_
        obtain ⟨ad116,e116,hx116_0⟩:=Kd.at_int (Kd.R_reads' HO_33.out).2.2 x35_2 p116 q116
        cases e116
        replace p116:=eq_true p116
        replace q116:=eq_true q116
        obtain ⟨Ao23,co23,eo23⟩:=Kd.R_slice HO_7.out
        subst eo23
        go_wp2_with (first | ((with_reducible refine gA_ (f:=163) rfl ?_);refine gL_ (some 41) Try.func163 #[.slice Ao23 x7_2.length co23,.int .i64 (rd y113 x35_2)] rfl qa_ ?_;(with_reducible refine (Z67.calls k2 _ _ x7_2 (rd y113 x35_2) false _ (cr_ HO_7) ((Kd.R_reads' HO_7.out).2.1) A19.out).mono ?_);rintro e w' ⟨rfl,⟨nd,rfl⟩⟩;refine ⟨_,rfl,?_⟩) | ((with_reducible refine gate_builtin (b:=.append) (xs:=#[.tmp 43,.tmp 45]) rfl ?_);at_builtin;refine Kd.R_append (Kd.int .i64) (w0:=w) w.heap.size rfl (.tmp 43) (.tmp 45) 23 3 (.int .i64 0) 8 rfl Try.underlying23 info3 rfl (by decide) (by omega) (.slice Ao23 x7_2.length co23) x7_2 (rd y113 x35_2) [.int .i64 (rd y113 x35_2)] (fun k_=>some k_≠(.slice (some ad116) y113.length co15:Value).ownBlock) (fun _=>False) rfl rfl ?aP (fun _ hk=>hk.elim) ?aF ?aO ?aB ?aS ?aL ?_;(case aP=>exact rfl);(case aB=>exact hB_);(case aF=>exact (fun k_ hk=>Kd.fresh' (Kd.R_lt (rr_ HO_33)) k_ hk));(case aO=>exact (rr_ HO_7));(case aS=>exact (bF_ hB_));(case aL=>have:=LMc22.out;omega);intro v119 w24 ho hb hg hat;rw [← Ny118.out] at ho;replace HO_33:=A_ (Kd.R_after (ok:=(fun _=>True)) (rw_ (Kd.R_mono HO_33.out (fun _ hk=>⟨trivial,hk⟩))) hg hat);replace HB:=A_ hb;have HO120:=A_ ho;clear HO_7;clear ho hb hg hat))
        go_roundg k2
        case measure=>have:=HK1.out;have:=HK2.out;omega
        case rel=>exact ⟨(y118),(wrap64 (x35_2 + 1)),qc_,H',⟨by have:=HK1.out;have:=HK2.out;omega⟩,⟨(rr_ HO120)⟩,⟨(rw_ (Kd.R_mono HO_33.out (fun _ hk=>hk.2)))⟩,⟨hB_⟩⟩
      ·rw [if_neg c16] at H
       have c16b0:=oD_ c16
       clear c16
       have H':=A_ H
       clear H
       go_wp2
       go_roundg k2
       case measure=>have:=HK1.out;have:=HK2.out;omega
       case rel=>exact ⟨(x7_2),(wrap64 (x8_1 + 1)),qc_,H',⟨by have:=HK1.out;have:=HK2.out;omega⟩,⟨(rw_ (Kd.R_mono HO_7.out (fun _ hk=>trivial)))⟩,⟨hB_⟩⟩
   ·rw [if_neg c6] at H
    have c6b0:=oD_ c6
    clear c6
    obtain rfl:=Option.some.inj H
    obtain ⟨Ao25,co25,eo25⟩:=Kd.R_slice HO_7.out
    subst eo25
    go_wp2
    go_ret
    exact ⟨_,qb_,(rr_ HO_7),hB_⟩
end Go.Proofs.Ytcggfjpnfodbaaa.A
end
section
namespace Go.Proofs.Ytcggfjpnfodbaaa.A
open Go.RowKit Go.Proofs.YtcggfjpnfodbaaaW.PrintWords Go.Proofs.YtcggfjpnfodbaaaW.PrintLast Go.Proofs.YtcggfjpnfodbaaaW.PrintMore
attribute [local go_sem] max2_int min2_int max_two min_two max_three min_three max_four min_four
set_option linter.unusedVariables false
set_option linter.unusedSimpArgs false
def Z14.f (k:Nat) (l0:List Int) (l1:List Int):Option (Bool):=(Z65.f k l0).bind fun t121=>(if t121 = true then ((Z65.f k l1).bind fun t122=>(if t122 = true then (if (l0.length:Int) = (l1.length:Int) then (if (l0.length:Int) > 0 then ((Z50.f k l0 l1 0).bind fun t123=>(some ((t123.length:Int) == (l0.length:Int)))) else (some false)) else (some false)) else (some false))) else (some false))
theorem Z14.mono:∀ a0 a1 k,LeO (Z14.f k a0 a1) (Z14.f (k + 1) a0 a1):=by
 intro a0 a1 k
 unfold Z14.f
 repeat' first|exact Z65.mono _ _|exact Z50.mono _ _ _ _|exact lo_|refine LeO.ite ?_ ?_|refine LeO.bind ?_ (fun _=>?_)
set_option maxHeartbeats 8000000 in
set_option maxRecDepth 100000 in
theorem Z14.calls (k:Nat) (A0:Option Addr) (c0:Nat) (l0:List Int) (A1:Option Addr) (c1:Nat) (l1:List Int) (r:Bool) (w:World) (hr0:Kd.C (Kd.int .i64) w A0 l0.length l0) (hc0:l0.length≤c0) (hr1:Kd.C (Kd.int .i64) w A1 l1.length l1) (hc1:l1.length≤c1) (h:Z14.f k l0 l1 = some r) :
  Calls Try.prog 117 #[.slice A0 l0.length c0,.slice A1 l1.length c1] w fun e w'=>e = .returned (.bool r)∧Below w.heap.size w w':=by
 have HR0:=A_ hr0
 have HC0:=A_ hc0
 clear hr0 hc0
 have HR1:=A_ hr1
 have HC1:=A_ hc1
 clear hr1 hc1
 have HB:=A_ (Below.refl w.heap.size w)
 have H:=h
 unfold Z14.f at H
 clear h
 obtain ⟨t121,A3,H⟩:=bi_ H
 by_cases c4:t121 = true
 ·subst c4
  rw [if_pos rfl] at H
  obtain ⟨t122,A5,H⟩:=bi_ H
  by_cases c6:t122 = true
  ·subst c6
   rw [if_pos rfl] at H
   by_cases c7:(l0.length:Int) = (l1.length:Int)
   ·rw [if_pos c7] at H
    have c7b0:((l0.length:Int) == (l1.length:Int)) = true:=beq_iff_eq.mpr c7
    have c7b1:((l0.length:Int) != (l1.length:Int)) = false:=bne_eq_false_iff_eq.mpr c7
    have c7b2:(l0.length == l1.length) = true:=by first | simpa using c7 | (simp at c7 ⊢;omega)
    clear c7
    by_cases c8:(l0.length:Int) > 0
    ·rw [if_pos c8] at H
     have c8b0:decide (0 < (l0.length:Int)) = true:=oC_ c8
     have c8b1:decide (0 < l0.length) = true:=oC_ (by omega)
     clear c8
     obtain ⟨t123,A9,H⟩:=bi_ H
     obtain rfl:=Option.some.inj H
     go_enter Try.func117,Try.ntmps117
     go_wp2_with (first | ((with_reducible refine gA_ (f:=146) rfl ?_);refine gL_ (some 6) Try.func146 #[.slice A0 l0.length c0] rfl qa_ ?_;(with_reducible refine (Z65.calls k _ _ l0 true _ (cc_ HR0) HC0.out A3.out).mono ?_);rintro e w' ⟨rfl,⟨nd,rfl⟩⟩;refine ⟨_,rfl,?_⟩) | (go_at_call 146;(with_reducible refine (Z65.calls k _ _ l1 true _ (cc_ HR1) HC1.out A5.out).mono ?_);rintro e w' ⟨rfl,⟨nd,rfl⟩⟩) | (go_at_call 147;(with_reducible refine (Z50.calls k _ _ l0 _ _ l1 0 t123 _ (cc_ HR0) HC0.out (cc_ HR1) HC1.out A9.out).mono ?_);rintro e w10 ⟨v124,rfl,ho0,hb⟩;have HO125:=rl_ w ho0;replace HB:=b1_ hb;clear hb ho0;obtain ⟨Ao11,co11,eo11⟩:=Kd.R_slice HO125.out;subst eo11))
     go_ret
     exact ⟨qb_,hB_⟩
    ·rw [if_neg c8] at H
     have c8b0:decide (0 < (l0.length:Int)) = false:=oD_ c8
     have c8b1:decide (0 < l0.length) = false:=oD_ (by omega)
     clear c8
     obtain rfl:=Option.some.inj H
     go_enter Try.func117,Try.ntmps117
     go_wp2_with (first | ((with_reducible refine gA_ (f:=146) rfl ?_);refine gL_ (some 6) Try.func146 #[.slice A0 l0.length c0] rfl qa_ ?_;(with_reducible refine (Z65.calls k _ _ l0 true _ (cc_ HR0) HC0.out A3.out).mono ?_);rintro e w' ⟨rfl,⟨nd,rfl⟩⟩;refine ⟨_,rfl,?_⟩) | (go_at_call 146;(with_reducible refine (Z65.calls k _ _ l1 true _ (cc_ HR1) HC1.out A5.out).mono ?_);rintro e w' ⟨rfl,⟨nd,rfl⟩⟩))
     go_ret
     exact ⟨qb_,hB_⟩
   ·rw [if_neg c7] at H
    have c7b0:((l0.length:Int) == (l1.length:Int)) = false:=beq_eq_false_iff_ne.mpr c7
    have c7b1:((l0.length:Int) != (l1.length:Int)) = true:=bne_iff_ne.mpr c7
    have c7b2:(l0.length == l1.length) = false:=by first | simpa using c7 | (simp at c7 ⊢;omega)
    obtain rfl:=Option.some.inj H
    go_enter Try.func117,Try.ntmps117
    go_wp2_with (first | ((with_reducible refine gA_ (f:=146) rfl ?_);refine gL_ (some 6) Try.func146 #[.slice A0 l0.length c0] rfl qa_ ?_;(with_reducible refine (Z65.calls k _ _ l0 true _ (cc_ HR0) HC0.out A3.out).mono ?_);rintro e w' ⟨rfl,⟨nd,rfl⟩⟩;refine ⟨_,rfl,?_⟩) | (go_at_call 146;(with_reducible refine (Z65.calls k _ _ l1 true _ (cc_ HR1) HC1.out A5.out).mono ?_);rintro e w' ⟨rfl,⟨nd,rfl⟩⟩))
    go_ret
    exact ⟨qb_,hB_⟩
  ·replace c6:=Bool.eq_false_iff.mpr c6
   subst c6
   have H1:(some false) = some r:=by rw [if_neg (show ¬ (false = true) by decide)] at H;exact H
   clear H
   have H:=H1
   clear H1
   obtain rfl:=Option.some.inj H
   go_enter Try.func117,Try.ntmps117
   go_wp2_with (first | ((with_reducible refine gA_ (f:=146) rfl ?_);refine gL_ (some 6) Try.func146 #[.slice A0 l0.length c0] rfl qa_ ?_;(with_reducible refine (Z65.calls k _ _ l0 true _ (cc_ HR0) HC0.out A3.out).mono ?_);rintro e w' ⟨rfl,⟨nd,rfl⟩⟩;refine ⟨_,rfl,?_⟩) | (go_at_call 146;(with_reducible refine (Z65.calls k _ _ l1 false _ (cc_ HR1) HC1.out A5.out).mono ?_);rintro e w' ⟨rfl,⟨nd,rfl⟩⟩))
   go_ret
   exact ⟨qb_,hB_⟩
 ·replace c4:=Bool.eq_false_iff.mpr c4
  subst c4
  have H1:(some false) = some r:=by rw [if_neg (show ¬ (false = true) by decide)] at H;exact H
  clear H
  have H:=H1
  clear H1
  obtain rfl:=Option.some.inj H
  go_enter Try.func117,Try.ntmps117
  go_wp2_with (first | ((with_reducible refine gA_ (f:=146) rfl ?_);refine gL_ (some 6) Try.func146 #[.slice A0 l0.length c0] rfl qa_ ?_;(with_reducible refine (Z65.calls k _ _ l0 false _ (cc_ HR0) HC0.out A3.out).mono ?_);rintro e w' ⟨rfl,⟨nd,rfl⟩⟩;refine ⟨_,rfl,?_⟩))
  go_ret
  exact ⟨qb_,hB_⟩
def Z37.f (k:Nat) (l0_0:List Int) (l0_1:List Int):Option (Bool):=(Z14.f k l0_0 l0_1).bind fun t127=>(some t127)
theorem Z37.mono:∀ a0 a1 k,LeO (Z37.f k a0 a1) (Z37.f (k + 1) a0 a1):=by
 intro a0 a1 k
 unfold Z37.f
 repeat' first|exact Z14.mono _ _ _|exact lo_|refine LeO.ite ?_ ?_|refine LeO.bind ?_ (fun _=>?_)
set_option maxHeartbeats 8000000 in
set_option maxRecDepth 100000 in
theorem Z37.calls (k:Nat) (A0_0:Option Addr) (c0_0:Nat) (l0_0:List Int) (A0_1:Option Addr) (c0_1:Nat) (l0_1:List Int) (r:Bool) (w:World) (hr0_0:Kd.C (Kd.int .i64) w A0_0 l0_0.length l0_0) (hc0_0:l0_0.length≤c0_0) (hr0_1:Kd.C (Kd.int .i64) w A0_1 l0_1.length l0_1) (hc0_1:l0_1.length≤c0_1) (h:Z37.f k l0_0 l0_1 = some r) :
  Calls Try.prog 80 #[.agg #[.slice A0_0 l0_0.length c0_0,.slice A0_1 l0_1.length c0_1]] w fun e w'=>e = .returned (.bool r)∧Below w.heap.size w w':=by
 have hu25:=Try.underlying25
 have HR0_0:=A_ hr0_0
 have HC0_0:=A_ hc0_0
 clear hr0_0 hc0_0
 have HR0_1:=A_ hr0_1
 have HC0_1:=A_ hc0_1
 clear hr0_1 hc0_1
 have HB:=A_ (Below.refl w.heap.size w)
 have H:=h
 unfold Z37.f at H
 clear h
 obtain ⟨t127,A2,H⟩:=bi_ H
 obtain rfl:=Option.some.inj H
 go_enter Try.func80,Try.ntmps80
 go_wp2_with (first | ((with_reducible refine gB_ (N:=1) rfl ?_);refine bx_ 1 #[.slice A0_0 l0_0.length c0_0,.slice A0_1 l0_1.length c0_1] 25 ?_;intro gb126 hg w3 hbox hb;have BK126:=A_ hbox;have GW126:=gw_ w hg;have GE126:=GW126;replace HB:=b1_ hb;clear hb hbox hg;obtain ⟨hcz4_0,hcz4_1,hfz4_0,hfz4_1⟩:=c2_ BK126) | ((with_reducible refine gA_ (f:=117) rfl ?_);refine gL_ (some 7) Try.func117 #[.slice A0_0 l0_0.length c0_0,.slice A0_1 l0_1.length c0_1] rfl qa_ ?_;(with_reducible refine (Z14.calls k _ _ l0_0 _ _ l0_1 t127 _ (cb_ HR0_0) HC0_0.out (cb_ HR0_1) HC0_1.out A2.out).mono ?_);rintro e w5 ⟨rfl,hb⟩;refine ⟨_,rfl,?_⟩;replace BK126:=bb_ BK126 hb;replace HB:=b1_ hb;clear hb))
 go_ret
 exact ⟨qb_,hB_⟩
def Z49.l0:Nat→List Int→List Int→Int→Int→Option (Bool)
 | 0,_,_,_,_=>none
 | k + 1,x1,x12,x13,x14=>if x14 < x13 then (if 0≤x14 then (if x14 < (x12.length:Int) then (if x14 < (x1.length:Int) then (if (rd x12 x14) = (rd x1 x14) then (Z49.l0 k x1 x12 x13 (wrap64 (x14 + 1))) else (some false)) else (none)) else (none)) else (none)) else (some true)
def Z49.f (k:Nat) (l0:List Int) (l1:List Int):Option (Bool):=if (l0.length:Int) = (l1.length:Int) then (Z49.l0 k l1 l0 (l0.length:Int) 0) else (some false)
theorem Z49.mono_l:∀ k,(∀ y0 y1 y2 y3,LeO (Z49.l0 k y0 y1 y2 y3) (Z49.l0 (k + 1) y0 y1 y2 y3))
 | 0=>fun _ _ _ _ r h=>by simp [Z49.l0] at h
 | k + 1=>by
  have ih0:=Z49.mono_l k
  ·intro y0 y1 y2 y3
   unfold Z49.l0
   repeat' first|exact ih0 _ _ _ _|exact lo_|refine LeO.ite ?_ ?_|refine LeO.bind ?_ (fun _=>?_)
theorem Z49.mono:∀ a0 a1 k,LeO (Z49.f k a0 a1) (Z49.f (k + 1) a0 a1):=by
 intro a0 a1 k
 have ih0:=Z49.mono_l k
 unfold Z49.f
 repeat' first|exact ih0 _ _ _ _|exact lo_|refine LeO.ite ?_ ?_|refine LeO.bind ?_ (fun _=>?_)
set_option maxHeartbeats 8000000 in
set_option maxRecDepth 100000 in
theorem Z49.calls (k:Nat) (A0:Option Addr) (c0:Nat) (l0:List Int) (A1:Option Addr) (c1:Nat) (l1:List Int) (r:Bool) (w:World) (hr0:Kd.C (Kd.int .i64) w A0 l0.length l0) (hc0:l0.length≤c0) (hr1:Kd.C (Kd.int .i64) w A1 l1.length l1) (hc1:l1.length≤c1) (h:Z49.f k l0 l1 = some r) :
  Calls Try.prog 148 #[.slice A0 l0.length c0,.slice A1 l1.length c1] w fun e w'=>e = .returned (.bool r)∧Drawn0 w w':=by
 have HR0:=A_ hr0
 have HC0:=A_ hc0
 clear hr0 hc0
 have HR1:=A_ hr1
 have HC1:=A_ hc1
 clear hr1 hc1
 have H:=h
 unfold Z49.f at H
 clear h
 by_cases c3:(l0.length:Int) = (l1.length:Int)
 ·rw [if_pos c3] at H
  have c3b0:((l0.length:Int) == (l1.length:Int)) = true:=beq_iff_eq.mpr c3
  have c3b1:((l0.length:Int) != (l1.length:Int)) = false:=bne_eq_false_iff_eq.mpr c3
  have c3b2:(l0.length == l1.length) = true:=by first | simpa using c3 | (simp at c3 ⊢;omega)
  clear c3
  have H':=A_ H
  clear H
  go_enter Try.func148,Try.ntmps148
  go_wp2
  go_loopg [14] k (fun kq v14 w'=>∃ (x14_1:Int),v14 = .int .i64 x14_1∧Aside0 (Z49.l0 kq l1 l0 (l0.length:Int) x14_1 = some r)∧Aside0 (kq≤k)∧Drawn0 w w')
  case atStart=>exact ⟨(0),qc_,H',⟨nA_ _⟩,by repeat (first | exact Drawn0.refl _ | apply Drawn0.step)⟩
  case round =>
   clear H'
   obtain ⟨x14_1,rfl,HA,HK1,⟨m1,rfl⟩⟩:=hrel
   cases gk with
   | zero=>exact absurd HA.out (by simp [Z49.l0])
   | succ k1 =>
    have H:=HA.out
    clear HA
    simp only [Z49.l0] at H
    by_cases c4:x14_1 < (l0.length:Int)
    ·rw [if_pos c4] at H
     have c4b0:=oC_ c4
     clear c4
     replace H:=cx_ H;obtain ⟨c5b0,H⟩:=H
     replace H:=cx_ H;obtain ⟨c6b0,H⟩:=H
     replace H:=cx_ H;obtain ⟨c7b0,H⟩:=H
     by_cases c8:(rd l0 x14_1) = (rd l1 x14_1)
     ·rw [if_pos c8] at H
      have c8b0:((rd l0 x14_1) == (rd l1 x14_1)) = true:=beq_iff_eq.mpr c8
      have c8b1:((rd l0 x14_1) != (rd l1 x14_1)) = false:=bne_eq_false_iff_eq.mpr c8
      clear c8
      have H':=A_ H
      clear H
      have p720:0≤(x14_1:Int):=oB_ qe_
      have q720:x14_1 < (l0.length:Int):=oB_ qe_
      obtain ⟨ad720,e720,hx720_0⟩:=Kd.at_int HR0.out x14_1 p720 q720
      cases e720
      replace p720:=eq_true p720
      replace q720:=eq_true q720
      have p721:0≤(x14_1:Int):=oB_ qe_
      have q721:x14_1 < (l1.length:Int):=oB_ qe_
      obtain ⟨ad721,e721,hx721_0⟩:=Kd.at_int HR1.out x14_1 p721 q721
      cases e721
      replace p721:=eq_true p721
      replace q721:=eq_true q721
      go_wp2
      go_roundg k1
      case measure=>have:=HK1.out;omega
      case rel=>exact ⟨(wrap64 (x14_1 + 1)),qc_,H',⟨by have:=HK1.out;omega⟩,by repeat (first | exact Drawn0.refl _ | apply Drawn0.step)⟩
     ·rw [if_neg c8] at H
      have c8b0:((rd l0 x14_1) == (rd l1 x14_1)) = false:=beq_eq_false_iff_ne.mpr c8
      have c8b1:((rd l0 x14_1) != (rd l1 x14_1)) = true:=bne_iff_ne.mpr c8
      obtain rfl:=Option.some.inj H
      have p720:0≤(x14_1:Int):=oB_ qe_
      have q720:x14_1 < (l0.length:Int):=oB_ qe_
      obtain ⟨ad720,e720,hx720_0⟩:=Kd.at_int HR0.out x14_1 p720 q720
      cases e720
      replace p720:=eq_true p720
      replace q720:=eq_true q720
      have p721:0≤(x14_1:Int):=oB_ qe_
      have q721:x14_1 < (l1.length:Int):=oB_ qe_
      obtain ⟨ad721,e721,hx721_0⟩:=Kd.at_int HR1.out x14_1 p721 q721
      cases e721
      replace p721:=eq_true p721
      replace q721:=eq_true q721
      go_wp2
      go_ret
      exact ⟨qc_,by repeat (first | exact Drawn0.refl _ | apply Drawn0.step)⟩
    ·rw [if_neg c4] at H
     have c4b0:=oD_ c4
     clear c4
     obtain rfl:=Option.some.inj H
     go_wp2
     go_ret
     exact ⟨qc_,by repeat (first | exact Drawn0.refl _ | apply Drawn0.step)⟩
 ·rw [if_neg c3] at H
  have c3b0:((l0.length:Int) == (l1.length:Int)) = false:=beq_eq_false_iff_ne.mpr c3
  have c3b1:((l0.length:Int) != (l1.length:Int)) = true:=bne_iff_ne.mpr c3
  have c3b2:(l0.length == l1.length) = false:=by first | simpa using c3 | (simp at c3 ⊢;omega)
  obtain rfl:=Option.some.inj H
  go_enter Try.func148,Try.ntmps148
  go_wp2
  go_ret
  exact ⟨qc_,by repeat (first | exact Drawn0.refl _ | apply Drawn0.step)⟩
def Z24.f (k:Nat) (l0_0:List Int) (l0_1:List Int) (l1_0:List Int) (l1_1:List Int):Option (Bool):=(Z49.f k l0_0 l1_0).bind fun t724=>(if t724 = true then ((Z49.f k l0_1 l1_1).bind fun t725=>(some t725)) else (some false))
theorem Z24.mono:∀ a0 a1 a2 a3 k,LeO (Z24.f k a0 a1 a2 a3) (Z24.f (k + 1) a0 a1 a2 a3):=by
 intro a0 a1 a2 a3 k
 unfold Z24.f
 repeat' first|exact Z49.mono _ _ _|exact lo_|refine LeO.ite ?_ ?_|refine LeO.bind ?_ (fun _=>?_)
set_option maxHeartbeats 8000000 in
set_option maxRecDepth 100000 in
theorem Z24.calls (k:Nat) (A0_0:Option Addr) (c0_0:Nat) (l0_0:List Int) (A0_1:Option Addr) (c0_1:Nat) (l0_1:List Int) (A1_0:Option Addr) (c1_0:Nat) (l1_0:List Int) (A1_1:Option Addr) (c1_1:Nat) (l1_1:List Int) (r:Bool) (w:World) (hr0_0:Kd.C (Kd.int .i64) w A0_0 l0_0.length l0_0) (hc0_0:l0_0.length≤c0_0) (hr0_1:Kd.C (Kd.int .i64) w A0_1 l0_1.length l0_1) (hc0_1:l0_1.length≤c0_1) (hr1_0:Kd.C (Kd.int .i64) w A1_0 l1_0.length l1_0) (hc1_0:l1_0.length≤c1_0) (hr1_1:Kd.C (Kd.int .i64) w A1_1 l1_1.length l1_1) (hc1_1:l1_1.length≤c1_1) (h:Z24.f k l0_0 l0_1 l1_0 l1_1 = some r) :
  Calls Try.prog 118 #[.agg #[.slice A0_0 l0_0.length c0_0,.slice A0_1 l0_1.length c0_1],.agg #[.slice A1_0 l1_0.length c1_0,.slice A1_1 l1_1.length c1_1]] w fun e w'=>e = .returned (.bool r)∧Below w.heap.size w w':=by
 have hu25:=Try.underlying25
 have HR0_0:=A_ hr0_0
 have HC0_0:=A_ hc0_0
 clear hr0_0 hc0_0
 have HR0_1:=A_ hr0_1
 have HC0_1:=A_ hc0_1
 clear hr0_1 hc0_1
 have HR1_0:=A_ hr1_0
 have HC1_0:=A_ hc1_0
 clear hr1_0 hc1_0
 have HR1_1:=A_ hr1_1
 have HC1_1:=A_ hc1_1
 clear hr1_1 hc1_1
 have HB:=A_ (Below.refl w.heap.size w)
 have H:=h
 unfold Z24.f at H
 clear h
 obtain ⟨t724,A3,H⟩:=bi_ H
 by_cases c4:t724 = true
 ·subst c4
  rw [if_pos rfl] at H
  obtain ⟨t725,A5,H⟩:=bi_ H
  obtain rfl:=Option.some.inj H
  go_enter Try.func118,Try.ntmps118
  go_wp2_with (first | ((with_reducible refine gB_ (N:=2) rfl ?_);refine bx_ 2 #[.slice A0_0 l0_0.length c0_0,.slice A0_1 l0_1.length c0_1] 25 ?_;intro gb722 hg w6 hbox hb;have BK722:=A_ hbox;have GW722:=gw_ w hg;have GE722:=GW722;replace HB:=b1_ hb;clear hb hbox hg) | ((with_reducible refine gB_ (N:=3) rfl ?_);refine bx_ 3 #[.slice A1_0 l1_0.length c1_0,.slice A1_1 l1_1.length c1_1] 25 ?_;intro gb723 hg w7 hbox hb;have BK723:=A_ hbox;have GW723:=gw_ w hg;have GE723:=GW723;replace HB:=b1_ hb;have NB722_723:=gN_ BK722 hg;have NB723_722:=gP_ BK722 hg;replace BK722:=bb_ BK722 hb;clear hb hbox hg;have hnb8:=NB722_723.out;have hnc8:=NB723_722.out;obtain ⟨hcz9_0,hcz9_1,hfz9_0,hfz9_1⟩:=c2_ BK722;obtain ⟨hcz10_0,hcz10_1,hfz10_0,hfz10_1⟩:=c2_ BK723) | ((with_reducible refine gA_ (f:=148) rfl ?_);refine gL_ (some 9) Try.func148 #[.slice A0_0 l0_0.length c0_0,.slice A1_0 l1_0.length c1_0] rfl qa_ ?_;(with_reducible refine (Z49.calls k _ _ l0_0 _ _ l1_0 true _ (cb_ HR0_0) HC0_0.out (cb_ HR1_0) HC1_0.out A3.out).mono ?_);rintro e w' ⟨rfl,⟨nd,rfl⟩⟩;refine ⟨_,rfl,?_⟩) | (go_at_call 148;(with_reducible refine (Z49.calls k _ _ l0_1 _ _ l1_1 t725 _ (cw_ (cD_ HR0_1.out hB_)) HC0_1.out (cw_ (cD_ HR1_1.out hB_)) HC1_1.out A5.out).mono ?_);rintro e w' ⟨rfl,⟨nd,rfl⟩⟩))
  go_ret
  exact ⟨qb_,hB_⟩
 ·replace c4:=Bool.eq_false_iff.mpr c4
  subst c4
  have H1:(some false) = some r:=by rw [if_neg (show ¬ (false = true) by decide)] at H;exact H
  clear H
  have H:=H1
  clear H1
  obtain rfl:=Option.some.inj H
  go_enter Try.func118,Try.ntmps118
  go_wp2_with (first | ((with_reducible refine gB_ (N:=2) rfl ?_);refine bx_ 2 #[.slice A0_0 l0_0.length c0_0,.slice A0_1 l0_1.length c0_1] 25 ?_;intro gb722 hg w11 hbox hb;have BK722:=A_ hbox;have GW722:=gw_ w hg;have GE722:=GW722;replace HB:=b1_ hb;clear hb hbox hg) | ((with_reducible refine gB_ (N:=3) rfl ?_);refine bx_ 3 #[.slice A1_0 l1_0.length c1_0,.slice A1_1 l1_1.length c1_1] 25 ?_;intro gb723 hg w12 hbox hb;have BK723:=A_ hbox;have GW723:=gw_ w hg;have GE723:=GW723;replace HB:=b1_ hb;have NB722_723:=gN_ BK722 hg;have NB723_722:=gP_ BK722 hg;replace BK722:=bb_ BK722 hb;clear hb hbox hg;have hnb13:=NB722_723.out;have hnc13:=NB723_722.out;obtain ⟨hcz14_0,hcz14_1,hfz14_0,hfz14_1⟩:=c2_ BK722;obtain ⟨hcz15_0,hcz15_1,hfz15_0,hfz15_1⟩:=c2_ BK723) | ((with_reducible refine gA_ (f:=148) rfl ?_);refine gL_ (some 9) Try.func148 #[.slice A0_0 l0_0.length c0_0,.slice A1_0 l1_0.length c1_0] rfl qa_ ?_;(with_reducible refine (Z49.calls k _ _ l0_0 _ _ l1_0 false _ (cb_ HR0_0) HC0_0.out (cb_ HR1_0) HC1_0.out A3.out).mono ?_);rintro e w' ⟨rfl,⟨nd,rfl⟩⟩;refine ⟨_,rfl,?_⟩))
  go_ret
  exact ⟨qb_,hB_⟩
def Z59.l0:Nat→List (S25)→Int→Int→List Int→List Int→Option (Int)
 | 0,_,_,_,_,_=>none
 | k + 1,x7,x8,x9,x727000,x727001=>if x9 < x8 then (if 0≤x9 then (if x9 < (x7.length:Int) then ((Z24.f k ((rd_T25 x7 x9).f0) ((rd_T25 x7 x9).f1) x727000 x727001).bind fun t729=>(if t729 = true then (some x9) else (Z59.l0 k x7 x8 (wrap64 (x9 + 1)) x727000 x727001))) else (none)) else (none)) else (some (-1))
def Z59.f (k:Nat) (l0:List (S25)) (l1_0:List Int) (l1_1:List Int):Option (Int):=Z59.l0 k l0 (l0.length:Int) 0 l1_0 l1_1
theorem Z59.mono_l:∀ k,(∀ y0 y1 y2 y3 y4,LeO (Z59.l0 k y0 y1 y2 y3 y4) (Z59.l0 (k + 1) y0 y1 y2 y3 y4))
 | 0=>fun _ _ _ _ _ r h=>by simp [Z59.l0] at h
 | k + 1=>by
  have ih0:=Z59.mono_l k
  ·intro y0 y1 y2 y3 y4
   unfold Z59.l0
   repeat' first|exact ih0 _ _ _ _ _|exact Z24.mono _ _ _ _ _|exact lo_|refine LeO.ite ?_ ?_|refine LeO.bind ?_ (fun _=>?_)
theorem Z59.mono:∀ a0 a1 a2 k,LeO (Z59.f k a0 a1 a2) (Z59.f (k + 1) a0 a1 a2):=by
 intro a0 a1 a2 k
 have ih0:=Z59.mono_l k
 unfold Z59.f
 repeat' first|exact ih0 _ _ _ _ _|exact Z24.mono _ _ _ _ _|exact lo_|refine LeO.ite ?_ ?_|refine LeO.bind ?_ (fun _=>?_)
set_option maxHeartbeats 8000000 in
set_option maxRecDepth 100000 in
theorem Z59.calls (k:Nat) (A0:Option Addr) (c0:Nat) (l0:List (S25)) (A1_0:Option Addr) (c1_0:Nat) (l1_0:List Int) (A1_1:Option Addr) (c1_1:Nat) (l1_1:List Int) (r:Int) (w:World) (hr0:Kd.C k25 w A0 l0.length l0) (hc0:l0.length≤c0) (hr1_0:Kd.C (Kd.int .i64) w A1_0 l1_0.length l1_0) (hc1_0:l1_0.length≤c1_0) (hr1_1:Kd.C (Kd.int .i64) w A1_1 l1_1.length l1_1) (hc1_1:l1_1.length≤c1_1) (h:Z59.f k l0 l1_0 l1_1 = some r) :
  Calls Try.prog 81 #[.slice A0 l0.length c0,.agg #[.slice A1_0 l1_0.length c1_0,.slice A1_1 l1_1.length c1_1]] w fun e w'=>e = .returned (.int .i64 r)∧Below w.heap.size w w':=by
 have hu25:=Try.underlying25
 have HR0:=A_ hr0
 have HC0:=A_ hc0
 clear hr0 hc0
 have HR1_0:=A_ hr1_0
 have HC1_0:=A_ hc1_0
 clear hr1_0 hc1_0
 have HR1_1:=A_ hr1_1
 have HC1_1:=A_ hc1_1
 clear hr1_1 hc1_1
 have HB:=A_ (Below.refl w.heap.size w)
 have H:=h
 unfold Z59.f at H
 clear h
 have H':=A_ H
 clear H
 go_enter Try.func81,Try.ntmps81
 go_wp2_with (first | ((with_reducible refine gB_ (N:=3) rfl ?_);refine bx_ 3 #[.slice A1_0 l1_0.length c1_0,.slice A1_1 l1_1.length c1_1] 25 ?_;intro gb726 hg w3 hbox hb;have BK726:=A_ hbox;have GW726:=gw_ w hg;have GE726:=GW726;replace HB:=b1_ hb;clear hb hbox hg))
 go_loopg [9] k (fun kq v9 w'=>∃ (x9_1:Int),v9 = .int .i64 x9_1∧Aside0 (Z59.l0 kq l0 (l0.length:Int) x9_1 l1_0 l1_1 = some r)∧Aside0 (kq≤k)∧Aside0 (w'.heap[gb726]? = some (.cells #[(.slice A1_0 l1_0.length c1_0),(.slice A1_1 l1_1.length c1_1)] 25 (0,0)))∧Aside0 (Below w.heap.size w w'))
 case atStart=>exact ⟨(0),qc_,H',⟨nA_ _⟩,⟨(kk_ BK726)⟩,⟨hB_⟩⟩
 case round =>
  clear H'
  obtain ⟨x9_1,rfl,HA,HK1,BK726,HB⟩:=hrel
  cases gk with
  | zero=>exact absurd HA.out (by simp [Z59.l0])
  | succ k1 =>
   have H:=HA.out
   clear HA
   simp only [Z59.l0] at H
   by_cases c4:x9_1 < (l0.length:Int)
   ·rw [if_pos c4] at H
    have c4b0:=oC_ c4
    clear c4
    replace H:=cx_ H;obtain ⟨c5b0,H⟩:=H
    replace H:=cx_ H;obtain ⟨c6b0,H⟩:=H
    obtain ⟨t729,A7,H⟩:=bi_ H
    by_cases c8:t729 = true
    ·subst c8
     rw [if_pos rfl] at H
     obtain rfl:=Option.some.inj H
     have p727:0≤(x9_1:Int):=oB_ qe_
     have q727:x9_1 < (l0.length:Int):=oB_ qe_
     obtain ⟨ad727,A727_0,c727_0,A727_1,c727_1,e727,hx727_0,hx727_1,hl727_0,hi727_0,hl727_1,hi727_1⟩:=at_T25 HR0.out x9_1 p727 q727
     cases e727
     replace hx727_0:=(HB.out.cell (World.block_lt_of_cell? w _ hx727_0)).trans hx727_0
     replace hx727_1:=(HB.out.cell (World.block_lt_of_cell? w _ hx727_1)).trans hx727_1
     have HR727_0:=A_ hi727_0
     have HC727_0:=A_ hl727_0
     clear hi727_0 hl727_0
     have HR727_1:=A_ hi727_1
     have HC727_1:=A_ hl727_1
     clear hi727_1 hl727_1
     replace p727:=eq_true p727
     replace q727:=eq_true q727
     go_wp2_with (first | ((with_reducible refine gB_ (N:=6) rfl ?_);refine bx_ 6 #[.slice none 0 0,.slice none 0 0] 25 ?_;intro gb728 hg w9 hbox hb;have BK728:=A_ hbox;have GW728:=gw_ w hg;have GE728:=GW728;replace HB:=b1_ hb;have NB726_728:=gN_ BK726 hg;have NB728_726:=gP_ BK726 hg;replace BK726:=bb_ BK726 hb;clear hb hbox hg;have hnb10:=NB728_726.out;have hnc10:=NB726_728.out;obtain ⟨hcz11_0,hcz11_1,hfz11_0,hfz11_1⟩:=c2_ BK728;obtain ⟨hcz12_0,hcz12_1,hfz12_0,hfz12_1⟩:=c2_ BK726) | ((with_reducible refine gA_ (f:=118) rfl ?_);refine gL_ (some 16) Try.func118 #[.agg #[.slice A727_0 ((rd_T25 l0 x9_1).f0).length c727_0,.slice A727_1 ((rd_T25 l0 x9_1).f1).length c727_1],.agg #[.slice A1_0 l1_0.length c1_0,.slice A1_1 l1_1.length c1_1]] rfl qa_ ?_;(with_reducible refine (Z24.calls k1 _ _ ((rd_T25 l0 x9_1).f0) _ _ ((rd_T25 l0 x9_1).f1) _ _ l1_0 _ _ l1_1 true _ (cD_ HR727_0.out hB_) HC727_0.out (cD_ HR727_1.out hB_) HC727_1.out (cD_ HR1_0.out hB_) HC1_0.out (cD_ HR1_1.out hB_) HC1_1.out A7.out).mono ?_);rintro e w13 ⟨rfl,hb⟩;refine ⟨_,rfl,?_⟩;replace BK726:=A_ (kE_ (g:=gb726) (o:=.cells #[.slice A1_0 l1_0.length c1_0,.slice A1_1 l1_1.length c1_1] 25 (0,0)) (by (with_reducible repeat (first | refine kA_ ?_ _ | refine kB_ ?_ | refine kC_ ?_ _));refine blk_far ?_ NB726_728.out _;(with_reducible repeat (first | refine kA_ ?_ _ | refine kB_ ?_ | refine kC_ ?_ _));refine blk_far ?_ NB726_728.out _;(with_reducible repeat (first | refine kA_ ?_ _ | refine kB_ ?_ | refine kC_ ?_ _));exact BK726.out) hb);replace BK728:=A_ (kE_ (g:=gb728) (o:=.cells #[.slice A727_0 ((rd_T25 l0 x9_1).f0).length c727_0,.slice A727_1 ((rd_T25 l0 x9_1).f1).length c727_1] 25 (0,0)) qp_ hb);replace HB:=b1_ hb;clear hb))
     go_ret
     exact ⟨qb_,hB_⟩
    ·replace c8:=Bool.eq_false_iff.mpr c8
     subst c8
     have H1:(Z59.l0 k1 l0 (l0.length:Int) (wrap64 (x9_1 + 1)) l1_0 l1_1) = some r:=by rw [if_neg (show ¬ (false = true) by decide)] at H;exact H
     clear H
     have H:=H1
     clear H1
     have H':=A_ H
     clear H
     have p727:0≤(x9_1:Int):=oB_ qe_
     have q727:x9_1 < (l0.length:Int):=oB_ qe_
     obtain ⟨ad727,A727_0,c727_0,A727_1,c727_1,e727,hx727_0,hx727_1,hl727_0,hi727_0,hl727_1,hi727_1⟩:=at_T25 HR0.out x9_1 p727 q727
     cases e727
     replace hx727_0:=(HB.out.cell (World.block_lt_of_cell? w _ hx727_0)).trans hx727_0
     replace hx727_1:=(HB.out.cell (World.block_lt_of_cell? w _ hx727_1)).trans hx727_1
     have HR727_0:=A_ hi727_0
     have HC727_0:=A_ hl727_0
     clear hi727_0 hl727_0
     have HR727_1:=A_ hi727_1
     have HC727_1:=A_ hl727_1
     clear hi727_1 hl727_1
     replace p727:=eq_true p727
     replace q727:=eq_true q727
     go_wp2_with (first | ((with_reducible refine gB_ (N:=6) rfl ?_);refine bx_ 6 #[.slice none 0 0,.slice none 0 0] 25 ?_;intro gb728 hg w14 hbox hb;have BK728:=A_ hbox;have GW728:=gw_ w hg;have GE728:=GW728;replace HB:=b1_ hb;have NB726_728:=gN_ BK726 hg;have NB728_726:=gP_ BK726 hg;replace BK726:=bb_ BK726 hb;clear hb hbox hg;have hnb15:=NB728_726.out;have hnc15:=NB726_728.out;obtain ⟨hcz16_0,hcz16_1,hfz16_0,hfz16_1⟩:=c2_ BK728;obtain ⟨hcz17_0,hcz17_1,hfz17_0,hfz17_1⟩:=c2_ BK726) | ((with_reducible refine gA_ (f:=118) rfl ?_);refine gL_ (some 16) Try.func118 #[.agg #[.slice A727_0 ((rd_T25 l0 x9_1).f0).length c727_0,.slice A727_1 ((rd_T25 l0 x9_1).f1).length c727_1],.agg #[.slice A1_0 l1_0.length c1_0,.slice A1_1 l1_1.length c1_1]] rfl qa_ ?_;(with_reducible refine (Z24.calls k1 _ _ ((rd_T25 l0 x9_1).f0) _ _ ((rd_T25 l0 x9_1).f1) _ _ l1_0 _ _ l1_1 false _ (cD_ HR727_0.out hB_) HC727_0.out (cD_ HR727_1.out hB_) HC727_1.out (cD_ HR1_0.out hB_) HC1_0.out (cD_ HR1_1.out hB_) HC1_1.out A7.out).mono ?_);rintro e w18 ⟨rfl,hb⟩;refine ⟨_,rfl,?_⟩;replace BK726:=A_ (kE_ (g:=gb726) (o:=.cells #[.slice A1_0 l1_0.length c1_0,.slice A1_1 l1_1.length c1_1] 25 (0,0)) (by (with_reducible repeat (first | refine kA_ ?_ _ | refine kB_ ?_ | refine kC_ ?_ _));refine blk_far ?_ NB726_728.out _;(with_reducible repeat (first | refine kA_ ?_ _ | refine kB_ ?_ | refine kC_ ?_ _));refine blk_far ?_ NB726_728.out _;(with_reducible repeat (first | refine kA_ ?_ _ | refine kB_ ?_ | refine kC_ ?_ _));exact BK726.out) hb);replace BK728:=A_ (kE_ (g:=gb728) (o:=.cells #[.slice A727_0 ((rd_T25 l0 x9_1).f0).length c727_0,.slice A727_1 ((rd_T25 l0 x9_1).f1).length c727_1] 25 (0,0)) qp_ hb);replace HB:=b1_ hb;clear hb))
     go_roundg k1
     case measure=>have:=HK1.out;omega
     case rel=>exact ⟨(wrap64 (x9_1 + 1)),qc_,H',⟨by have:=HK1.out;omega⟩,⟨(kk_ BK726)⟩,⟨hB_⟩⟩
   ·rw [if_neg c4] at H
    have c4b0:=oD_ c4
    clear c4
    obtain rfl:=Option.some.inj H
    go_wp2
    go_ret
    exact ⟨qb_,hB_⟩
def Z38.l0:Nat→List Int→List Int→List Int→Int→Int→Option (List Int)
 | 0,_,_,_,_,_=>none
 | k + 1,x1,x5,x11,x12,x13=>if x13 < x12 then (if 0≤x13 then (if x13 < (x11.length:Int) then (if x13 < (x1.length:Int) then (if 0≤(rd x11 x13) then (if (rd x11 x13) < (x1.length:Int) then (if 0≤(rd x1 x13) then (if (rd x1 x13) < (x5.length:Int) then (Z38.l0 k x1 (x5.set ((rd x1 x13):Int).toNat (rd x1 (rd x11 x13))) x11 x12 (wrap64 (x13 + 1))) else (none)) else (none)) else (none)) else (none)) else (none)) else (none)) else (none)) else (some x5)
def Z38.f (k:Nat) (l0:List Int) (l1:List Int):Option (List Int):=if 0≤(l0.length:Int) then (if ((l0.length:Int):Int).toNat≤35184372088832 then (Z38.l0 k l1 (List.replicate ((l0.length:Int):Int).toNat 0) l0 (l0.length:Int) 0) else (none)) else (none)
theorem Z38.mono_l:∀ k,(∀ y0 y1 y2 y3 y4,LeO (Z38.l0 k y0 y1 y2 y3 y4) (Z38.l0 (k + 1) y0 y1 y2 y3 y4))
 | 0=>fun _ _ _ _ _ r h=>by simp [Z38.l0] at h
 | k + 1=>by
  have ih0:=Z38.mono_l k
  ·intro y0 y1 y2 y3 y4
   unfold Z38.l0
   repeat' first|exact ih0 _ _ _ _ _|exact lo_|refine LeO.ite ?_ ?_|refine LeO.bind ?_ (fun _=>?_)
theorem Z38.mono:∀ a0 a1 k,LeO (Z38.f k a0 a1) (Z38.f (k + 1) a0 a1):=by
 intro a0 a1 k
 have ih0:=Z38.mono_l k
 unfold Z38.f
 repeat' first|exact ih0 _ _ _ _ _|exact lo_|refine LeO.ite ?_ ?_|refine LeO.bind ?_ (fun _=>?_)
def Z38.T5:Bool × List (List Nat × List Nat):=(true,[([],[]),([],[]),([],[]),([1,2],[1,2]),([3],[3]),([],[]),([],[]),([5,6],[5,6]),([7],[7]),([0,4,0,1,2,3,4,5,6,7,8],[0,4]),([9,8,0,1,2,3,4,5,6,7,8],[8,9])])
def Z38.B5:List Nat:=[0,0,0,6,14,0,0,96,224,511,1023]
theorem Z38.tab5:rtab .any (opsOf Try.f149 5) = Z38.T5:=by kernel_rfl
theorem Z38.bits5:waitsOk Z38.T5.2 Z38.B5 = true:=by kernel_rfl
set_option maxHeartbeats 8000000 in
set_option maxRecDepth 100000 in
theorem Z38.calls (k:Nat) (A0:Option Addr) (c0:Nat) (l0:List Int) (A1:Option Addr) (c1:Nat) (l1:List Int) (r:List Int) (w:World) (hr0:Kd.C (Kd.int .i64) w A0 l0.length l0) (hc0:l0.length≤c0) (hr1:Kd.C (Kd.int .i64) w A1 l1.length l1) (hc1:l1.length≤c1) (h:Z38.f k l0 l1 = some r) :
  Calls Try.prog 149 #[.slice A0 l0.length c0,.slice A1 l1.length c1] w fun e w'=>∃ v0_:Value,e = .returned (v0_)∧Kd.R (Kd.int .i64) 3 w' w.heap.size (fun _=>True) v0_ r∧Below w.heap.size w w':=by
 have HR0:=A_ hr0
 have HC0:=A_ hc0
 clear hr0 hc0
 have HR1:=A_ hr1
 have HC1:=A_ hc1
 clear hr1 hc1
 have HB:=A_ (Below.refl w.heap.size w)
 have H:=h
 unfold Z38.f at H
 clear h
 have c3:=cp_ H
 replace H:=ca_ H
 have c3b0:=eq_true c3
 have c3b1:=oC_ c3
 clear c3
 have c4:=cp_ H
 replace H:=ca_ H
 have c4b0:=eq_true c4
 have c4b1:=oC_ c4
 clear c4
 obtain ⟨y730,hy730⟩:∃ y_:List Int,y_ = (List.replicate ((l0.length:Int):Int).toNat 0):=⟨_,rfl⟩
 replace H:(Z38.l0 k l1 y730 l0 (l0.length:Int) 0) = some r:=by first | (rw [hy730];exact H) | exact H
 have Ny730:=A_ hy730
 clear hy730
 have H':=A_ H
 clear H
 go_enter Try.func149,Try.ntmps149
 go_wp2_with (first | ((with_reducible refine gB_ (N:=10) rfl ?_);refine Kd.R_make (Kd.int .i64) _ 3 rfl (N:=10) rfl 23 _ _ rfl (l0.length:Int) rfl rfl Try.underlying23 (.int .i64 0) 8 info3 rfl (by decide) (by omega) 0 (ok:=fun _=>True) (okp:=fun _=>True) rfl (fun _ hk=>hk) trivial (oB_ qe_) (Nat.le_trans (Nat.mul_le_mul_right _ (oB_ qe_:(l0.length:Int).toNat≤35184372088832)) (by omega)) (Below.refl _ _) (nA_ _) ?_;intro v731 w5 ho6 hb hg_ hnew_;clear hg_ hnew_;(first | rw [← Ny730.out] at ho6 | (simp only [Int.reduceToNat] at ho6;rw [← Ny730.out] at ho6));have HO732:=rl_ w ho6;replace HB:=b1_ hb;clear hb ho6))
 go_loopg [13] k (fun kq v13 w'=>∃ (x5_1:List Int) (x13_1:Int),v13 = .int .i64 x13_1∧Aside0 (Z38.l0 kq l1 x5_1 l0 (l0.length:Int) x13_1 = some r)∧Aside0 (kq≤k)∧Aside0 (Kd.R (Kd.int .i64) 3 w' w.heap.size (fun _=>True) v731 x5_1)∧Aside0 (Below w.heap.size w w'))
 case atStart=>exact ⟨(y730),(0),qc_,H',⟨nA_ _⟩,⟨(rr_ HO732)⟩,⟨hB_⟩⟩
 case round =>
  clear H'
  obtain ⟨x5_1,x13_1,rfl,HA,HK1,HO_5,HB⟩:=hrel
  cases gk with
  | zero=>exact absurd HA.out (by simp [Z38.l0])
  | succ k1 =>
   have H:=HA.out
   clear HA
   simp only [Z38.l0] at H
   by_cases c7:x13_1 < (l0.length:Int)
   ·rw [if_pos c7] at H
    have c7b0:=oC_ c7
    clear c7
    replace H:=cx_ H;obtain ⟨c8b0,H⟩:=H
    replace H:=cx_ H;obtain ⟨c9b0,H⟩:=H
    replace H:=cx_ H;obtain ⟨c10b0,H⟩:=H
    replace H:=cx_ H;obtain ⟨c11b0,H⟩:=H
    replace H:=cx_ H;obtain ⟨c12b0,H⟩:=H
    replace H:=cx_ H;obtain ⟨c13b0,H⟩:=H
    replace H:=cx_ H;obtain ⟨c14b0,H⟩:=H
    obtain ⟨y736,hy736⟩:∃ y_:List Int,y_ = (x5_1.set ((rd l1 x13_1):Int).toNat (rd l1 (rd l0 x13_1))):=⟨_,rfl⟩
    replace H:(Z38.l0 k1 l1 y736 l0 (l0.length:Int) (wrap64 (x13_1 + 1))) = some r:=by first | (rw [hy736];exact H) | exact H
    have Ny736:=A_ hy736
    clear hy736
    have H':=A_ H
    clear H
    have p733:0≤(x13_1:Int):=oB_ qe_
    have q733:x13_1 < (l0.length:Int):=oB_ qe_
    obtain ⟨ad733,e733,hx733_0⟩:=Kd.at_int HR0.out x13_1 p733 q733
    cases e733
    replace hx733_0:=(HB.out.cell (World.block_lt_of_cell? w _ hx733_0)).trans hx733_0
    replace p733:=eq_true p733
    replace q733:=eq_true q733
    try go_wp2
    replace HO_5:=A_ (rC_ HO_5.out)
    replace HB:=A_ (bC_ HB.out)
    have p734:0≤(x13_1:Int):=oB_ qe_
    have q734:x13_1 < (l1.length:Int):=oB_ qe_
    obtain ⟨ad734,e734,hx734_0⟩:=Kd.at_int HR1.out x13_1 p734 q734
    have hw734_0:=hx734_0
    cases e734
    replace hx734_0:=(HB.out.cell (World.block_lt_of_cell? w _ hx734_0)).trans hx734_0
    replace p734:=eq_true p734
    replace q734:=eq_true q734
    have p735:0≤((rd l0 x13_1):Int):=oB_ qe_
    have q735:(rd l0 x13_1) < (l1.length:Int):=oB_ qe_
    obtain ⟨ad735,e735,hx735_0⟩:=Kd.at_int HR1.out (rd l0 x13_1) p735 q735
    have hw735_0:=hx735_0
    obtain rfl:ad734 = ad735:=(by injection e735)
    replace hx735_0:=(HB.out.cell (World.block_lt_of_cell? w _ hx735_0)).trans hx735_0
    replace p735:=eq_true p735
    replace q735:=eq_true q735
    have p15:0≤((rd l1 x13_1):Int):=oB_ qe_
    have q15:((rd l1 x13_1):Int) < ((x5_1.length:Int):Int):=oB_ qe_
    obtain ⟨go15,co15,eo15,gb15,gl15,cl15,HG15⟩:=Kd.R_form HO_5.out (by omega)
    (first | cases eo15 | (injection eo15 with ea_ en_ ec_;(first | subst ea_ | (injection ea_ with ea_;subst ea_));subst ec_;clear en_))
    have GB15:=A_ gb15
    have GG15:=A_ HG15
    clear gb15 gl15 HG15
    obtain ⟨hx15_0,hf15_0⟩:=Kd.R_celln 0 HO_5.out ((rd l1 x13_1):Int) p15 q15
    replace p15:=eq_true p15
    replace q15:=eq_true q15
    have HP17:=Kd.R_putn HO_5.out ((rd l1 x13_1):Int) (rd l1 (rd l0 x13_1))
    rw [← Ny736.out] at HP17
    have HQ17:=A_ HP17
    clear HP17
    refine start_ (n:=11) (S:=fun w'=>w'.cell? (ad734.add (x13_1).toNat) = some (.int .i64 (rd l1 x13_1))∧w'.cell? (ad734.add ((rd l0 x13_1)).toNat) = some (.int .i64 (rd l1 (rd l0 x13_1)))) (ds:=[10]) (bl_ 11 0) (by kernel_rfl) rfl (by kernel_rfl) ⟨((HB.out.cell (World.block_lt_of_cell? w _ hw734_0)).trans hw734_0),((HB.out.cell (World.block_lt_of_cell? w _ hw735_0)).trans hw735_0)⟩ (fun hHeld=>?_);refine with_tabW Z38.tab5 Z38.bits5 (fun HT_ HW_=>?_)
    generalize wr.drew = w16 at HO_5 HB GG15 HQ17 hf15_0 hx15_0 hx734_0 hx735_0 hHeld ⊢
    refine pu_ 0 (some 18) (bl_ 11 1) HT_ ?_
    refine pu_ 1 (some 19) (bl_ 11 3) HT_ ?_
    refine pu_ 2 (some 20) (bl_ 11 7) HT_ ?_
    refine pu_ 3 (some 21) (bl_ 11 15) HT_ ?_
    refine pu_ 5 (some 23) (bl_ 11 47) HT_ ?_
    refine pu_ 6 (some 24) (bl_ 11 111) HT_ ?_
    refine pu_ 7 (some 25) (bl_ 11 239) HT_ ?_
    refine ta_ 4 (some 22) (bl_ 11 255) HT_ HW_ hHeld ?_
    refine ta_ 8 (some 26) (bl_ 11 511) HT_ HW_ hHeld ?_
    refine pu_ 9 (some 27) (bl_ 11 1023) HT_ ?_
    refine last_ (i:=10) (N:=none) (bl_ 11 2047) rfl rfl (one_of HT_.out (by kernel_rfl)) (by decide) (fun K hK=>?_)
    refine skip_ (w1:=?_) (by rfl) rfl ?_ ?_
    rotate_left
    ·go_simp
     rfl
    refine hK.out _ _ ?_
    clear hK K
    refine done_ (done_of HT_.out (by kernel_rfl)) ?_
    try go_wp2
    go_roundg k1
    case measure=>have:=HK1.out;omega
    case rel=>exact ⟨(y736),(wrap64 (x13_1 + 1)),qc_,H',⟨by have:=HK1.out;omega⟩,⟨(rr_ HQ17)⟩,⟨by repeat (first | (with_reducible first | exact HB.out | apply bA_ | apply bB_ | apply bC_ | refine bD_ ?_ GB15.out) | exact HB.out)⟩⟩
   ·rw [if_neg c7] at H
    have c7b0:=oD_ c7
    clear c7
    obtain rfl:=Option.some.inj H
    go_wp2
    go_ret
    exact ⟨_,qb_,(rr_ HO_5),hB_⟩
def Z40.f (k:Nat) (l0_0:List Int) (l0_1:List Int) (l1:List Int):Option (List Int × List Int):=(Z38.f k l0_0 l1).bind fun t739=>((Z38.f k l0_1 l1).bind fun t742=>(some (t739,t742)))
theorem Z40.mono:∀ a0 a1 a2 k,LeO (Z40.f k a0 a1 a2) (Z40.f (k + 1) a0 a1 a2):=by
 intro a0 a1 a2 k
 unfold Z40.f
 repeat' first|exact Z38.mono _ _ _|exact lo_|refine LeO.ite ?_ ?_|refine LeO.bind ?_ (fun _=>?_)
def Z40.T1:Bool × List (List Nat × List Nat):=(true,[([],[]),([0],[0]),([],[]),([1,2],[1,2]),([],[]),([4],[4]),([],[]),([5,6,3],[5,6]),([3,7],[3,7]),([8,7,0,1,2,3,4,5,6,7,8],[8])])
def Z40.B1:List Nat:=[0,1,0,7,0,16,0,127,255,511]
theorem Z40.tab1:rtab .any (opsOf Try.f119 1) = Z40.T1:=by kernel_rfl
theorem Z40.bits1:waitsOk Z40.T1.2 Z40.B1 = true:=by kernel_rfl
set_option maxHeartbeats 8000000 in
set_option maxRecDepth 100000 in
theorem Z40.calls (k:Nat) (A0_0:Option Addr) (c0_0:Nat) (l0_0:List Int) (A0_1:Option Addr) (c0_1:Nat) (l0_1:List Int) (A1:Option Addr) (c1:Nat) (l1:List Int) (r1:List Int) (r2:List Int) (w:World) (hr0_0:Kd.C (Kd.int .i64) w A0_0 l0_0.length l0_0) (hc0_0:l0_0.length≤c0_0) (hr0_1:Kd.C (Kd.int .i64) w A0_1 l0_1.length l0_1) (hc0_1:l0_1.length≤c0_1) (hr1:Kd.C (Kd.int .i64) w A1 l1.length l1) (hc1:l1.length≤c1) (h:Z40.f k l0_0 l0_1 l1 = some (r1,r2)) :
  Calls Try.prog 119 #[.agg #[.slice A0_0 l0_0.length c0_0,.slice A0_1 l0_1.length c0_1],.slice A1 l1.length c1] w fun e w'=>∃ v0_ v1_:Value,e = .returned (.agg #[v0_,v1_])∧Kd.R (Kd.int .i64) 3 w' w.heap.size (fun k_=>some k_≠(v1_:Value).ownBlock) v0_ r1∧Kd.R (Kd.int .i64) 3 w' w.heap.size (fun k_=>some k_≠(v0_:Value).ownBlock) v1_ r2∧Below w.heap.size w w':=by
 have hu25:=Try.underlying25
 have HR0_0:=A_ hr0_0
 have HC0_0:=A_ hc0_0
 clear hr0_0 hc0_0
 have HR0_1:=A_ hr0_1
 have HC0_1:=A_ hc0_1
 clear hr0_1 hc0_1
 have HR1:=A_ hr1
 have HC1:=A_ hc1
 clear hr1 hc1
 have HB:=A_ (Below.refl w.heap.size w)
 have H:=h
 unfold Z40.f at H
 clear h
 obtain ⟨t739,A3,H⟩:=bi_ H
 obtain ⟨t742,A4,H⟩:=bi_ H
 simp only [Option.some.injEq,Prod.mk.injEq] at H
 obtain ⟨rfl,rfl⟩:=H
 go_enter Try.func119,Try.ntmps119
 try go_wp2_with (first | ((with_reducible refine gB_ (N:=2) rfl ?_);refine bx_ 2 #[.slice A0_0 l0_0.length c0_0,.slice A0_1 l0_1.length c0_1] 25 ?_;intro gb737 hg w5 hbox hb;have BK737:=A_ hbox;have GW737:=gw_ w hg;have GE737:=GW737;replace HB:=b1_ hb;clear hb hbox hg) | ((with_reducible refine gB_ (N:=4) rfl ?_);refine bx_ 4 #[.slice none 0 0,.slice none 0 0] 25 ?_;intro gb738 hg w6 hbox hb;have BK738:=A_ hbox;have GW738:=gw_ w hg;have GE738:=GW738;replace HB:=b1_ hb;have NB737_738:=gN_ BK737 hg;have NB738_737:=gP_ BK737 hg;replace BK737:=bb_ BK737 hb;clear hb hbox hg))
 replace BK737:=A_ (kB_ BK737.out)
 replace BK738:=A_ (kB_ BK738.out)
 replace HB:=A_ (bC_ HB.out)
 refine start_ (n:=10) (S:=fun w'=>w'.cell? ⟨gb737,0,none⟩ = some (.slice A0_0 l0_0.length c0_0)∧w'.cell? ⟨gb737,1,none⟩ = some (.slice A0_1 l0_1.length c0_1)) (ds:=[]) (bl_ 10 0) (by kernel_rfl) rfl (by kernel_rfl) ⟨cz0_ BK737,cz1_ BK737⟩ (fun hHeld=>?_);refine with_tabW Z40.tab1 Z40.bits1 (fun HT_ HW_=>?_)
 generalize w6.drew = w7 at BK737 BK738 HB hHeld ⊢
 refine pu_ 0 (some 5) (bl_ 10 1) HT_ ?_
 refine pu_ 2 (some 7) (bl_ 10 5) HT_ ?_
 refine pu_ 4 (some 9) (bl_ 10 21) HT_ ?_
 refine pu_ 6 (some 11) (bl_ 10 85) HT_ ?_
 refine ta_ 1 (some 6) (bl_ 10 87) HT_ HW_ hHeld ?_
 refine ta_ 5 (some 10) (bl_ 10 119) HT_ HW_ hHeld ?_
 refine on_ 3 (some 8) (bl_ 10 127) HT_ (fun K hK=>?_)
 refine gO_ Try.func149 #[.slice A0_0 l0_0.length c0_0,.slice A1 l1.length c1] (by rfl) rfl rfl qa_ ?_
 with_reducible refine (Z38.calls k _ _ l0_0 _ _ l1 t739 _ (cb_ HR0_0) HC0_0.out (cb_ HR1) HC1.out A3.out).mono ?_
 rintro e w8 ⟨v740,rfl,ho0,hb⟩
 refine ⟨_,rfl,?_⟩
 have HO741:=rl_ w ho0
 replace BK737:=bb_ BK737 hb
 replace BK738:=bb_ BK738 hb
 replace HB:=b1_ hb
 clear hb ho0
 refine hK.out _ _ ⟨cz0_ BK737,cz1_ BK737⟩ (fun hHeld=>?_)
 clear hK K
 refine no_ (some 8) ?_
 refine on_ 7 (some 12) (bl_ 10 255) HT_ (fun K hK=>?_)
 refine gO_ Try.func149 #[.slice A0_1 l0_1.length c0_1,.slice A1 l1.length c1] (by rfl) rfl rfl qa_ ?_
 with_reducible refine (Z38.calls k _ _ l0_1 _ _ l1 t742 _ (cb_ HR0_1) HC0_1.out (cb_ HR1) HC1.out A4.out).mono ?_
 rintro e w9 ⟨v743,rfl,ho0,hb⟩
 refine ⟨_,rfl,?_⟩
 have HO744:=A_ (rE_ (Kd.R_new' ho0 (Kd.R_lt (rr_ HO741))) (bF_ hB_))
 replace HO741:=A_ (Kd.R_elder' (rr_ HO741) (Kd.R_base ho0) hb)
 replace BK737:=bb_ BK737 hb
 replace BK738:=bb_ BK738 hb
 replace HB:=b1_ hb
 clear hb ho0
 obtain ⟨Ao10,co10,eo10⟩:=Kd.R_slice HO744.out
 (first|subst eo10|(injection eo10 with a_ b_ c_;have a_:=a_.symm;have c_:=c_.symm;clear b_;subst a_;subst c_))
 obtain ⟨Ao11,co11,eo11⟩:=Kd.R_slice HO741.out
 (first|subst eo11|(injection eo11 with a_ b_ c_;have a_:=a_.symm;have c_:=c_.symm;clear b_;subst a_;subst c_))
 refine hK.out _ _ ⟨cz0_ BK737,cz1_ BK737⟩ (fun hHeld=>?_)
 clear hK K
 refine no_ (some 12) ?_
 refine pu_ 8 (some 13) (bl_ 10 511) HT_ ?_
 refine on_ 9 (none) (bl_ 10 1023) HT_ (fun K hK=>?_)
 have hs12:w9.cell? ⟨gb738,0,none⟩ = some (.slice none 0 0):=cz0_ BK738
 have hfs12:=kD_ BK738.out 0
 have hns12_0:=NB737_738.out
 have hms12_0:=NB738_737.out
 have hs13:w9.cell? ⟨gb738,1,none⟩ = some (.slice none 0 0):=cz1_ BK738
 have hfs13:=kD_ BK738.out 1
 have hns13_0:=NB737_738.out
 have hms13_0:=NB738_737.out
 refine skip_ (w1:=?_) (by rfl) rfl ?_ ?_
 rotate_left
 ·go_simp
  rfl
 refine hK.out _ _ ⟨((cell_far (p:=⟨gb738,_,none⟩) NB737_738.out _).trans (((cell_far (p:=⟨gb738,_,none⟩) NB737_738.out _).trans (hHeld.1)))),((cell_far (p:=⟨gb738,_,none⟩) NB737_738.out _).trans (((cell_far (p:=⟨gb738,_,none⟩) NB737_738.out _).trans (hHeld.2))))⟩ (fun hHeld=>?_)
 clear hK K
 refine done_ (done_of HT_.out (by kernel_rfl)) ?_
 try go_wp2
 refine bodyPost_ret (results_cell_row rfl _ _ gb738 25 #[.slice Ao11 t739.length co11,.slice Ao10 t742.length co10] (0,0) _ rfl qp_ Try.underlying25 rfl (by kernel_rfl)) rfl ?_
 exact ⟨_,_,qb_,(rw_ (Kd.R_mono (fa_ HO741 BK738) (fun _ hk=>hk.2))),(rw_ (Kd.R_mono (fa_ HO744 BK738) (fun _ hk=>hk.2))),hB_⟩
def Z28.l0:Nat→List Int→List Int→Int→Int→Option (List Int)
 | 0,_,_,_,_=>none
 | k + 1,x3,x9,x10,x11=>if x11 < x10 then (if 0≤x11 then (if x11 < (x9.length:Int) then (if 0≤(rd x9 x11) then (if (rd x9 x11) < (x3.length:Int) then (Z28.l0 k (x3.set ((rd x9 x11):Int).toNat x11) x9 x10 (wrap64 (x11 + 1))) else (none)) else (none)) else (none)) else (none)) else (some x3)
def Z28.f (k:Nat) (l0:List Int):Option (List Int):=if 0≤(l0.length:Int) then (if ((l0.length:Int):Int).toNat≤35184372088832 then (Z28.l0 k (List.replicate ((l0.length:Int):Int).toNat 0) l0 (l0.length:Int) 0) else (none)) else (none)
theorem Z28.mono_l:∀ k,(∀ y0 y1 y2 y3,LeO (Z28.l0 k y0 y1 y2 y3) (Z28.l0 (k + 1) y0 y1 y2 y3))
 | 0=>fun _ _ _ _ r h=>by simp [Z28.l0] at h
 | k + 1=>by
  have ih0:=Z28.mono_l k
  ·intro y0 y1 y2 y3
   unfold Z28.l0
   repeat' first|exact ih0 _ _ _ _|exact lo_|refine LeO.ite ?_ ?_|refine LeO.bind ?_ (fun _=>?_)
theorem Z28.mono:∀ a0 k,LeO (Z28.f k a0) (Z28.f (k + 1) a0):=by
 intro a0 k
 have ih0:=Z28.mono_l k
 unfold Z28.f
 repeat' first|exact ih0 _ _ _ _|exact lo_|refine LeO.ite ?_ ?_|refine LeO.bind ?_ (fun _=>?_)
set_option maxHeartbeats 8000000 in
set_option maxRecDepth 100000 in
theorem Z28.calls (k:Nat) (A0:Option Addr) (c0:Nat) (l0:List Int) (r:List Int) (w:World) (hr0:Kd.C (Kd.int .i64) w A0 l0.length l0) (hc0:l0.length≤c0) (h:Z28.f k l0 = some r) :
  Calls Try.prog 150 #[.slice A0 l0.length c0] w fun e w'=>∃ v0_:Value,e = .returned (v0_)∧Kd.R (Kd.int .i64) 3 w' w.heap.size (fun _=>True) v0_ r∧Below w.heap.size w w':=by
 have HR0:=A_ hr0
 have HC0:=A_ hc0
 clear hr0 hc0
 have HB:=A_ (Below.refl w.heap.size w)
 have H:=h
 unfold Z28.f at H
 clear h
 have c2:=cp_ H
 replace H:=ca_ H
 have c2b0:=eq_true c2
 have c2b1:=oC_ c2
 clear c2
 have c3:=cp_ H
 replace H:=ca_ H
 have c3b0:=eq_true c3
 have c3b1:=oC_ c3
 clear c3
 obtain ⟨y745,hy745⟩:∃ y_:List Int,y_ = (List.replicate ((l0.length:Int):Int).toNat 0):=⟨_,rfl⟩
 replace H:(Z28.l0 k y745 l0 (l0.length:Int) 0) = some r:=by first | (rw [hy745];exact H) | exact H
 have Ny745:=A_ hy745
 clear hy745
 have H':=A_ H
 clear H
 go_enter Try.func150,Try.ntmps150
 go_wp2_with (first | ((with_reducible refine gB_ (N:=8) rfl ?_);refine Kd.R_make (Kd.int .i64) _ 3 rfl (N:=8) rfl 23 _ _ rfl (l0.length:Int) rfl rfl Try.underlying23 (.int .i64 0) 8 info3 rfl (by decide) (by omega) 0 (ok:=fun _=>True) (okp:=fun _=>True) rfl (fun _ hk=>hk) trivial (oB_ qe_) (Nat.le_trans (Nat.mul_le_mul_right _ (oB_ qe_:(l0.length:Int).toNat≤35184372088832)) (by omega)) (Below.refl _ _) (nA_ _) ?_;intro v746 w4 ho5 hb hg_ hnew_;clear hg_ hnew_;(first | rw [← Ny745.out] at ho5 | (simp only [Int.reduceToNat] at ho5;rw [← Ny745.out] at ho5));have HO747:=rl_ w ho5;replace HB:=b1_ hb;clear hb ho5))
 go_loopg [11] k (fun kq v11 w'=>∃ (x3_1:List Int) (x11_1:Int),v11 = .int .i64 x11_1∧Aside0 (Z28.l0 kq x3_1 l0 (l0.length:Int) x11_1 = some r)∧Aside0 (kq≤k)∧Aside0 (Kd.R (Kd.int .i64) 3 w' w.heap.size (fun _=>True) v746 x3_1)∧Aside0 (Below w.heap.size w w'))
 case atStart=>exact ⟨(y745),(0),qc_,H',⟨nA_ _⟩,⟨(rr_ HO747)⟩,⟨hB_⟩⟩
 case round =>
  clear H'
  obtain ⟨x3_1,x11_1,rfl,HA,HK1,HO_3,HB⟩:=hrel
  cases gk with
  | zero=>exact absurd HA.out (by simp [Z28.l0])
  | succ k1 =>
   have H:=HA.out
   clear HA
   simp only [Z28.l0] at H
   by_cases c6:x11_1 < (l0.length:Int)
   ·rw [if_pos c6] at H
    have c6b0:=oC_ c6
    clear c6
    replace H:=cx_ H;obtain ⟨c7b0,H⟩:=H
    replace H:=cx_ H;obtain ⟨c8b0,H⟩:=H
    replace H:=cx_ H;obtain ⟨c9b0,H⟩:=H
    replace H:=cx_ H;obtain ⟨c10b0,H⟩:=H
    obtain ⟨y749,hy749⟩:∃ y_:List Int,y_ = (x3_1.set ((rd l0 x11_1):Int).toNat x11_1):=⟨_,rfl⟩
    replace H:(Z28.l0 k1 y749 l0 (l0.length:Int) (wrap64 (x11_1 + 1))) = some r:=by first | (rw [hy749];exact H) | exact H
    have Ny749:=A_ hy749
    clear hy749
    have H':=A_ H
    clear H
    have p748:0≤(x11_1:Int):=oB_ qe_
    have q748:x11_1 < (l0.length:Int):=oB_ qe_
    obtain ⟨ad748,e748,hx748_0⟩:=Kd.at_int HR0.out x11_1 p748 q748
    cases e748
    replace hx748_0:=(HB.out.cell (World.block_lt_of_cell? w _ hx748_0)).trans hx748_0
    replace p748:=eq_true p748
    replace q748:=eq_true q748
    have p11:0≤((rd l0 x11_1):Int):=oB_ qe_
    have q11:((rd l0 x11_1):Int) < ((x3_1.length:Int):Int):=oB_ qe_
    obtain ⟨go11,co11,eo11,gb11,gl11,cl11,HG11⟩:=Kd.R_form HO_3.out (by omega)
    (first | cases eo11 | (injection eo11 with ea_ en_ ec_;(first | subst ea_ | (injection ea_ with ea_;subst ea_));subst ec_;clear en_))
    have GB11:=A_ gb11
    have GG11:=A_ HG11
    clear gb11 gl11 HG11
    obtain ⟨hx11_0,hf11_0⟩:=Kd.R_celln 0 HO_3.out ((rd l0 x11_1):Int) p11 q11
    replace p11:=eq_true p11
    replace q11:=eq_true q11
    have HP12:=Kd.R_putg HO_3.out ((rd l0 x11_1):Int) x11_1
    go_wp2_with (first | ((with_reducible refine gate_store (t:=3) (p:=19) rfl ?_);refine store_event (t:=3) (p:=19) (v:=?vo_w13) (w1:=(wr.setCell ⟨go11,((rd l0 x11_1):Int).toNat,none⟩ (.int .i64 x11_1))) ?hg ?ho ?hn ?hr ?_;(case ho=>rfl);(case hg=>rfl);(case hn=>rfl);(case hr=>first | (go_simp;done) | (go_simp;rfl));intro w13 hw;have hg:wr.grownBy w13 (some go11):=(by rw [hw];exact HP12.2);have hp_:Kd.R (Kd.int .i64) 3 w13 w.heap.size (fun _=>True) (.slice (some ⟨go11,0,none⟩) x3_1.length co11) y749:=(by rw [hw,Ny749.out];exact HP12.1);clear HP12;replace HO_3:=A_ (hp_);replace HB:=A_ ((by rw [hw];exact bD_ (HB.out) GB11.out:Below w.heap.size w w13));clear hg hw hp_))
    go_roundg k1
    case measure=>have:=HK1.out;omega
    case rel=>exact ⟨(y749),(wrap64 (x11_1 + 1)),qc_,H',⟨by have:=HK1.out;omega⟩,⟨(rr_ HO_3)⟩,⟨hB_⟩⟩
   ·rw [if_neg c6] at H
    have c6b0:=oD_ c6
    clear c6
    obtain rfl:=Option.some.inj H
    go_wp2
    go_ret
    exact ⟨_,qb_,(rr_ HO_3),hB_⟩
def Z52.f (k:Nat) (l0_0:List Int) (l0_1:List Int) (a1:Int):Option (List Int):=(Z50.f k l0_0 l0_1 a1).bind fun t751=>((Z28.f k t751).bind fun t754=>(some t754))
theorem Z52.mono:∀ a0 a1 a2 k,LeO (Z52.f k a0 a1 a2) (Z52.f (k + 1) a0 a1 a2):=by
 intro a0 a1 a2 k
 unfold Z52.f
 repeat' first|exact Z28.mono _ _|exact Z50.mono _ _ _ _|exact lo_|refine LeO.ite ?_ ?_|refine LeO.bind ?_ (fun _=>?_)
set_option maxHeartbeats 8000000 in
set_option maxRecDepth 100000 in
theorem Z52.calls (k:Nat) (A0_0:Option Addr) (c0_0:Nat) (l0_0:List Int) (A0_1:Option Addr) (c0_1:Nat) (l0_1:List Int) (a1:Int) (r:List Int) (w:World) (hr0_0:Kd.C (Kd.int .i64) w A0_0 l0_0.length l0_0) (hc0_0:l0_0.length≤c0_0) (hr0_1:Kd.C (Kd.int .i64) w A0_1 l0_1.length l0_1) (hc0_1:l0_1.length≤c0_1) (h:Z52.f k l0_0 l0_1 a1 = some r) :
  Calls Try.prog 120 #[.agg #[.slice A0_0 l0_0.length c0_0,.slice A0_1 l0_1.length c0_1],.int .i64 a1] w fun e w'=>∃ v0_:Value,e = .returned (v0_)∧Kd.R (Kd.int .i64) 3 w' w.heap.size (fun _=>True) v0_ r∧Below w.heap.size w w':=by
 have hu25:=Try.underlying25
 have HR0_0:=A_ hr0_0
 have HC0_0:=A_ hc0_0
 clear hr0_0 hc0_0
 have HR0_1:=A_ hr0_1
 have HC0_1:=A_ hc0_1
 clear hr0_1 hc0_1
 have HB:=A_ (Below.refl w.heap.size w)
 have H:=h
 unfold Z52.f at H
 clear h
 obtain ⟨t751,A3,H⟩:=bi_ H
 obtain ⟨t754,A4,H⟩:=bi_ H
 obtain rfl:=Option.some.inj H
 go_enter Try.func120,Try.ntmps120
 go_wp2_with (first | ((with_reducible refine gB_ (N:=2) rfl ?_);refine bx_ 2 #[.slice A0_0 l0_0.length c0_0,.slice A0_1 l0_1.length c0_1] 25 ?_;intro gb750 hg w5 hbox hb;have BK750:=A_ hbox;have GW750:=gw_ w hg;have GE750:=GW750;replace HB:=b1_ hb;clear hb hbox hg;obtain ⟨hcz6_0,hcz6_1,hfz6_0,hfz6_1⟩:=c2_ BK750) | ((with_reducible refine gA_ (f:=147) rfl ?_);refine gL_ (some 10) Try.func147 #[.slice A0_0 l0_0.length c0_0,.slice A0_1 l0_1.length c0_1,.int .i64 a1] rfl qa_ ?_;(with_reducible refine (Z50.calls k _ _ l0_0 _ _ l0_1 a1 t751 _ (cb_ HR0_0) HC0_0.out (cb_ HR0_1) HC0_1.out A3.out).mono ?_);rintro e w7 ⟨v752,rfl,ho0,hb⟩;refine ⟨_,rfl,?_⟩;have HO753:=rl_ w ho0;replace BK750:=bb_ BK750 hb;replace HB:=b1_ hb;clear hb ho0;obtain ⟨Ao8,co8,eo8⟩:=Kd.R_slice HO753.out;subst eo8) | ((with_reducible refine gA_ (f:=150) rfl ?_);refine gL_ (some 11) Try.func150 #[.slice Ao8 t751.length co8] rfl qa_ ?_;(with_reducible refine (Z28.calls k _ _ t751 t754 _ (cr_ HO753) ((Kd.R_reads' HO753.out).2.1) A4.out).mono ?_);rintro e w9 ⟨v755,rfl,ho0,hb⟩;refine ⟨_,rfl,?_⟩;have HO756:=A_ (rE_ (Kd.R_new' ho0 (Kd.R_lt (rr_ HO753))) (bF_ hB_));replace HO753:=A_ (Kd.R_elder' (rr_ HO753) (Kd.R_base ho0) hb);replace BK750:=bb_ BK750 hb;replace HB:=b1_ hb;clear hb ho0))
 go_ret
 exact ⟨_,qb_,(rw_ (Kd.R_mono HO756.out (fun _ hk=>trivial))),hB_⟩
def Z57.l0:Nat→List Int→List Int→Int→Int→Option (Bool)
 | 0,_,_,_,_=>none
 | k + 1,x1,x7,x8,x9=>if x9 < x8 then (if 0≤x9 then (if x9 < (x7.length:Int) then (if x9 < (x1.length:Int) then (if (rd x7 x9) = (rd x1 x9) then (Z57.l0 k x1 x7 x8 (wrap64 (x9 + 1))) else (some (decide ((rd x7 x9) < (rd x1 x9))))) else (none)) else (none)) else (none)) else (some false)
def Z57.f (k:Nat) (l0:List Int) (l1:List Int):Option (Bool):=Z57.l0 k l1 l0 (l0.length:Int) 0
theorem Z57.mono_l:∀ k,(∀ y0 y1 y2 y3,LeO (Z57.l0 k y0 y1 y2 y3) (Z57.l0 (k + 1) y0 y1 y2 y3))
 | 0=>fun _ _ _ _ r h=>by simp [Z57.l0] at h
 | k + 1=>by
  have ih0:=Z57.mono_l k
  ·intro y0 y1 y2 y3
   unfold Z57.l0
   repeat' first|exact ih0 _ _ _ _|exact lo_|refine LeO.ite ?_ ?_|refine LeO.bind ?_ (fun _=>?_)
theorem Z57.mono:∀ a0 a1 k,LeO (Z57.f k a0 a1) (Z57.f (k + 1) a0 a1):=by
 intro a0 a1 k
 have ih0:=Z57.mono_l k
 unfold Z57.f
 repeat' first|exact ih0 _ _ _ _|exact lo_|refine LeO.ite ?_ ?_|refine LeO.bind ?_ (fun _=>?_)
set_option maxHeartbeats 8000000 in
set_option maxRecDepth 100000 in
theorem Z57.calls (k:Nat) (A0:Option Addr) (c0:Nat) (l0:List Int) (A1:Option Addr) (c1:Nat) (l1:List Int) (r:Bool) (w:World) (hr0:Kd.C (Kd.int .i64) w A0 l0.length l0) (hc0:l0.length≤c0) (hr1:Kd.C (Kd.int .i64) w A1 l1.length l1) (hc1:l1.length≤c1) (h:Z57.f k l0 l1 = some r) :
  Calls Try.prog 151 #[.slice A0 l0.length c0,.slice A1 l1.length c1] w fun e w'=>e = .returned (.bool r)∧Drawn0 w w':=by
 have HR0:=A_ hr0
 have HC0:=A_ hc0
 clear hr0 hc0
 have HR1:=A_ hr1
 have HC1:=A_ hc1
 clear hr1 hc1
 have H:=h
 unfold Z57.f at H
 clear h
 have H':=A_ H
 clear H
 go_enter Try.func151,Try.ntmps151
 go_wp2
 go_loopg [9] k (fun kq v9 w'=>∃ (x9_1:Int),v9 = .int .i64 x9_1∧Aside0 (Z57.l0 kq l1 l0 (l0.length:Int) x9_1 = some r)∧Aside0 (kq≤k)∧Drawn0 w w')
 case atStart=>exact ⟨(0),qc_,H',⟨nA_ _⟩,by repeat (first | exact Drawn0.refl _ | apply Drawn0.step)⟩
 case round =>
  clear H'
  obtain ⟨x9_1,rfl,HA,HK1,⟨m1,rfl⟩⟩:=hrel
  cases gk with
  | zero=>exact absurd HA.out (by simp [Z57.l0])
  | succ k1 =>
   have H:=HA.out
   clear HA
   simp only [Z57.l0] at H
   by_cases c3:x9_1 < (l0.length:Int)
   ·rw [if_pos c3] at H
    have c3b0:=oC_ c3
    clear c3
    replace H:=cx_ H;obtain ⟨c4b0,H⟩:=H
    replace H:=cx_ H;obtain ⟨c5b0,H⟩:=H
    replace H:=cx_ H;obtain ⟨c6b0,H⟩:=H
    by_cases c7:(rd l0 x9_1) = (rd l1 x9_1)
    ·rw [if_pos c7] at H
     have c7b0:((rd l0 x9_1) == (rd l1 x9_1)) = true:=beq_iff_eq.mpr c7
     have c7b1:((rd l0 x9_1) != (rd l1 x9_1)) = false:=bne_eq_false_iff_eq.mpr c7
     clear c7
     have H':=A_ H
     clear H
     have p757:0≤(x9_1:Int):=oB_ qe_
     have q757:x9_1 < (l0.length:Int):=oB_ qe_
     obtain ⟨ad757,e757,hx757_0⟩:=Kd.at_int HR0.out x9_1 p757 q757
     cases e757
     replace p757:=eq_true p757
     replace q757:=eq_true q757
     have p758:0≤(x9_1:Int):=oB_ qe_
     have q758:x9_1 < (l1.length:Int):=oB_ qe_
     obtain ⟨ad758,e758,hx758_0⟩:=Kd.at_int HR1.out x9_1 p758 q758
     cases e758
     replace p758:=eq_true p758
     replace q758:=eq_true q758
     go_wp2
     go_roundg k1
     case measure=>have:=HK1.out;omega
     case rel=>exact ⟨(wrap64 (x9_1 + 1)),qc_,H',⟨by have:=HK1.out;omega⟩,by repeat (first | exact Drawn0.refl _ | apply Drawn0.step)⟩
    ·rw [if_neg c7] at H
     have c7b0:((rd l0 x9_1) == (rd l1 x9_1)) = false:=beq_eq_false_iff_ne.mpr c7
     have c7b1:((rd l0 x9_1) != (rd l1 x9_1)) = true:=bne_iff_ne.mpr c7
     obtain rfl:=Option.some.inj H
     have p757:0≤(x9_1:Int):=oB_ qe_
     have q757:x9_1 < (l0.length:Int):=oB_ qe_
     obtain ⟨ad757,e757,hx757_0⟩:=Kd.at_int HR0.out x9_1 p757 q757
     cases e757
     replace p757:=eq_true p757
     replace q757:=eq_true q757
     have p758:0≤(x9_1:Int):=oB_ qe_
     have q758:x9_1 < (l1.length:Int):=oB_ qe_
     obtain ⟨ad758,e758,hx758_0⟩:=Kd.at_int HR1.out x9_1 p758 q758
     cases e758
     replace p758:=eq_true p758
     replace q758:=eq_true q758
     have p759:0≤(x9_1:Int):=oB_ qe_
     have q759:x9_1 < (l1.length:Int):=oB_ qe_
     obtain ⟨ad759,e759,hx759_0⟩:=Kd.at_int HR1.out x9_1 p759 q759
     obtain rfl:ad758 = ad759:=(by injection e759)
     replace p759:=eq_true p759
     replace q759:=eq_true q759
     go_wp2
     go_ret
     exact ⟨qc_,by repeat (first | exact Drawn0.refl _ | apply Drawn0.step)⟩
   ·rw [if_neg c3] at H
    have c3b0:=oD_ c3
    clear c3
    obtain rfl:=Option.some.inj H
    go_wp2
    go_ret
    exact ⟨qc_,by repeat (first | exact Drawn0.refl _ | apply Drawn0.step)⟩
def Z39.f (k:Nat) (l0_0:List Int) (l0_1:List Int) (l1_0:List Int) (l1_1:List Int):Option (Bool):=(Z49.f k l0_0 l1_0).bind fun t762=>(if t762 = true then ((Z57.f k l0_1 l1_1).bind fun t763=>(some t763)) else ((Z57.f k l0_0 l1_0).bind fun t764=>(some t764)))
theorem Z39.mono:∀ a0 a1 a2 a3 k,LeO (Z39.f k a0 a1 a2 a3) (Z39.f (k + 1) a0 a1 a2 a3):=by
 intro a0 a1 a2 a3 k
 unfold Z39.f
 repeat' first|exact Z49.mono _ _ _|exact Z57.mono _ _ _|exact lo_|refine LeO.ite ?_ ?_|refine LeO.bind ?_ (fun _=>?_)
set_option maxHeartbeats 8000000 in
set_option maxRecDepth 100000 in
theorem Z39.calls (k:Nat) (A0_0:Option Addr) (c0_0:Nat) (l0_0:List Int) (A0_1:Option Addr) (c0_1:Nat) (l0_1:List Int) (A1_0:Option Addr) (c1_0:Nat) (l1_0:List Int) (A1_1:Option Addr) (c1_1:Nat) (l1_1:List Int) (r:Bool) (w:World) (hr0_0:Kd.C (Kd.int .i64) w A0_0 l0_0.length l0_0) (hc0_0:l0_0.length≤c0_0) (hr0_1:Kd.C (Kd.int .i64) w A0_1 l0_1.length l0_1) (hc0_1:l0_1.length≤c0_1) (hr1_0:Kd.C (Kd.int .i64) w A1_0 l1_0.length l1_0) (hc1_0:l1_0.length≤c1_0) (hr1_1:Kd.C (Kd.int .i64) w A1_1 l1_1.length l1_1) (hc1_1:l1_1.length≤c1_1) (h:Z39.f k l0_0 l0_1 l1_0 l1_1 = some r) :
  Calls Try.prog 121 #[.agg #[.slice A0_0 l0_0.length c0_0,.slice A0_1 l0_1.length c0_1],.agg #[.slice A1_0 l1_0.length c1_0,.slice A1_1 l1_1.length c1_1]] w fun e w'=>e = .returned (.bool r)∧Below w.heap.size w w':=by
 have hu25:=Try.underlying25
 have HR0_0:=A_ hr0_0
 have HC0_0:=A_ hc0_0
 clear hr0_0 hc0_0
 have HR0_1:=A_ hr0_1
 have HC0_1:=A_ hc0_1
 clear hr0_1 hc0_1
 have HR1_0:=A_ hr1_0
 have HC1_0:=A_ hc1_0
 clear hr1_0 hc1_0
 have HR1_1:=A_ hr1_1
 have HC1_1:=A_ hc1_1
 clear hr1_1 hc1_1
 have HB:=A_ (Below.refl w.heap.size w)
 have H:=h
 unfold Z39.f at H
 clear h
 obtain ⟨t762,A3,H⟩:=bi_ H
 by_cases c4:t762 = true
 ·subst c4
  rw [if_pos rfl] at H
  obtain ⟨t763,A5,H⟩:=bi_ H
  obtain rfl:=Option.some.inj H
  go_enter Try.func121,Try.ntmps121
  go_wp2_with (first | ((with_reducible refine gB_ (N:=2) rfl ?_);refine bx_ 2 #[.slice A0_0 l0_0.length c0_0,.slice A0_1 l0_1.length c0_1] 25 ?_;intro gb760 hg w6 hbox hb;have BK760:=A_ hbox;have GW760:=gw_ w hg;have GE760:=GW760;replace HB:=b1_ hb;clear hb hbox hg) | ((with_reducible refine gB_ (N:=3) rfl ?_);refine bx_ 3 #[.slice A1_0 l1_0.length c1_0,.slice A1_1 l1_1.length c1_1] 25 ?_;intro gb761 hg w7 hbox hb;have BK761:=A_ hbox;have GW761:=gw_ w hg;have GE761:=GW761;replace HB:=b1_ hb;have NB760_761:=gN_ BK760 hg;have NB761_760:=gP_ BK760 hg;replace BK760:=bb_ BK760 hb;clear hb hbox hg;have hnb8:=NB760_761.out;have hnc8:=NB761_760.out;obtain ⟨hcz9_0,hcz9_1,hfz9_0,hfz9_1⟩:=c2_ BK760;obtain ⟨hcz10_0,hcz10_1,hfz10_0,hfz10_1⟩:=c2_ BK761) | ((with_reducible refine gA_ (f:=148) rfl ?_);refine gL_ (some 9) Try.func148 #[.slice A0_0 l0_0.length c0_0,.slice A1_0 l1_0.length c1_0] rfl qa_ ?_;(with_reducible refine (Z49.calls k _ _ l0_0 _ _ l1_0 true _ (cb_ HR0_0) HC0_0.out (cb_ HR1_0) HC1_0.out A3.out).mono ?_);rintro e w' ⟨rfl,⟨nd,rfl⟩⟩;refine ⟨_,rfl,?_⟩) | ((with_reducible refine gA_ (f:=151) rfl ?_);refine gL_ (some 14) Try.func151 #[.slice A0_1 l0_1.length c0_1,.slice A1_1 l1_1.length c1_1] rfl qa_ ?_;(with_reducible refine (Z57.calls k _ _ l0_1 _ _ l1_1 t763 _ (cw_ (cD_ HR0_1.out hB_)) HC0_1.out (cw_ (cD_ HR1_1.out hB_)) HC1_1.out A5.out).mono ?_);rintro e w' ⟨rfl,⟨nd,rfl⟩⟩;refine ⟨_,rfl,?_⟩))
  go_ret
  exact ⟨qb_,hB_⟩
 ·replace c4:=Bool.eq_false_iff.mpr c4
  subst c4
  have H1:((Z57.f k l0_0 l1_0).bind fun t764=>(some t764)) = some r:=by rw [if_neg (show ¬ (false = true) by decide)] at H;exact H
  clear H
  have H:=H1
  clear H1
  obtain ⟨t764,A11,H⟩:=bi_ H
  obtain rfl:=Option.some.inj H
  go_enter Try.func121,Try.ntmps121
  go_wp2_with (first | ((with_reducible refine gB_ (N:=2) rfl ?_);refine bx_ 2 #[.slice A0_0 l0_0.length c0_0,.slice A0_1 l0_1.length c0_1] 25 ?_;intro gb760 hg w12 hbox hb;have BK760:=A_ hbox;have GW760:=gw_ w hg;have GE760:=GW760;replace HB:=b1_ hb;clear hb hbox hg) | ((with_reducible refine gB_ (N:=3) rfl ?_);refine bx_ 3 #[.slice A1_0 l1_0.length c1_0,.slice A1_1 l1_1.length c1_1] 25 ?_;intro gb761 hg w13 hbox hb;have BK761:=A_ hbox;have GW761:=gw_ w hg;have GE761:=GW761;replace HB:=b1_ hb;have NB760_761:=gN_ BK760 hg;have NB761_760:=gP_ BK760 hg;replace BK760:=bb_ BK760 hb;clear hb hbox hg;have hnb14:=NB760_761.out;have hnc14:=NB761_760.out;obtain ⟨hcz15_0,hcz15_1,hfz15_0,hfz15_1⟩:=c2_ BK760;obtain ⟨hcz16_0,hcz16_1,hfz16_0,hfz16_1⟩:=c2_ BK761) | ((with_reducible refine gA_ (f:=148) rfl ?_);refine gL_ (some 9) Try.func148 #[.slice A0_0 l0_0.length c0_0,.slice A1_0 l1_0.length c1_0] rfl qa_ ?_;(with_reducible refine (Z49.calls k _ _ l0_0 _ _ l1_0 false _ (cb_ HR0_0) HC0_0.out (cb_ HR1_0) HC1_0.out A3.out).mono ?_);rintro e w' ⟨rfl,⟨nd,rfl⟩⟩;refine ⟨_,rfl,?_⟩) | ((with_reducible refine gA_ (f:=151) rfl ?_);refine gL_ (some 19) Try.func151 #[.slice A0_0 l0_0.length c0_0,.slice A1_0 l1_0.length c1_0] rfl qa_ ?_;(with_reducible refine (Z57.calls k _ _ l0_0 _ _ l1_0 t764 _ (cw_ (cD_ HR0_0.out hB_)) HC0_0.out (cw_ (cD_ HR1_0.out hB_)) HC1_0.out A11.out).mono ?_);rintro e w' ⟨rfl,⟨nd,rfl⟩⟩;refine ⟨_,rfl,?_⟩))
  go_ret
  exact ⟨qb_,hB_⟩
def Z51.l0:Nat→Int→List Int→List Int→List Int→List Int→Option (List Int × List Int)
 | 0,_,_,_,_,_=>none
 | k + 1,x4,x766000,x766001,x777000,x777001=>if x4 < (x766000.length:Int) then ((Z52.f k x766000 x766001 x4).bind fun t777=>((Z40.f k x766000 x766001 t777).bind fun bt780=>((Z39.f k bt780.1 bt780.2 x777000 x777001).bind fun t787=>(if t787 = true then (Z51.l0 k (wrap64 (x4 + 1)) x766000 x766001 bt780.1 bt780.2) else (Z51.l0 k (wrap64 (x4 + 1)) x766000 x766001 x777000 x777001))))) else (some (x777000,x777001))
def Z51.f (k:Nat) (l0_0:List Int) (l0_1:List Int):Option (List Int × List Int):=(Z52.f k l0_0 l0_1 0).bind fun t767=>((Z40.f k l0_0 l0_1 t767).bind fun bt770=>(Z51.l0 k 1 l0_0 l0_1 bt770.1 bt770.2))
theorem Z51.mono_l:∀ k,(∀ y0 y1 y2 y3 y4,LeO (Z51.l0 k y0 y1 y2 y3 y4) (Z51.l0 (k + 1) y0 y1 y2 y3 y4))
 | 0=>fun _ _ _ _ _ r h=>by simp [Z51.l0] at h
 | k + 1=>by
  have ih0:=Z51.mono_l k
  ·intro y0 y1 y2 y3 y4
   unfold Z51.l0
   repeat' first|exact ih0 _ _ _ _ _|exact Z39.mono _ _ _ _ _|exact Z52.mono _ _ _ _|exact Z40.mono _ _ _ _|exact lo_|refine LeO.ite ?_ ?_|refine LeO.bind ?_ (fun _=>?_)
theorem Z51.mono:∀ a0 a1 k,LeO (Z51.f k a0 a1) (Z51.f (k + 1) a0 a1):=by
 intro a0 a1 k
 have ih0:=Z51.mono_l k
 unfold Z51.f
 repeat' first|exact ih0 _ _ _ _ _|exact Z39.mono _ _ _ _ _|exact Z52.mono _ _ _ _|exact Z40.mono _ _ _ _|exact lo_|refine LeO.ite ?_ ?_|refine LeO.bind ?_ (fun _=>?_)
set_option maxHeartbeats 8000000 in
set_option maxRecDepth 100000 in
theorem Z51.calls (k:Nat) (A0_0:Option Addr) (c0_0:Nat) (l0_0:List Int) (A0_1:Option Addr) (c0_1:Nat) (l0_1:List Int) (r1:List Int) (r2:List Int) (w:World) (hr0_0:Kd.C (Kd.int .i64) w A0_0 l0_0.length l0_0) (hc0_0:l0_0.length≤c0_0) (hr0_1:Kd.C (Kd.int .i64) w A0_1 l0_1.length l0_1) (hc0_1:l0_1.length≤c0_1) (h:Z51.f k l0_0 l0_1 = some (r1,r2)) :
  Calls Try.prog 82 #[.agg #[.slice A0_0 l0_0.length c0_0,.slice A0_1 l0_1.length c0_1]] w fun e w'=>∃ v0_ v1_:Value,e = .returned (.agg #[v0_,v1_])∧Kd.R (Kd.int .i64) 3 w' w.heap.size (fun k_=>some k_≠(v1_:Value).ownBlock) v0_ r1∧Kd.R (Kd.int .i64) 3 w' w.heap.size (fun k_=>some k_≠(v0_:Value).ownBlock) v1_ r2∧Below w.heap.size w w':=by
 have hu25:=Try.underlying25
 have HR0_0:=A_ hr0_0
 have HC0_0:=A_ hc0_0
 clear hr0_0 hc0_0
 have HR0_1:=A_ hr0_1
 have HC0_1:=A_ hc0_1
 clear hr0_1 hc0_1
 have HB:=A_ (Below.refl w.heap.size w)
 have H:=h
 unfold Z51.f at H
 clear h
 obtain ⟨t767,A2,H⟩:=bi_ H
 obtain ⟨⟨t770,t773⟩,A3,H⟩:=bi_ H
 try dsimp only at H
 have H':=A_ H
 clear H
 go_enter Try.func82,Try.ntmps82
 try go_wp2_with (first | ((with_reducible refine gB_ (N:=1) rfl ?_);refine bx_ 1 #[.slice A0_0 l0_0.length c0_0,.slice A0_1 l0_1.length c0_1] 25 ?_;intro gb765 hg w4 hbox hb;have BK765:=A_ hbox;have GW765:=gw_ w hg;have GE765:=GW765;replace HB:=b1_ hb;clear hb hbox hg) | ((with_reducible refine gB_ (N:=2) rfl ?_);refine bx_ 2 #[.slice none 0 0,.slice none 0 0] 25 ?_;intro gb766 hg w5 hbox hb;have BK766:=A_ hbox;have GW766:=gw_ w hg;have GE766:=GW766;replace HB:=b1_ hb;have NB765_766:=gN_ BK765 hg;have NB766_765:=gP_ BK765 hg;replace BK765:=bb_ BK765 hb;clear hb hbox hg))
 replace BK765:=A_ (kB_ BK765.out)
 replace BK766:=A_ (kB_ BK766.out)
 replace HB:=A_ (bC_ HB.out)
 refine start_ (n:=6) (S:=fun w'=>w'.cell? ⟨gb765,0,none⟩ = some (.slice A0_0 l0_0.length c0_0)∧w'.cell? ⟨gb765,1,none⟩ = some (.slice A0_1 l0_1.length c0_1)) (ds:=[]) (bl_ 6 0) (by kernel_rfl) rfl (by kernel_rfl) ⟨cz0_ BK765,cz1_ BK765⟩ (fun hHeld=>?_)
 generalize w5.drew = w6 at BK765 BK766 HB hHeld ⊢
 refine take_ (i:=0) (N:=some 6) (v:=?_) (a':=?_) (bl_ 6 1) rfl rfl (by kernel_rfl) (fun _ _ _ h=>h) (Or.inl ⟨by rfl,?_⟩) hHeld ?_ ?_
 rotate_left
 ·rintro w' ⟨s0,s1⟩
  go_simp
  with_reducible rfl
 rotate_left
 ·simp only [Act.put,sA_,sB_,sC_,i64_w,i32_w]
  rfl
 refine take_ (i:=1) (N:=some 7) (v:=?_) (a':=?_) (bl_ 6 3) rfl rfl (by kernel_rfl) (fun _ _ _ h=>h) (Or.inl ⟨by rfl,?_⟩) hHeld ?_ ?_
 rotate_left
 ·rintro w' ⟨s0,s1⟩
  go_simp
  with_reducible rfl
 rotate_left
 ·simp only [Act.put,sA_,sB_,sC_,i64_w,i32_w]
  rfl
 refine join_ (σ:=Value × Value × Value × Nat) 1 (bl_ 6 31) (fun s_=>[(8,s_.1),(9,.agg #[s_.2.1,s_.2.2.1]),(3,.pointer (some ⟨s_.2.2.2,0,none⟩))]) (fun s_ w'=>(w'.cell? ⟨gb765,0,none⟩ = some (.slice A0_0 l0_0.length c0_0)∧w'.cell? ⟨gb765,1,none⟩ = some (.slice A0_1 l0_1.length c0_1))∧(Kd.R (Kd.int .i64) 3 w' w.heap.size (fun k_=>some k_≠(s_.2.1:Value).ownBlock∧some k_≠(s_.2.2.1:Value).ownBlock) s_.1 t767)∧(Kd.R (Kd.int .i64) 3 w' w.heap.size (fun k_=>some k_≠(s_.1:Value).ownBlock∧some k_≠(s_.2.2.1:Value).ownBlock) s_.2.1 t770)∧(Kd.R (Kd.int .i64) 3 w' w.heap.size (fun k_=>some k_≠(s_.1:Value).ownBlock∧some k_≠(s_.2.1:Value).ownBlock) s_.2.2.1 t773)∧(w'.heap[gb765]? = some (.cells #[.slice A0_0 l0_0.length c0_0,.slice A0_1 l0_1.length c0_1] 25 (0,0)))∧(w'.heap[gb766]? = some (.cells #[.slice none 0 0,.slice none 0 0] 25 (0,0)))∧(w'.heap[s_.2.2.2]? = some (.cells #[.slice none 0 0,.slice none 0 0] 25 (0,0)))∧(w.heap.size≤s_.2.2.2)∧(w.heap.size≤s_.2.2.2)∧(gb765≠s_.2.2.2)∧(s_.2.2.2≠gb765)∧(gb766≠s_.2.2.2)∧(s_.2.2.2≠gb766)∧(Below w.heap.size w w')) ?_ ?_
 rotate_left
 ·intro hCont
  refine two_ (i:=2) (j:=4) (Ni:=some 8) (Nj:=some 3) (bl_ 6 7) (bl_ 6 19) rfl rfl rfl rfl (by kernel_rfl) (by decide) (by decide) (fun K hK=>?_) (fun K hK=>?_)
  ·skip
   refine gO_ Try.func120 #[.agg #[.slice A0_0 l0_0.length c0_0,.slice A0_1 l0_1.length c0_1],.int .i64 0] (by rfl) rfl rfl qa_ ?_
   with_reducible refine (Z52.calls k _ _ l0_0 _ _ l0_1 0 t767 _ (cb_ HR0_0) HC0_0.out (cb_ HR0_1) HC0_1.out A2.out).mono ?_
   rintro e w7 ⟨v768,rfl,ho0,hb⟩
   refine ⟨_,rfl,?_⟩
   have HO769:=rl_ w ho0
   replace BK765:=bb_ BK765 hb
   replace BK766:=bb_ BK766 hb
   replace HB:=b1_ hb
   clear hb ho0
   obtain ⟨Ao8,co8,eo8⟩:=Kd.R_slice HO769.out
   (first|subst eo8|(injection eo8 with a_ b_ c_;have a_:=a_.symm;have c_:=c_.symm;clear b_;subst a_;subst c_))
   refine hK.out _ _ ⟨cz0_ BK765,cz1_ BK765⟩ (fun hHeld=>?_)
   clear hK K
   refine no_ (some 8) ?_
   refine two_ (i:=3) (j:=4) (Ni:=some 9) (Nj:=some 3) (bl_ 6 15) (bl_ 6 23) rfl rfl rfl rfl (by kernel_rfl) (by decide) (by decide) (fun K hK=>?_) (fun K hK=>?_)
   ·skip
    refine gO_ Try.func119 #[.agg #[.slice A0_0 l0_0.length c0_0,.slice A0_1 l0_1.length c0_1],.slice Ao8 t767.length co8] (by rfl) rfl rfl qa_ ?_
    with_reducible refine (Z40.calls k _ _ l0_0 _ _ l0_1 _ _ t767 t770 t773 _ (cb_ HR0_0) HC0_0.out (cb_ HR0_1) HC0_1.out (cr_ HO769) ((Kd.R_reads' HO769.out).2.1) A3.out).mono ?_
    rintro e w9 ⟨v771,v774,rfl,ho0,ho1,hb⟩
    refine ⟨_,rfl,?_⟩
    have HO772:=A_ (rE_ (Kd.R_new' ho0 (Kd.R_lt (rr_ HO769))) (bF_ hB_))
    have HO775:=A_ (rE_ (Kd.R_new' ho1 (Kd.R_lt (rr_ HO769))) (bF_ hB_))
    replace HO769:=A_ (Kd.R_mono (Kd.R_told (Kd.R_told (Kd.R_old (rr_ HO769) hb) (Kd.R_base ho0)) (Kd.R_base ho1)) (fun _ h_=>h_.1))
    replace BK765:=bb_ BK765 hb
    replace BK766:=bb_ BK766 hb
    replace HB:=b1_ hb
    clear hb ho0 ho1
    refine hK.out _ _ ⟨cz0_ BK765,cz1_ BK765⟩ (fun hHeld=>?_)
    clear hK K
    refine no_ (some 9) ?_
    refine one_ (i:=4) (N:=some 3) (bl_ 6 31) rfl rfl (by kernel_rfl) (by decide) (fun K hK=>?_)
    refine box_step ?hg (N:=3) ?hd (cs:=#[.slice none 0 0,.slice none 0 0]) (t:=25) ?hr ?_;(case hd=>rfl);(case hg=>rfl);(case hr=>first | (go_simp;done) | (go_simp;rfl))
    intro gb776 hg w10 hbox hb
    replace HO769:=rb_ HO769 hb
    replace HO772:=rb_ HO772 hb
    replace HO775:=rb_ HO775 hb
    have BK776:=A_ hbox
    have GW776:=gw_ w hg
    have GE776:=GW776
    replace HB:=b1_ hb
    have NB765_776:=gN_ BK765 hg
    have NB776_765:=gP_ BK765 hg
    replace BK765:=bb_ BK765 hb
    have NB766_776:=gN_ BK766 hg
    have NB776_766:=gP_ BK766 hg
    replace BK766:=bb_ BK766 hb
    clear hb hbox hg
    refine hK.out _ _ ⟨cz0_ BK765,cz1_ BK765⟩ (fun hHeld=>?_)
    clear hK K
    refine no_ (some 3) ?_
    exact norm_ (by simp only [putAll,Act.put,sA_,sB_,sC_]) (hCont (.slice Ao8 t767.length co8,v771,v774,gb776) _ ⟨hHeld,(rw_ (Kd.R_mono HO769.out (fun _ hk=>⟨hk.1.2,hk.2⟩))),(rw_ (Kd.R_mono HO772.out (fun _ hk=>⟨hk.2,hk.1⟩))),(rw_ (Kd.R_mono HO775.out (fun _ hk=>⟨hk.2,hk.1⟩))),(kk_ BK765),(kk_ BK766),(kk_ BK776),GW776.out,GE776.out,NB765_776.out,NB776_765.out,NB766_776.out,NB776_766.out,hB_⟩)
   ·skip
    refine box_step ?hg (N:=3) ?hd (cs:=#[.slice none 0 0,.slice none 0 0]) (t:=25) ?hr ?_;(case hd=>rfl);(case hg=>rfl);(case hr=>first | (go_simp;done) | (go_simp;rfl))
    intro gb776 hg w8 hbox hb
    replace HO769:=rb_ HO769 hb
    have BK776:=A_ hbox
    have GW776:=gw_ w hg
    have GE776:=GW776
    replace HB:=b1_ hb
    have NB765_776:=gN_ BK765 hg
    have NB776_765:=gP_ BK765 hg
    replace BK765:=bb_ BK765 hb
    have NB766_776:=gN_ BK766 hg
    have NB776_766:=gP_ BK766 hg
    replace BK766:=bb_ BK766 hb
    clear hb hbox hg
    obtain ⟨Ao9,co9,eo9⟩:=Kd.R_slice HO769.out
    (first|subst eo9|(injection eo9 with a_ b_ c_;have a_:=a_.symm;have c_:=c_.symm;clear b_;subst a_;subst c_))
    refine hK.out _ _ ⟨cz0_ BK765,cz1_ BK765⟩ (fun hHeld=>?_)
    clear hK K
    refine no_ (some 3) ?_
    refine one_ (i:=3) (N:=some 9) (bl_ 6 31) rfl rfl (by kernel_rfl) (by decide) (fun K hK=>?_)
    refine gO_ Try.func119 #[.agg #[.slice A0_0 l0_0.length c0_0,.slice A0_1 l0_1.length c0_1],.slice Ao9 t767.length co9] (by rfl) rfl rfl qa_ ?_
    with_reducible refine (Z40.calls k _ _ l0_0 _ _ l0_1 _ _ t767 t770 t773 _ (cb_ HR0_0) HC0_0.out (cb_ HR0_1) HC0_1.out (cr_ HO769) ((Kd.R_reads' HO769.out).2.1) A3.out).mono ?_
    rintro e w10 ⟨v771,v774,rfl,ho0,ho1,hb⟩
    refine ⟨_,rfl,?_⟩
    have HO772:=A_ (rE_ (Kd.R_new' ho0 (Kd.R_lt (rr_ HO769))) (bF_ hB_))
    have HO775:=A_ (rE_ (Kd.R_new' ho1 (Kd.R_lt (rr_ HO769))) (bF_ hB_))
    replace HO769:=A_ (Kd.R_mono (Kd.R_told (Kd.R_told (Kd.R_old (rr_ HO769) hb) (Kd.R_base ho0)) (Kd.R_base ho1)) (fun _ h_=>h_.1))
    replace BK765:=bb_ BK765 hb
    replace BK766:=bb_ BK766 hb
    replace BK776:=bb_ BK776 hb
    replace HB:=b1_ hb
    clear hb ho0 ho1
    refine hK.out _ _ ⟨cz0_ BK765,cz1_ BK765⟩ (fun hHeld=>?_)
    clear hK K
    refine no_ (some 9) ?_
    exact norm_ (by simp only [putAll,Act.put,sA_,sB_,sC_]) (hCont (.slice Ao9 t767.length co9,v771,v774,gb776) _ ⟨hHeld,(rw_ (Kd.R_mono HO769.out (fun _ hk=>⟨hk.1.2,hk.2⟩))),(rw_ (Kd.R_mono HO772.out (fun _ hk=>⟨hk.2,hk.1⟩))),(rw_ (Kd.R_mono HO775.out (fun _ hk=>⟨hk.2,hk.1⟩))),(kk_ BK765),(kk_ BK766),(kk_ BK776),GW776.out,GE776.out,NB765_776.out,NB776_765.out,NB766_776.out,NB776_766.out,hB_⟩)
  ·skip
   refine box_step ?hg (N:=3) ?hd (cs:=#[.slice none 0 0,.slice none 0 0]) (t:=25) ?hr ?_;(case hd=>rfl);(case hg=>rfl);(case hr=>first | (go_simp;done) | (go_simp;rfl))
   intro gb776 hg w7 hbox hb
   have BK776:=A_ hbox
   have GW776:=gw_ w hg
   have GE776:=GW776
   replace HB:=b1_ hb
   have NB765_776:=gN_ BK765 hg
   have NB776_765:=gP_ BK765 hg
   replace BK765:=bb_ BK765 hb
   have NB766_776:=gN_ BK766 hg
   have NB776_766:=gP_ BK766 hg
   replace BK766:=bb_ BK766 hb
   clear hb hbox hg
   refine hK.out _ _ ⟨cz0_ BK765,cz1_ BK765⟩ (fun hHeld=>?_)
   clear hK K
   refine no_ (some 3) ?_
   refine one_ (i:=2) (N:=some 8) (bl_ 6 23) rfl rfl (by kernel_rfl) (by decide) (fun K hK=>?_)
   refine gO_ Try.func120 #[.agg #[.slice A0_0 l0_0.length c0_0,.slice A0_1 l0_1.length c0_1],.int .i64 0] (by rfl) rfl rfl qa_ ?_
   with_reducible refine (Z52.calls k _ _ l0_0 _ _ l0_1 0 t767 _ (cb_ HR0_0) HC0_0.out (cb_ HR0_1) HC0_1.out A2.out).mono ?_
   rintro e w8 ⟨v768,rfl,ho0,hb⟩
   refine ⟨_,rfl,?_⟩
   have HO769:=rl_ w ho0
   replace BK765:=bb_ BK765 hb
   replace BK766:=bb_ BK766 hb
   replace BK776:=bb_ BK776 hb
   replace HB:=b1_ hb
   clear hb ho0
   obtain ⟨Ao9,co9,eo9⟩:=Kd.R_slice HO769.out
   (first|subst eo9|(injection eo9 with a_ b_ c_;have a_:=a_.symm;have c_:=c_.symm;clear b_;subst a_;subst c_))
   refine hK.out _ _ ⟨cz0_ BK765,cz1_ BK765⟩ (fun hHeld=>?_)
   clear hK K
   refine no_ (some 8) ?_
   refine one_ (i:=3) (N:=some 9) (bl_ 6 31) rfl rfl (by kernel_rfl) (by decide) (fun K hK=>?_)
   refine gO_ Try.func119 #[.agg #[.slice A0_0 l0_0.length c0_0,.slice A0_1 l0_1.length c0_1],.slice Ao9 t767.length co9] (by rfl) rfl rfl qa_ ?_
   with_reducible refine (Z40.calls k _ _ l0_0 _ _ l0_1 _ _ t767 t770 t773 _ (cb_ HR0_0) HC0_0.out (cb_ HR0_1) HC0_1.out (cr_ HO769) ((Kd.R_reads' HO769.out).2.1) A3.out).mono ?_
   rintro e w10 ⟨v771,v774,rfl,ho0,ho1,hb⟩
   refine ⟨_,rfl,?_⟩
   have HO772:=A_ (rE_ (Kd.R_new' ho0 (Kd.R_lt (rr_ HO769))) (bF_ hB_))
   have HO775:=A_ (rE_ (Kd.R_new' ho1 (Kd.R_lt (rr_ HO769))) (bF_ hB_))
   replace HO769:=A_ (Kd.R_mono (Kd.R_told (Kd.R_told (Kd.R_old (rr_ HO769) hb) (Kd.R_base ho0)) (Kd.R_base ho1)) (fun _ h_=>h_.1))
   replace BK765:=bb_ BK765 hb
   replace BK766:=bb_ BK766 hb
   replace BK776:=bb_ BK776 hb
   replace HB:=b1_ hb
   clear hb ho0 ho1
   refine hK.out _ _ ⟨cz0_ BK765,cz1_ BK765⟩ (fun hHeld=>?_)
   clear hK K
   refine no_ (some 9) ?_
   exact norm_ (by simp only [putAll,Act.put,sA_,sB_,sC_]) (hCont (.slice Ao9 t767.length co9,v771,v774,gb776) _ ⟨hHeld,(rw_ (Kd.R_mono HO769.out (fun _ hk=>⟨hk.1.2,hk.2⟩))),(rw_ (Kd.R_mono HO772.out (fun _ hk=>⟨hk.2,hk.1⟩))),(rw_ (Kd.R_mono HO775.out (fun _ hk=>⟨hk.2,hk.1⟩))),(kk_ BK765),(kk_ BK766),(kk_ BK776),GW776.out,GE776.out,NB765_776.out,NB776_765.out,NB766_776.out,NB776_766.out,hB_⟩)
 rintro ⟨v768,v771,v774,gb776⟩ w11 ⟨hS_,h0_,h1_,h2_,h3_,h4_,h5_,h6_,h7_,h8_,h9_,h10_,h11_,h12_⟩
 have n0_:Aside0 (Kd.R (Kd.int .i64) 3 w11 w.heap.size (fun k_=>some k_≠(v771:Value).ownBlock∧some k_≠(v774:Value).ownBlock) v768 t767):=⟨h0_⟩
 have n1_:Aside0 (Kd.R (Kd.int .i64) 3 w11 w.heap.size (fun k_=>some k_≠(v768:Value).ownBlock∧some k_≠(v774:Value).ownBlock) v771 t770):=⟨h1_⟩
 have n2_:Aside0 (Kd.R (Kd.int .i64) 3 w11 w.heap.size (fun k_=>some k_≠(v768:Value).ownBlock∧some k_≠(v771:Value).ownBlock) v774 t773):=⟨h2_⟩
 have n3_:Aside0 (w11.heap[gb765]? = some (.cells #[.slice A0_0 l0_0.length c0_0,.slice A0_1 l0_1.length c0_1] 25 (0,0))):=⟨h3_⟩
 have n4_:Aside0 (w11.heap[gb766]? = some (.cells #[.slice none 0 0,.slice none 0 0] 25 (0,0))):=⟨h4_⟩
 have n5_:Aside0 (w11.heap[gb776]? = some (.cells #[.slice none 0 0,.slice none 0 0] 25 (0,0))):=⟨h5_⟩
 have n6_:Aside0 (w.heap.size≤gb776):=⟨h6_⟩
 have n7_:Aside0 (w.heap.size≤gb776):=⟨h7_⟩
 have n8_:Aside0 (gb765≠gb776):=⟨h8_⟩
 have n9_:Aside0 (gb776≠gb765):=⟨h9_⟩
 have n10_:Aside0 (gb766≠gb776):=⟨h10_⟩
 have n11_:Aside0 (gb776≠gb766):=⟨h11_⟩
 have n12_:Aside0 (Below w.heap.size w w11):=⟨h12_⟩
 clear BK765
 clear BK766
 clear HB
 clear h0_ h1_ h2_ h3_ h4_ h5_ h6_ h7_ h8_ h9_ h10_ h11_ h12_
 have HO769:=n0_
 have HO772:=n1_
 have HO775:=n2_
 have BK765:=n3_
 have BK766:=n4_
 have BK776:=n5_
 have GW776:=n6_
 have GE776:=n7_
 have NB765_776:=n8_
 have NB776_765:=n9_
 have NB766_776:=n10_
 have NB776_766:=n11_
 have HB:=n12_
 clear n0_ n1_ n2_ n3_ n4_ n5_ n6_ n7_ n8_ n9_ n10_ n11_ n12_
 have hHeld:w11.cell? ⟨gb765,0,none⟩ = some (.slice A0_0 l0_0.length c0_0)∧w11.cell? ⟨gb765,1,none⟩ = some (.slice A0_1 l0_1.length c0_1):=hS_
 obtain ⟨Ao12,co12,eo12⟩:=Kd.R_slice HO772.out
 (first|subst eo12|(injection eo12 with a_ b_ c_;have a_:=a_.symm;have c_:=c_.symm;clear b_;subst a_;subst c_))
 obtain ⟨Ao14,co14,eo14⟩:=Kd.R_slice HO775.out
 (first|subst eo14|(injection eo14 with a_ b_ c_;have a_:=a_.symm;have c_:=c_.symm;clear b_;subst a_;subst c_))
 refine norm_ (a':=?_) ?_ ?_
 rotate_left
 ·simp only [putAll,Act.put,sA_,sB_,sC_]
  rfl
 refine one_ (i:=5) (N:=none) (bl_ 6 63) rfl rfl (by kernel_rfl) (by decide) (fun K hK=>?_)
 have hs13:w11.cell? ⟨gb776,0,none⟩ = some (.slice none 0 0):=cz0_ BK776
 have hfs13:=kD_ BK776.out 0
 have hns13_0:=NB765_776.out
 have hns13_1:=NB766_776.out
 have hms13_0:=NB776_765.out
 have hms13_1:=NB776_766.out
 have hs15:w11.cell? ⟨gb776,1,none⟩ = some (.slice none 0 0):=cz1_ BK776
 have hfs15:=kD_ BK776.out 1
 have hns15_0:=NB765_776.out
 have hns15_1:=NB766_776.out
 have hms15_0:=NB776_765.out
 have hms15_1:=NB776_766.out
 refine skip_ (w1:=?_) (by rfl) rfl ?_ ?_
 rotate_left
 ·go_simp
  rfl
 refine hK.out _ _ ⟨((cell_far (p:=⟨gb776,_,none⟩) NB765_776.out _).trans (((cell_far (p:=⟨gb776,_,none⟩) NB765_776.out _).trans (hHeld.1)))),((cell_far (p:=⟨gb776,_,none⟩) NB765_776.out _).trans (((cell_far (p:=⟨gb776,_,none⟩) NB765_776.out _).trans (hHeld.2))))⟩ (fun hHeld=>?_)
 clear hK K
 refine done_ (by kernel_rfl) ?_
 try go_wp2
 go_loopg [4] k (fun kq v4 w'=>∃ (x4_1:Int) (x777000_1:List Int) (x777001_1:List Int) (u777000:Value) (u777001:Value),v4 = .int .i64 x4_1∧Aside0 (Z51.l0 kq x4_1 l0_0 l0_1 x777000_1 x777001_1 = some (r1,r2))∧Aside0 (kq≤k)∧Aside0 (Kd.R (Kd.int .i64) 3 w' w.heap.size (fun k_=>some k_≠(u777001:Value).ownBlock) u777000 x777000_1)∧Aside0 (Kd.R (Kd.int .i64) 3 w' w.heap.size (fun k_=>some k_≠(u777000:Value).ownBlock) u777001 x777001_1)∧Aside0 (w'.heap[gb765]? = some (.cells #[(.slice A0_0 l0_0.length c0_0),(.slice A0_1 l0_1.length c0_1)] 25 (0,0)))∧Aside0 (w'.heap[gb766]? = some (.cells #[(.slice none 0 0),(.slice none 0 0)] 25 (0,0)))∧Aside0 (w'.heap[gb776]? = some (.cells #[u777000,u777001] 25 (0,0)))∧Aside0 (Below w.heap.size w w'))
 case atStart=>exact ⟨(1),(t770),(t773),(.slice Ao12 t770.length co12),(.slice Ao14 t773.length co14),qc_,H',⟨nA_ _⟩,⟨(rw_ (Kd.R_mono (fa_ HO772 BK776) (fun _ hk=>hk.2)))⟩,⟨(rw_ (Kd.R_mono (fa_ HO775 BK776) (fun _ hk=>hk.2)))⟩,⟨by (with_reducible repeat (first | refine kA_ ?_ _ | refine kB_ ?_ | refine kC_ ?_ _));refine blk_far ?_ NB765_776.out _;(with_reducible repeat (first | refine kA_ ?_ _ | refine kB_ ?_ | refine kC_ ?_ _));refine blk_far ?_ NB765_776.out _;(with_reducible repeat (first | refine kA_ ?_ _ | refine kB_ ?_ | refine kC_ ?_ _));exact BK765.out⟩,⟨by (with_reducible repeat (first | refine kA_ ?_ _ | refine kB_ ?_ | refine kC_ ?_ _));refine blk_far ?_ NB766_776.out _;(with_reducible repeat (first | refine kA_ ?_ _ | refine kB_ ?_ | refine kC_ ?_ _));refine blk_far ?_ NB766_776.out _;(with_reducible repeat (first | refine kA_ ?_ _ | refine kB_ ?_ | refine kC_ ?_ _));exact BK766.out⟩,⟨qp_⟩,⟨hB_⟩⟩
 case round =>
  clear H'
  obtain ⟨x4_1,x777000_1,x777001_1,u777000,u777001,rfl,HA,HK1,HO_777000,HO_777001,BK765,BK766,BK776,HB⟩:=hrel
  cases gk with
  | zero=>exact absurd HA.out (by simp [Z51.l0])
  | succ k1 =>
   have H:=HA.out
   clear HA
   simp only [Z51.l0] at H
   by_cases c16:x4_1 < (l0_0.length:Int)
   ·rw [if_pos c16] at H
    have c16b0:=oC_ c16
    clear c16
    obtain ⟨t777,A17,H⟩:=bi_ H
    obtain ⟨⟨t780,t783⟩,A18,H⟩:=bi_ H
    try dsimp only at H
    obtain ⟨t787,A19,H⟩:=bi_ H
    by_cases c20:t787 = true
    ·subst c20
     rw [if_pos rfl] at H
     have H':=A_ H
     clear H
     have hnb21:=NB765_766.out
     have hnc21:=NB766_765.out
     have hnb22:=NB765_776.out
     have hnc22:=NB776_765.out
     obtain ⟨hcz23_0,hcz23_1,hfz23_0,hfz23_1⟩:=c2_ BK765
     try go_wp2
     replace HO_777000:=A_ (rC_ HO_777000.out)
     replace HO_777001:=A_ (rC_ HO_777001.out)
     replace BK765:=A_ (kB_ BK765.out)
     replace BK766:=A_ (kB_ BK766.out)
     replace BK776:=A_ (kB_ BK776.out)
     replace HB:=A_ (bC_ HB.out)
     refine start_ (n:=7) (S:=fun w'=>w'.cell? ⟨gb765,0,none⟩ = some (.slice A0_0 l0_0.length c0_0)∧w'.cell? ⟨gb765,1,none⟩ = some (.slice A0_1 l0_1.length c0_1)) (ds:=[]) (bl_ 7 0) (by kernel_rfl) rfl (by kernel_rfl) ⟨cz0_ BK765,cz1_ BK765⟩ (fun hHeld=>?_)
     generalize wr.drew = w24 at HO_777000 HO_777001 BK765 BK766 BK776 HB hHeld ⊢
     refine pure_ (i:=2) (N:=some 19) (v:=?_) (a':=?_) (bl_ 7 4) rfl rfl (by kernel_rfl) (fun _ _ _ h=>h) (Or.inl ⟨by rfl,?_⟩) ?_ ?_
     rotate_left
     ·intro w'
      go_simp
      with_reducible rfl
     rotate_left
     ·simp only [Act.put,sA_,sB_,sC_,i64_w,i32_w]
      rfl
     refine take_ (i:=0) (N:=some 17) (v:=?_) (a':=?_) (bl_ 7 5) rfl rfl (by kernel_rfl) (fun _ _ _ h=>h) (Or.inl ⟨by rfl,?_⟩) hHeld ?_ ?_
     rotate_left
     ·rintro w' ⟨s0,s1⟩
      go_simp
      with_reducible rfl
     rotate_left
     ·simp only [Act.put,sA_,sB_,sC_,i64_w,i32_w]
      rfl
     refine take_ (i:=1) (N:=some 18) (v:=?_) (a':=?_) (bl_ 7 7) rfl rfl (by kernel_rfl) (fun _ _ _ h=>h) (Or.inl ⟨by rfl,?_⟩) hHeld ?_ ?_
     rotate_left
     ·rintro w' ⟨s0,s1⟩
      go_simp
      with_reducible rfl
     rotate_left
     ·simp only [Act.put,sA_,sB_,sC_,i64_w,i32_w]
      rfl
     refine join_ (σ:=Value × Value × Value × Nat) 1 (bl_ 7 63) (fun s_=>[(20,s_.1),(21,.agg #[s_.2.1,s_.2.2.1]),(5,.pointer (some ⟨s_.2.2.2,0,none⟩))]) (fun s_ w'=>(w'.cell? ⟨gb765,0,none⟩ = some (.slice A0_0 l0_0.length c0_0)∧w'.cell? ⟨gb765,1,none⟩ = some (.slice A0_1 l0_1.length c0_1))∧(Kd.R (Kd.int .i64) 3 w' w.heap.size (fun k_=>some k_≠(s_.2.1:Value).ownBlock∧some k_≠(s_.2.2.1:Value).ownBlock∧some k_≠(u777000:Value).ownBlock∧some k_≠(u777001:Value).ownBlock) s_.1 t777)∧(Kd.R (Kd.int .i64) 3 w' w.heap.size (fun k_=>some k_≠(s_.1:Value).ownBlock∧some k_≠(s_.2.2.1:Value).ownBlock∧some k_≠(u777000:Value).ownBlock∧some k_≠(u777001:Value).ownBlock) s_.2.1 t780)∧(Kd.R (Kd.int .i64) 3 w' w.heap.size (fun k_=>some k_≠(s_.1:Value).ownBlock∧some k_≠(s_.2.1:Value).ownBlock∧some k_≠(u777000:Value).ownBlock∧some k_≠(u777001:Value).ownBlock) s_.2.2.1 t783)∧(Kd.R (Kd.int .i64) 3 w' w.heap.size (fun k_=>some k_≠(s_.1:Value).ownBlock∧some k_≠(s_.2.1:Value).ownBlock∧some k_≠(s_.2.2.1:Value).ownBlock∧some k_≠(u777001:Value).ownBlock) u777000 x777000_1)∧(Kd.R (Kd.int .i64) 3 w' w.heap.size (fun k_=>some k_≠(s_.1:Value).ownBlock∧some k_≠(s_.2.1:Value).ownBlock∧some k_≠(s_.2.2.1:Value).ownBlock∧some k_≠(u777000:Value).ownBlock) u777001 x777001_1)∧(w'.heap[gb765]? = some (.cells #[.slice A0_0 l0_0.length c0_0,.slice A0_1 l0_1.length c0_1] 25 (0,0)))∧(w'.heap[gb766]? = some (.cells #[.slice none 0 0,.slice none 0 0] 25 (0,0)))∧(w'.heap[gb776]? = some (.cells #[u777000,u777001] 25 (0,0)))∧(w'.heap[s_.2.2.2]? = some (.cells #[.slice none 0 0,.slice none 0 0] 25 (0,0)))∧(w.heap.size≤s_.2.2.2)∧(w.heap.size≤s_.2.2.2)∧(gb765≠s_.2.2.2)∧(s_.2.2.2≠gb765)∧(gb766≠s_.2.2.2)∧(s_.2.2.2≠gb766)∧(gb776≠s_.2.2.2)∧(s_.2.2.2≠gb776)∧(Below w.heap.size w w')) ?_ ?_
     rotate_left
     ·intro hCont
      refine two_ (i:=3) (j:=5) (Ni:=some 20) (Nj:=some 5) (bl_ 7 15) (bl_ 7 39) rfl rfl rfl rfl (by kernel_rfl) (by decide) (by decide) (fun K hK=>?_) (fun K hK=>?_)
      ·skip
       refine gO_ Try.func120 #[.agg #[.slice A0_0 l0_0.length c0_0,.slice A0_1 l0_1.length c0_1],.int .i64 x4_1] (by rfl) rfl rfl qa_ ?_
       with_reducible refine (Z52.calls k1 _ _ l0_0 _ _ l0_1 x4_1 t777 _ (cb_ HR0_0) HC0_0.out (cb_ HR0_1) HC0_1.out A17.out).mono ?_
       rintro e w25 ⟨v778,rfl,ho0,hb⟩
       refine ⟨_,rfl,?_⟩
       have HO779:=A_ (rE_ (Kd.R_new' (Kd.R_new' ho0 (Kd.R_lt (rr_ HO_777000))) (Kd.R_lt (rr_ HO_777001))) (bF_ hB_))
       replace HO_777000:=A_ (Kd.R_elder' (rr_ HO_777000) (Kd.R_base ho0) hb)
       replace HO_777001:=A_ (Kd.R_elder' (rr_ HO_777001) (Kd.R_base ho0) hb)
       replace BK765:=bb_ BK765 hb
       replace BK766:=bb_ BK766 hb
       replace BK776:=bb_ BK776 hb
       replace HB:=b1_ hb
       clear hb ho0
       obtain ⟨Ao26,co26,eo26⟩:=Kd.R_slice HO779.out
       (first|subst eo26|(injection eo26 with a_ b_ c_;have a_:=a_.symm;have c_:=c_.symm;clear b_;subst a_;subst c_))
       refine hK.out _ _ ⟨cz0_ BK765,cz1_ BK765⟩ (fun hHeld=>?_)
       clear hK K
       refine no_ (some 20) ?_
       refine two_ (i:=4) (j:=5) (Ni:=some 21) (Nj:=some 5) (bl_ 7 31) (bl_ 7 47) rfl rfl rfl rfl (by kernel_rfl) (by decide) (by decide) (fun K hK=>?_) (fun K hK=>?_)
       ·skip
        refine gO_ Try.func119 #[.agg #[.slice A0_0 l0_0.length c0_0,.slice A0_1 l0_1.length c0_1],.slice Ao26 t777.length co26] (by rfl) rfl rfl qa_ ?_
        with_reducible refine (Z40.calls k1 _ _ l0_0 _ _ l0_1 _ _ t777 t780 t783 _ (cb_ HR0_0) HC0_0.out (cb_ HR0_1) HC0_1.out (cr_ HO779) ((Kd.R_reads' HO779.out).2.1) A18.out).mono ?_
        rintro e w27 ⟨v781,v784,rfl,ho0,ho1,hb⟩
        refine ⟨_,rfl,?_⟩
        have HO782:=A_ (rE_ (Kd.R_new' (Kd.R_new' (Kd.R_new' ho0 (Kd.R_lt (rr_ HO_777000))) (Kd.R_lt (rr_ HO_777001))) (Kd.R_lt (rr_ HO779))) (bF_ hB_))
        have HO785:=A_ (rE_ (Kd.R_new' (Kd.R_new' (Kd.R_new' ho1 (Kd.R_lt (rr_ HO_777000))) (Kd.R_lt (rr_ HO_777001))) (Kd.R_lt (rr_ HO779))) (bF_ hB_))
        replace HO_777000:=A_ (Kd.R_mono (Kd.R_told (Kd.R_told (Kd.R_old (rr_ HO_777000) hb) (Kd.R_base ho0)) (Kd.R_base ho1)) (fun _ h_=>h_.1))
        replace HO_777001:=A_ (Kd.R_mono (Kd.R_told (Kd.R_told (Kd.R_old (rr_ HO_777001) hb) (Kd.R_base ho0)) (Kd.R_base ho1)) (fun _ h_=>h_.1))
        replace HO779:=A_ (Kd.R_mono (Kd.R_told (Kd.R_told (Kd.R_old (rr_ HO779) hb) (Kd.R_base ho0)) (Kd.R_base ho1)) (fun _ h_=>h_.1))
        replace BK765:=bb_ BK765 hb
        replace BK766:=bb_ BK766 hb
        replace BK776:=bb_ BK776 hb
        replace HB:=b1_ hb
        clear hb ho0 ho1
        refine hK.out _ _ ⟨cz0_ BK765,cz1_ BK765⟩ (fun hHeld=>?_)
        clear hK K
        refine no_ (some 21) ?_
        refine one_ (i:=5) (N:=some 5) (bl_ 7 63) rfl rfl (by kernel_rfl) (by decide) (fun K hK=>?_)
        refine box_step ?hg (N:=5) ?hd (cs:=#[.slice none 0 0,.slice none 0 0]) (t:=25) ?hr ?_;(case hd=>rfl);(case hg=>rfl);(case hr=>first | (go_simp;done) | (go_simp;rfl))
        intro gb786 hg w28 hbox hb
        replace HO_777000:=rb_ HO_777000 hb
        replace HO_777001:=rb_ HO_777001 hb
        replace HO779:=rb_ HO779 hb
        replace HO782:=rb_ HO782 hb
        replace HO785:=rb_ HO785 hb
        have BK786:=A_ hbox
        have GW786:=gw_ w hg
        have GE786:=GW786
        replace HB:=b1_ hb
        have NB765_786:=gN_ BK765 hg
        have NB786_765:=gP_ BK765 hg
        replace BK765:=bb_ BK765 hb
        have NB766_786:=gN_ BK766 hg
        have NB786_766:=gP_ BK766 hg
        replace BK766:=bb_ BK766 hb
        have NB776_786:=gN_ BK776 hg
        have NB786_776:=gP_ BK776 hg
        replace BK776:=bb_ BK776 hb
        clear hb hbox hg
        refine hK.out _ _ ⟨cz0_ BK765,cz1_ BK765⟩ (fun hHeld=>?_)
        clear hK K
        refine no_ (some 5) ?_
        exact norm_ (by simp only [putAll,Act.put,sA_,sB_,sC_]) (hCont (.slice Ao26 t777.length co26,v781,v784,gb786) _ ⟨hHeld,(rw_ (Kd.R_mono HO779.out (fun _ hk=>⟨hk.1.2,⟨hk.2,⟨hk.1.1.1.2,hk.1.1.2⟩⟩⟩))),(rw_ (Kd.R_mono HO782.out (fun _ hk=>⟨hk.2,⟨hk.1.1.1,⟨hk.1.1.2,hk.1.2⟩⟩⟩))),(rw_ (Kd.R_mono HO785.out (fun _ hk=>⟨hk.2,⟨hk.1.1.1,⟨hk.1.1.2,hk.1.2⟩⟩⟩))),(rw_ (Kd.R_mono HO_777000.out (fun _ hk=>⟨hk.1.1.2,⟨hk.1.2,⟨hk.2,hk.1.1.1⟩⟩⟩))),(rw_ (Kd.R_mono HO_777001.out (fun _ hk=>⟨hk.1.1.2,⟨hk.1.2,⟨hk.2,hk.1.1.1⟩⟩⟩))),(kk_ BK765),(kk_ BK766),(kk_ BK776),(kk_ BK786),GW786.out,GE786.out,NB765_786.out,NB786_765.out,NB766_786.out,NB786_766.out,NB776_786.out,NB786_776.out,hB_⟩)
       ·skip
        refine box_step ?hg (N:=5) ?hd (cs:=#[.slice none 0 0,.slice none 0 0]) (t:=25) ?hr ?_;(case hd=>rfl);(case hg=>rfl);(case hr=>first | (go_simp;done) | (go_simp;rfl))
        intro gb786 hg w26 hbox hb
        replace HO_777000:=rb_ HO_777000 hb
        replace HO_777001:=rb_ HO_777001 hb
        replace HO779:=rb_ HO779 hb
        have BK786:=A_ hbox
        have GW786:=gw_ w hg
        have GE786:=GW786
        replace HB:=b1_ hb
        have NB765_786:=gN_ BK765 hg
        have NB786_765:=gP_ BK765 hg
        replace BK765:=bb_ BK765 hb
        have NB766_786:=gN_ BK766 hg
        have NB786_766:=gP_ BK766 hg
        replace BK766:=bb_ BK766 hb
        have NB776_786:=gN_ BK776 hg
        have NB786_776:=gP_ BK776 hg
        replace BK776:=bb_ BK776 hb
        clear hb hbox hg
        obtain ⟨Ao27,co27,eo27⟩:=Kd.R_slice HO779.out
        (first|subst eo27|(injection eo27 with a_ b_ c_;have a_:=a_.symm;have c_:=c_.symm;clear b_;subst a_;subst c_))
        refine hK.out _ _ ⟨cz0_ BK765,cz1_ BK765⟩ (fun hHeld=>?_)
        clear hK K
        refine no_ (some 5) ?_
        refine one_ (i:=4) (N:=some 21) (bl_ 7 63) rfl rfl (by kernel_rfl) (by decide) (fun K hK=>?_)
        refine gO_ Try.func119 #[.agg #[.slice A0_0 l0_0.length c0_0,.slice A0_1 l0_1.length c0_1],.slice Ao27 t777.length co27] (by rfl) rfl rfl qa_ ?_
        with_reducible refine (Z40.calls k1 _ _ l0_0 _ _ l0_1 _ _ t777 t780 t783 _ (cb_ HR0_0) HC0_0.out (cb_ HR0_1) HC0_1.out (cr_ HO779) ((Kd.R_reads' HO779.out).2.1) A18.out).mono ?_
        rintro e w28 ⟨v781,v784,rfl,ho0,ho1,hb⟩
        refine ⟨_,rfl,?_⟩
        have HO782:=A_ (rE_ (Kd.R_new' (Kd.R_new' (Kd.R_new' ho0 (Kd.R_lt (rr_ HO_777000))) (Kd.R_lt (rr_ HO_777001))) (Kd.R_lt (rr_ HO779))) (bF_ hB_))
        have HO785:=A_ (rE_ (Kd.R_new' (Kd.R_new' (Kd.R_new' ho1 (Kd.R_lt (rr_ HO_777000))) (Kd.R_lt (rr_ HO_777001))) (Kd.R_lt (rr_ HO779))) (bF_ hB_))
        replace HO_777000:=A_ (Kd.R_mono (Kd.R_told (Kd.R_told (Kd.R_old (rr_ HO_777000) hb) (Kd.R_base ho0)) (Kd.R_base ho1)) (fun _ h_=>h_.1))
        replace HO_777001:=A_ (Kd.R_mono (Kd.R_told (Kd.R_told (Kd.R_old (rr_ HO_777001) hb) (Kd.R_base ho0)) (Kd.R_base ho1)) (fun _ h_=>h_.1))
        replace HO779:=A_ (Kd.R_mono (Kd.R_told (Kd.R_told (Kd.R_old (rr_ HO779) hb) (Kd.R_base ho0)) (Kd.R_base ho1)) (fun _ h_=>h_.1))
        replace BK765:=bb_ BK765 hb
        replace BK766:=bb_ BK766 hb
        replace BK776:=bb_ BK776 hb
        replace BK786:=bb_ BK786 hb
        replace HB:=b1_ hb
        clear hb ho0 ho1
        refine hK.out _ _ ⟨cz0_ BK765,cz1_ BK765⟩ (fun hHeld=>?_)
        clear hK K
        refine no_ (some 21) ?_
        exact norm_ (by simp only [putAll,Act.put,sA_,sB_,sC_]) (hCont (.slice Ao27 t777.length co27,v781,v784,gb786) _ ⟨hHeld,(rw_ (Kd.R_mono HO779.out (fun _ hk=>⟨hk.1.2,⟨hk.2,⟨hk.1.1.1.2,hk.1.1.2⟩⟩⟩))),(rw_ (Kd.R_mono HO782.out (fun _ hk=>⟨hk.2,⟨hk.1.1.1,⟨hk.1.1.2,hk.1.2⟩⟩⟩))),(rw_ (Kd.R_mono HO785.out (fun _ hk=>⟨hk.2,⟨hk.1.1.1,⟨hk.1.1.2,hk.1.2⟩⟩⟩))),(rw_ (Kd.R_mono HO_777000.out (fun _ hk=>⟨hk.1.1.2,⟨hk.1.2,⟨hk.2,hk.1.1.1⟩⟩⟩))),(rw_ (Kd.R_mono HO_777001.out (fun _ hk=>⟨hk.1.1.2,⟨hk.1.2,⟨hk.2,hk.1.1.1⟩⟩⟩))),(kk_ BK765),(kk_ BK766),(kk_ BK776),(kk_ BK786),GW786.out,GE786.out,NB765_786.out,NB786_765.out,NB766_786.out,NB786_766.out,NB776_786.out,NB786_776.out,hB_⟩)
      ·skip
       refine box_step ?hg (N:=5) ?hd (cs:=#[.slice none 0 0,.slice none 0 0]) (t:=25) ?hr ?_;(case hd=>rfl);(case hg=>rfl);(case hr=>first | (go_simp;done) | (go_simp;rfl))
       intro gb786 hg w25 hbox hb
       replace HO_777000:=rb_ HO_777000 hb
       replace HO_777001:=rb_ HO_777001 hb
       have BK786:=A_ hbox
       have GW786:=gw_ w hg
       have GE786:=GW786
       replace HB:=b1_ hb
       have NB765_786:=gN_ BK765 hg
       have NB786_765:=gP_ BK765 hg
       replace BK765:=bb_ BK765 hb
       have NB766_786:=gN_ BK766 hg
       have NB786_766:=gP_ BK766 hg
       replace BK766:=bb_ BK766 hb
       have NB776_786:=gN_ BK776 hg
       have NB786_776:=gP_ BK776 hg
       replace BK776:=bb_ BK776 hb
       clear hb hbox hg
       refine hK.out _ _ ⟨cz0_ BK765,cz1_ BK765⟩ (fun hHeld=>?_)
       clear hK K
       refine no_ (some 5) ?_
       refine one_ (i:=3) (N:=some 20) (bl_ 7 47) rfl rfl (by kernel_rfl) (by decide) (fun K hK=>?_)
       refine gO_ Try.func120 #[.agg #[.slice A0_0 l0_0.length c0_0,.slice A0_1 l0_1.length c0_1],.int .i64 x4_1] (by rfl) rfl rfl qa_ ?_
       with_reducible refine (Z52.calls k1 _ _ l0_0 _ _ l0_1 x4_1 t777 _ (cb_ HR0_0) HC0_0.out (cb_ HR0_1) HC0_1.out A17.out).mono ?_
       rintro e w26 ⟨v778,rfl,ho0,hb⟩
       refine ⟨_,rfl,?_⟩
       have HO779:=A_ (rE_ (Kd.R_new' (Kd.R_new' ho0 (Kd.R_lt (rr_ HO_777000))) (Kd.R_lt (rr_ HO_777001))) (bF_ hB_))
       replace HO_777000:=A_ (Kd.R_elder' (rr_ HO_777000) (Kd.R_base ho0) hb)
       replace HO_777001:=A_ (Kd.R_elder' (rr_ HO_777001) (Kd.R_base ho0) hb)
       replace BK765:=bb_ BK765 hb
       replace BK766:=bb_ BK766 hb
       replace BK776:=bb_ BK776 hb
       replace BK786:=bb_ BK786 hb
       replace HB:=b1_ hb
       clear hb ho0
       obtain ⟨Ao27,co27,eo27⟩:=Kd.R_slice HO779.out
       (first|subst eo27|(injection eo27 with a_ b_ c_;have a_:=a_.symm;have c_:=c_.symm;clear b_;subst a_;subst c_))
       refine hK.out _ _ ⟨cz0_ BK765,cz1_ BK765⟩ (fun hHeld=>?_)
       clear hK K
       refine no_ (some 20) ?_
       refine one_ (i:=4) (N:=some 21) (bl_ 7 63) rfl rfl (by kernel_rfl) (by decide) (fun K hK=>?_)
       refine gO_ Try.func119 #[.agg #[.slice A0_0 l0_0.length c0_0,.slice A0_1 l0_1.length c0_1],.slice Ao27 t777.length co27] (by rfl) rfl rfl qa_ ?_
       with_reducible refine (Z40.calls k1 _ _ l0_0 _ _ l0_1 _ _ t777 t780 t783 _ (cb_ HR0_0) HC0_0.out (cb_ HR0_1) HC0_1.out (cr_ HO779) ((Kd.R_reads' HO779.out).2.1) A18.out).mono ?_
       rintro e w28 ⟨v781,v784,rfl,ho0,ho1,hb⟩
       refine ⟨_,rfl,?_⟩
       have HO782:=A_ (rE_ (Kd.R_new' (Kd.R_new' (Kd.R_new' ho0 (Kd.R_lt (rr_ HO_777000))) (Kd.R_lt (rr_ HO_777001))) (Kd.R_lt (rr_ HO779))) (bF_ hB_))
       have HO785:=A_ (rE_ (Kd.R_new' (Kd.R_new' (Kd.R_new' ho1 (Kd.R_lt (rr_ HO_777000))) (Kd.R_lt (rr_ HO_777001))) (Kd.R_lt (rr_ HO779))) (bF_ hB_))
       replace HO_777000:=A_ (Kd.R_mono (Kd.R_told (Kd.R_told (Kd.R_old (rr_ HO_777000) hb) (Kd.R_base ho0)) (Kd.R_base ho1)) (fun _ h_=>h_.1))
       replace HO_777001:=A_ (Kd.R_mono (Kd.R_told (Kd.R_told (Kd.R_old (rr_ HO_777001) hb) (Kd.R_base ho0)) (Kd.R_base ho1)) (fun _ h_=>h_.1))
       replace HO779:=A_ (Kd.R_mono (Kd.R_told (Kd.R_told (Kd.R_old (rr_ HO779) hb) (Kd.R_base ho0)) (Kd.R_base ho1)) (fun _ h_=>h_.1))
       replace BK765:=bb_ BK765 hb
       replace BK766:=bb_ BK766 hb
       replace BK776:=bb_ BK776 hb
       replace BK786:=bb_ BK786 hb
       replace HB:=b1_ hb
       clear hb ho0 ho1
       refine hK.out _ _ ⟨cz0_ BK765,cz1_ BK765⟩ (fun hHeld=>?_)
       clear hK K
       refine no_ (some 21) ?_
       exact norm_ (by simp only [putAll,Act.put,sA_,sB_,sC_]) (hCont (.slice Ao27 t777.length co27,v781,v784,gb786) _ ⟨hHeld,(rw_ (Kd.R_mono HO779.out (fun _ hk=>⟨hk.1.2,⟨hk.2,⟨hk.1.1.1.2,hk.1.1.2⟩⟩⟩))),(rw_ (Kd.R_mono HO782.out (fun _ hk=>⟨hk.2,⟨hk.1.1.1,⟨hk.1.1.2,hk.1.2⟩⟩⟩))),(rw_ (Kd.R_mono HO785.out (fun _ hk=>⟨hk.2,⟨hk.1.1.1,⟨hk.1.1.2,hk.1.2⟩⟩⟩))),(rw_ (Kd.R_mono HO_777000.out (fun _ hk=>⟨hk.1.1.2,⟨hk.1.2,⟨hk.2,hk.1.1.1⟩⟩⟩))),(rw_ (Kd.R_mono HO_777001.out (fun _ hk=>⟨hk.1.1.2,⟨hk.1.2,⟨hk.2,hk.1.1.1⟩⟩⟩))),(kk_ BK765),(kk_ BK766),(kk_ BK776),(kk_ BK786),GW786.out,GE786.out,NB765_786.out,NB786_765.out,NB766_786.out,NB786_766.out,NB776_786.out,NB786_776.out,hB_⟩)
     rintro ⟨v778,v781,v784,gb786⟩ w29 ⟨hS_,h0_,h1_,h2_,h3_,h4_,h5_,h6_,h7_,h8_,h9_,h10_,h11_,h12_,h13_,h14_,h15_,h16_,h17_⟩
     have n0_:Aside0 (Kd.R (Kd.int .i64) 3 w29 w.heap.size (fun k_=>some k_≠(v781:Value).ownBlock∧some k_≠(v784:Value).ownBlock∧some k_≠(u777000:Value).ownBlock∧some k_≠(u777001:Value).ownBlock) v778 t777):=⟨h0_⟩
     have n1_:Aside0 (Kd.R (Kd.int .i64) 3 w29 w.heap.size (fun k_=>some k_≠(v778:Value).ownBlock∧some k_≠(v784:Value).ownBlock∧some k_≠(u777000:Value).ownBlock∧some k_≠(u777001:Value).ownBlock) v781 t780):=⟨h1_⟩
     have n2_:Aside0 (Kd.R (Kd.int .i64) 3 w29 w.heap.size (fun k_=>some k_≠(v778:Value).ownBlock∧some k_≠(v781:Value).ownBlock∧some k_≠(u777000:Value).ownBlock∧some k_≠(u777001:Value).ownBlock) v784 t783):=⟨h2_⟩
     have n3_:Aside0 (Kd.R (Kd.int .i64) 3 w29 w.heap.size (fun k_=>some k_≠(v778:Value).ownBlock∧some k_≠(v781:Value).ownBlock∧some k_≠(v784:Value).ownBlock∧some k_≠(u777001:Value).ownBlock) u777000 x777000_1):=⟨h3_⟩
     have n4_:Aside0 (Kd.R (Kd.int .i64) 3 w29 w.heap.size (fun k_=>some k_≠(v778:Value).ownBlock∧some k_≠(v781:Value).ownBlock∧some k_≠(v784:Value).ownBlock∧some k_≠(u777000:Value).ownBlock) u777001 x777001_1):=⟨h4_⟩
     have n5_:Aside0 (w29.heap[gb765]? = some (.cells #[.slice A0_0 l0_0.length c0_0,.slice A0_1 l0_1.length c0_1] 25 (0,0))):=⟨h5_⟩
     have n6_:Aside0 (w29.heap[gb766]? = some (.cells #[.slice none 0 0,.slice none 0 0] 25 (0,0))):=⟨h6_⟩
     have n7_:Aside0 (w29.heap[gb776]? = some (.cells #[u777000,u777001] 25 (0,0))):=⟨h7_⟩
     have n8_:Aside0 (w29.heap[gb786]? = some (.cells #[.slice none 0 0,.slice none 0 0] 25 (0,0))):=⟨h8_⟩
     have n9_:Aside0 (w.heap.size≤gb786):=⟨h9_⟩
     have n10_:Aside0 (w.heap.size≤gb786):=⟨h10_⟩
     have n11_:Aside0 (gb765≠gb786):=⟨h11_⟩
     have n12_:Aside0 (gb786≠gb765):=⟨h12_⟩
     have n13_:Aside0 (gb766≠gb786):=⟨h13_⟩
     have n14_:Aside0 (gb786≠gb766):=⟨h14_⟩
     have n15_:Aside0 (gb776≠gb786):=⟨h15_⟩
     have n16_:Aside0 (gb786≠gb776):=⟨h16_⟩
     have n17_:Aside0 (Below w.heap.size w w29):=⟨h17_⟩
     clear HO_777000
     clear HO_777001
     clear BK765
     clear BK766
     clear BK776
     clear HB
     clear h0_ h1_ h2_ h3_ h4_ h5_ h6_ h7_ h8_ h9_ h10_ h11_ h12_ h13_ h14_ h15_ h16_ h17_
     have HO779:=n0_
     have HO782:=n1_
     have HO785:=n2_
     have HO_777000:=n3_
     have HO_777001:=n4_
     have BK765:=n5_
     have BK766:=n6_
     have BK776:=n7_
     have BK786:=n8_
     have GW786:=n9_
     have GE786:=n10_
     have NB765_786:=n11_
     have NB786_765:=n12_
     have NB766_786:=n13_
     have NB786_766:=n14_
     have NB776_786:=n15_
     have NB786_776:=n16_
     have HB:=n17_
     clear n0_ n1_ n2_ n3_ n4_ n5_ n6_ n7_ n8_ n9_ n10_ n11_ n12_ n13_ n14_ n15_ n16_ n17_
     have hHeld:w29.cell? ⟨gb765,0,none⟩ = some (.slice A0_0 l0_0.length c0_0)∧w29.cell? ⟨gb765,1,none⟩ = some (.slice A0_1 l0_1.length c0_1):=hS_
     obtain ⟨Ao30,co30,eo30⟩:=Kd.R_slice HO782.out
     (first|subst eo30|(injection eo30 with a_ b_ c_;have a_:=a_.symm;have c_:=c_.symm;clear b_;subst a_;subst c_))
     obtain ⟨Ao32,co32,eo32⟩:=Kd.R_slice HO785.out
     (first|subst eo32|(injection eo32 with a_ b_ c_;have a_:=a_.symm;have c_:=c_.symm;clear b_;subst a_;subst c_))
     refine norm_ (a':=?_) ?_ ?_
     rotate_left
     ·simp only [putAll,Act.put,sA_,sB_,sC_]
      rfl
     refine one_ (i:=6) (N:=none) (bl_ 7 127) rfl rfl (by kernel_rfl) (by decide) (fun K hK=>?_)
     have hs31:w29.cell? ⟨gb786,0,none⟩ = some (.slice none 0 0):=cz0_ BK786
     have hfs31:=kD_ BK786.out 0
     have hns31_0:=NB765_786.out
     have hns31_1:=NB766_786.out
     have hns31_2:=NB776_786.out
     have hms31_0:=NB786_765.out
     have hms31_1:=NB786_766.out
     have hms31_2:=NB786_776.out
     have hs33:w29.cell? ⟨gb786,1,none⟩ = some (.slice none 0 0):=cz1_ BK786
     have hfs33:=kD_ BK786.out 1
     have hns33_0:=NB765_786.out
     have hns33_1:=NB766_786.out
     have hns33_2:=NB776_786.out
     have hms33_0:=NB786_765.out
     have hms33_1:=NB786_766.out
     have hms33_2:=NB786_776.out
     refine skip_ (w1:=?_) (by rfl) rfl ?_ ?_
     rotate_left
     ·go_simp
      rfl
     refine hK.out _ _ ⟨((cell_far (p:=⟨gb786,_,none⟩) NB765_786.out _).trans (((cell_far (p:=⟨gb786,_,none⟩) NB765_786.out _).trans (hHeld.1)))),((cell_far (p:=⟨gb786,_,none⟩) NB765_786.out _).trans (((cell_far (p:=⟨gb786,_,none⟩) NB765_786.out _).trans (hHeld.2))))⟩ (fun hHeld=>?_)
     clear hK K
     refine done_ (by kernel_rfl) ?_
     have hnb34:=NB786_765.out
     have hnc34:=NB765_786.out
     have hnb35:=NB786_766.out
     have hnc35:=NB766_786.out
     have hnb36:=NB786_776.out
     have hnc36:=NB776_786.out
     obtain ⟨hcz37_0,hcz37_1,hfz37_0,hfz37_1⟩:=c2_ BK786
     have hnb38:=NB776_766.out
     have hnc38:=NB766_776.out
     obtain ⟨hcz39_0,hcz39_1,hfz39_0,hfz39_1⟩:=c2_ BK776
     obtain ⟨Ao40,co40,eo40⟩:=Kd.R_slice HO_777000.out
     subst eo40
     obtain ⟨Ao41,co41,eo41⟩:=Kd.R_slice HO_777001.out
     subst eo41
     try go_wp2_with (first | ((with_reducible refine gA_ (f:=121) rfl ?_);refine gL_ (some 24) Try.func121 #[.agg #[.slice Ao30 t780.length co30,.slice Ao32 t783.length co32],.agg #[.slice Ao40 x777000_1.length co40,.slice Ao41 x777001_1.length co41]] rfl qa_ ?_;(with_reducible refine (Z39.calls k1 _ _ t780 _ _ t783 _ _ x777000_1 _ _ x777001_1 true _ ?side1 ?side2 ?side3 ?side4 ?side5 ?side6 ?side7 ?side8 A19.out).mono ?_);(case side1=>refine (Kd.R_reads' (e:=3) (base:=w.heap.size) (ok:=fun k_=>(some k_≠(v778:Value).ownBlock∧(some k_≠(.slice Ao32 t783.length co32:Value).ownBlock∧(some k_≠(.slice Ao40 x777000_1.length co40:Value).ownBlock∧some k_≠(.slice Ao41 x777001_1.length co41:Value).ownBlock)))) (n:=t780.length) (c:=co30) ?_).2.2;exact (rw_ (fa_ HO782 BK786)));(case side2=>exact (Kd.R_reads' HO782.out).2.1);(case side3=>refine (Kd.R_reads' (e:=3) (base:=w.heap.size) (ok:=fun k_=>(some k_≠(v778:Value).ownBlock∧(some k_≠(.slice Ao30 t780.length co30:Value).ownBlock∧(some k_≠(.slice Ao40 x777000_1.length co40:Value).ownBlock∧some k_≠(.slice Ao41 x777001_1.length co41:Value).ownBlock)))) (n:=t783.length) (c:=co32) ?_).2.2;exact (rw_ (fa_ HO785 BK786)));(case side4=>exact (Kd.R_reads' HO785.out).2.1);(case side5=>refine (Kd.R_reads' (e:=3) (base:=w.heap.size) (ok:=fun k_=>(some k_≠(v778:Value).ownBlock∧(some k_≠(.slice Ao30 t780.length co30:Value).ownBlock∧(some k_≠(.slice Ao32 t783.length co32:Value).ownBlock∧some k_≠(.slice Ao41 x777001_1.length co41:Value).ownBlock)))) (n:=x777000_1.length) (c:=co40) ?_).2.2;exact (rw_ (fa_ HO_777000 BK786)));(case side6=>exact (Kd.R_reads' HO_777000.out).2.1);(case side7=>refine (Kd.R_reads' (e:=3) (base:=w.heap.size) (ok:=fun k_=>(some k_≠(v778:Value).ownBlock∧(some k_≠(.slice Ao30 t780.length co30:Value).ownBlock∧(some k_≠(.slice Ao32 t783.length co32:Value).ownBlock∧some k_≠(.slice Ao40 x777000_1.length co40:Value).ownBlock)))) (n:=x777001_1.length) (c:=co41) ?_).2.2;exact (rw_ (fa_ HO_777001 BK786)));(case side8=>exact (Kd.R_reads' HO_777001.out).2.1);rintro e w42 ⟨rfl,hb⟩;refine ⟨_,rfl,?_⟩;replace HO_777000:=A_ (rD_ (rw_ (fa_ HO_777000 BK786)) hb);replace HO_777001:=A_ (rD_ (rw_ (fa_ HO_777001 BK786)) hb);replace HO779:=A_ (rD_ (rw_ (fa_ HO779 BK786)) hb);replace HO782:=A_ (rD_ (rw_ (fa_ HO782 BK786)) hb);replace HO785:=A_ (rD_ (rw_ (fa_ HO785 BK786)) hb);replace BK765:=A_ (kE_ (g:=gb765) (o:=.cells #[.slice A0_0 l0_0.length c0_0,.slice A0_1 l0_1.length c0_1] 25 (0,0)) (by (with_reducible repeat (first | refine kA_ ?_ _ | refine kB_ ?_ | refine kC_ ?_ _));refine blk_far ?_ NB765_786.out _;(with_reducible repeat (first | refine kA_ ?_ _ | refine kB_ ?_ | refine kC_ ?_ _));refine blk_far ?_ NB765_786.out _;(with_reducible repeat (first | refine kA_ ?_ _ | refine kB_ ?_ | refine kC_ ?_ _));exact BK765.out) hb);replace BK766:=A_ (kE_ (g:=gb766) (o:=.cells #[.slice none 0 0,.slice none 0 0] 25 (0,0)) (by (with_reducible repeat (first | refine kA_ ?_ _ | refine kB_ ?_ | refine kC_ ?_ _));refine blk_far ?_ NB766_786.out _;(with_reducible repeat (first | refine kA_ ?_ _ | refine kB_ ?_ | refine kC_ ?_ _));refine blk_far ?_ NB766_786.out _;(with_reducible repeat (first | refine kA_ ?_ _ | refine kB_ ?_ | refine kC_ ?_ _));exact BK766.out) hb);replace BK776:=A_ (kE_ (g:=gb776) (o:=.cells #[.slice Ao40 x777000_1.length co40,.slice Ao41 x777001_1.length co41] 25 (0,0)) (by (with_reducible repeat (first | refine kA_ ?_ _ | refine kB_ ?_ | refine kC_ ?_ _));refine blk_far ?_ NB776_786.out _;(with_reducible repeat (first | refine kA_ ?_ _ | refine kB_ ?_ | refine kC_ ?_ _));refine blk_far ?_ NB776_786.out _;(with_reducible repeat (first | refine kA_ ?_ _ | refine kB_ ?_ | refine kC_ ?_ _));exact BK776.out) hb);replace BK786:=A_ (kE_ (g:=gb786) (o:=.cells #[.slice Ao30 t780.length co30,.slice Ao32 t783.length co32] 25 (0,0)) qp_ hb);replace HB:=b1_ hb;clear hb;obtain ⟨hcz43_0,hcz43_1,hfz43_0,hfz43_1⟩:=c2_ BK786;obtain ⟨hcz44_0,hcz44_1,hfz44_0,hfz44_1⟩:=c2_ BK776))
     go_roundg k1
     case measure=>have:=HK1.out;omega
     case rel=>exact ⟨(wrap64 (x4_1 + 1)),(t780),(t783),(.slice Ao30 t780.length co30),(.slice Ao32 t783.length co32),qc_,H',⟨by have:=HK1.out;omega⟩,⟨(rw_ (Kd.R_mono (fa_ HO782 BK776) (fun _ hk=>hk.2.1)))⟩,⟨(rw_ (Kd.R_mono (fa_ HO785 BK776) (fun _ hk=>hk.2.1)))⟩,⟨by (with_reducible repeat (first | refine kA_ ?_ _ | refine kB_ ?_ | refine kC_ ?_ _));refine blk_far ?_ NB765_776.out _;(with_reducible repeat (first | refine kA_ ?_ _ | refine kB_ ?_ | refine kC_ ?_ _));refine blk_far ?_ NB765_776.out _;(with_reducible repeat (first | refine kA_ ?_ _ | refine kB_ ?_ | refine kC_ ?_ _));exact BK765.out⟩,⟨by (with_reducible repeat (first | refine kA_ ?_ _ | refine kB_ ?_ | refine kC_ ?_ _));refine blk_far ?_ NB766_776.out _;(with_reducible repeat (first | refine kA_ ?_ _ | refine kB_ ?_ | refine kC_ ?_ _));refine blk_far ?_ NB766_776.out _;(with_reducible repeat (first | refine kA_ ?_ _ | refine kB_ ?_ | refine kC_ ?_ _));exact BK766.out⟩,⟨qp_⟩,⟨hB_⟩⟩
    ·replace c20:=Bool.eq_false_iff.mpr c20
     subst c20
     have H1:(Z51.l0 k1 (wrap64 (x4_1 + 1)) l0_0 l0_1 x777000_1 x777001_1) = some (r1,r2):=by rw [if_neg (show ¬ (false = true) by decide)] at H;exact H
     clear H
     have H:=H1
     clear H1
     have H':=A_ H
     clear H
     have hnb45:=NB765_766.out
     have hnc45:=NB766_765.out
     have hnb46:=NB765_776.out
     have hnc46:=NB776_765.out
     obtain ⟨hcz47_0,hcz47_1,hfz47_0,hfz47_1⟩:=c2_ BK765
     try go_wp2
     replace HO_777000:=A_ (rC_ HO_777000.out)
     replace HO_777001:=A_ (rC_ HO_777001.out)
     replace BK765:=A_ (kB_ BK765.out)
     replace BK766:=A_ (kB_ BK766.out)
     replace BK776:=A_ (kB_ BK776.out)
     replace HB:=A_ (bC_ HB.out)
     refine start_ (n:=7) (S:=fun w'=>w'.cell? ⟨gb765,0,none⟩ = some (.slice A0_0 l0_0.length c0_0)∧w'.cell? ⟨gb765,1,none⟩ = some (.slice A0_1 l0_1.length c0_1)) (ds:=[]) (bl_ 7 0) (by kernel_rfl) rfl (by kernel_rfl) ⟨cz0_ BK765,cz1_ BK765⟩ (fun hHeld=>?_)
     generalize wr.drew = w48 at HO_777000 HO_777001 BK765 BK766 BK776 HB hHeld ⊢
     refine pure_ (i:=2) (N:=some 19) (v:=?_) (a':=?_) (bl_ 7 4) rfl rfl (by kernel_rfl) (fun _ _ _ h=>h) (Or.inl ⟨by rfl,?_⟩) ?_ ?_
     rotate_left
     ·intro w'
      go_simp
      with_reducible rfl
     rotate_left
     ·simp only [Act.put,sA_,sB_,sC_,i64_w,i32_w]
      rfl
     refine take_ (i:=0) (N:=some 17) (v:=?_) (a':=?_) (bl_ 7 5) rfl rfl (by kernel_rfl) (fun _ _ _ h=>h) (Or.inl ⟨by rfl,?_⟩) hHeld ?_ ?_
     rotate_left
     ·rintro w' ⟨s0,s1⟩
      go_simp
      with_reducible rfl
     rotate_left
     ·simp only [Act.put,sA_,sB_,sC_,i64_w,i32_w]
      rfl
     refine take_ (i:=1) (N:=some 18) (v:=?_) (a':=?_) (bl_ 7 7) rfl rfl (by kernel_rfl) (fun _ _ _ h=>h) (Or.inl ⟨by rfl,?_⟩) hHeld ?_ ?_
     rotate_left
     ·rintro w' ⟨s0,s1⟩
      go_simp
      with_reducible rfl
     rotate_left
     ·simp only [Act.put,sA_,sB_,sC_,i64_w,i32_w]
      rfl
     refine join_ (σ:=Value × Value × Value × Nat) 1 (bl_ 7 63) (fun s_=>[(20,s_.1),(21,.agg #[s_.2.1,s_.2.2.1]),(5,.pointer (some ⟨s_.2.2.2,0,none⟩))]) (fun s_ w'=>(w'.cell? ⟨gb765,0,none⟩ = some (.slice A0_0 l0_0.length c0_0)∧w'.cell? ⟨gb765,1,none⟩ = some (.slice A0_1 l0_1.length c0_1))∧(Kd.R (Kd.int .i64) 3 w' w.heap.size (fun k_=>some k_≠(s_.2.1:Value).ownBlock∧some k_≠(s_.2.2.1:Value).ownBlock∧some k_≠(u777000:Value).ownBlock∧some k_≠(u777001:Value).ownBlock) s_.1 t777)∧(Kd.R (Kd.int .i64) 3 w' w.heap.size (fun k_=>some k_≠(s_.1:Value).ownBlock∧some k_≠(s_.2.2.1:Value).ownBlock∧some k_≠(u777000:Value).ownBlock∧some k_≠(u777001:Value).ownBlock) s_.2.1 t780)∧(Kd.R (Kd.int .i64) 3 w' w.heap.size (fun k_=>some k_≠(s_.1:Value).ownBlock∧some k_≠(s_.2.1:Value).ownBlock∧some k_≠(u777000:Value).ownBlock∧some k_≠(u777001:Value).ownBlock) s_.2.2.1 t783)∧(Kd.R (Kd.int .i64) 3 w' w.heap.size (fun k_=>some k_≠(s_.1:Value).ownBlock∧some k_≠(s_.2.1:Value).ownBlock∧some k_≠(s_.2.2.1:Value).ownBlock∧some k_≠(u777001:Value).ownBlock) u777000 x777000_1)∧(Kd.R (Kd.int .i64) 3 w' w.heap.size (fun k_=>some k_≠(s_.1:Value).ownBlock∧some k_≠(s_.2.1:Value).ownBlock∧some k_≠(s_.2.2.1:Value).ownBlock∧some k_≠(u777000:Value).ownBlock) u777001 x777001_1)∧(w'.heap[gb765]? = some (.cells #[.slice A0_0 l0_0.length c0_0,.slice A0_1 l0_1.length c0_1] 25 (0,0)))∧(w'.heap[gb766]? = some (.cells #[.slice none 0 0,.slice none 0 0] 25 (0,0)))∧(w'.heap[gb776]? = some (.cells #[u777000,u777001] 25 (0,0)))∧(w'.heap[s_.2.2.2]? = some (.cells #[.slice none 0 0,.slice none 0 0] 25 (0,0)))∧(w.heap.size≤s_.2.2.2)∧(w.heap.size≤s_.2.2.2)∧(gb765≠s_.2.2.2)∧(s_.2.2.2≠gb765)∧(gb766≠s_.2.2.2)∧(s_.2.2.2≠gb766)∧(gb776≠s_.2.2.2)∧(s_.2.2.2≠gb776)∧(Below w.heap.size w w')) ?_ ?_
     rotate_left
     ·intro hCont
      refine two_ (i:=3) (j:=5) (Ni:=some 20) (Nj:=some 5) (bl_ 7 15) (bl_ 7 39) rfl rfl rfl rfl (by kernel_rfl) (by decide) (by decide) (fun K hK=>?_) (fun K hK=>?_)
      ·skip
       refine gO_ Try.func120 #[.agg #[.slice A0_0 l0_0.length c0_0,.slice A0_1 l0_1.length c0_1],.int .i64 x4_1] (by rfl) rfl rfl qa_ ?_
       with_reducible refine (Z52.calls k1 _ _ l0_0 _ _ l0_1 x4_1 t777 _ (cb_ HR0_0) HC0_0.out (cb_ HR0_1) HC0_1.out A17.out).mono ?_
       rintro e w49 ⟨v778,rfl,ho0,hb⟩
       refine ⟨_,rfl,?_⟩
       have HO779:=A_ (rE_ (Kd.R_new' (Kd.R_new' ho0 (Kd.R_lt (rr_ HO_777000))) (Kd.R_lt (rr_ HO_777001))) (bF_ hB_))
       replace HO_777000:=A_ (Kd.R_elder' (rr_ HO_777000) (Kd.R_base ho0) hb)
       replace HO_777001:=A_ (Kd.R_elder' (rr_ HO_777001) (Kd.R_base ho0) hb)
       replace BK765:=bb_ BK765 hb
       replace BK766:=bb_ BK766 hb
       replace BK776:=bb_ BK776 hb
       replace HB:=b1_ hb
       clear hb ho0
       obtain ⟨Ao50,co50,eo50⟩:=Kd.R_slice HO779.out
       (first|subst eo50|(injection eo50 with a_ b_ c_;have a_:=a_.symm;have c_:=c_.symm;clear b_;subst a_;subst c_))
       refine hK.out _ _ ⟨cz0_ BK765,cz1_ BK765⟩ (fun hHeld=>?_)
       clear hK K
       refine no_ (some 20) ?_
       refine two_ (i:=4) (j:=5) (Ni:=some 21) (Nj:=some 5) (bl_ 7 31) (bl_ 7 47) rfl rfl rfl rfl (by kernel_rfl) (by decide) (by decide) (fun K hK=>?_) (fun K hK=>?_)
       ·skip
        refine gO_ Try.func119 #[.agg #[.slice A0_0 l0_0.length c0_0,.slice A0_1 l0_1.length c0_1],.slice Ao50 t777.length co50] (by rfl) rfl rfl qa_ ?_
        with_reducible refine (Z40.calls k1 _ _ l0_0 _ _ l0_1 _ _ t777 t780 t783 _ (cb_ HR0_0) HC0_0.out (cb_ HR0_1) HC0_1.out (cr_ HO779) ((Kd.R_reads' HO779.out).2.1) A18.out).mono ?_
        rintro e w51 ⟨v781,v784,rfl,ho0,ho1,hb⟩
        refine ⟨_,rfl,?_⟩
        have HO782:=A_ (rE_ (Kd.R_new' (Kd.R_new' (Kd.R_new' ho0 (Kd.R_lt (rr_ HO_777000))) (Kd.R_lt (rr_ HO_777001))) (Kd.R_lt (rr_ HO779))) (bF_ hB_))
        have HO785:=A_ (rE_ (Kd.R_new' (Kd.R_new' (Kd.R_new' ho1 (Kd.R_lt (rr_ HO_777000))) (Kd.R_lt (rr_ HO_777001))) (Kd.R_lt (rr_ HO779))) (bF_ hB_))
        replace HO_777000:=A_ (Kd.R_mono (Kd.R_told (Kd.R_told (Kd.R_old (rr_ HO_777000) hb) (Kd.R_base ho0)) (Kd.R_base ho1)) (fun _ h_=>h_.1))
        replace HO_777001:=A_ (Kd.R_mono (Kd.R_told (Kd.R_told (Kd.R_old (rr_ HO_777001) hb) (Kd.R_base ho0)) (Kd.R_base ho1)) (fun _ h_=>h_.1))
        replace HO779:=A_ (Kd.R_mono (Kd.R_told (Kd.R_told (Kd.R_old (rr_ HO779) hb) (Kd.R_base ho0)) (Kd.R_base ho1)) (fun _ h_=>h_.1))
        replace BK765:=bb_ BK765 hb
        replace BK766:=bb_ BK766 hb
        replace BK776:=bb_ BK776 hb
        replace HB:=b1_ hb
        clear hb ho0 ho1
        refine hK.out _ _ ⟨cz0_ BK765,cz1_ BK765⟩ (fun hHeld=>?_)
        clear hK K
        refine no_ (some 21) ?_
        refine one_ (i:=5) (N:=some 5) (bl_ 7 63) rfl rfl (by kernel_rfl) (by decide) (fun K hK=>?_)
        refine box_step ?hg (N:=5) ?hd (cs:=#[.slice none 0 0,.slice none 0 0]) (t:=25) ?hr ?_;(case hd=>rfl);(case hg=>rfl);(case hr=>first | (go_simp;done) | (go_simp;rfl))
        intro gb786 hg w52 hbox hb
        replace HO_777000:=rb_ HO_777000 hb
        replace HO_777001:=rb_ HO_777001 hb
        replace HO779:=rb_ HO779 hb
        replace HO782:=rb_ HO782 hb
        replace HO785:=rb_ HO785 hb
        have BK786:=A_ hbox
        have GW786:=gw_ w hg
        have GE786:=GW786
        replace HB:=b1_ hb
        have NB765_786:=gN_ BK765 hg
        have NB786_765:=gP_ BK765 hg
        replace BK765:=bb_ BK765 hb
        have NB766_786:=gN_ BK766 hg
        have NB786_766:=gP_ BK766 hg
        replace BK766:=bb_ BK766 hb
        have NB776_786:=gN_ BK776 hg
        have NB786_776:=gP_ BK776 hg
        replace BK776:=bb_ BK776 hb
        clear hb hbox hg
        refine hK.out _ _ ⟨cz0_ BK765,cz1_ BK765⟩ (fun hHeld=>?_)
        clear hK K
        refine no_ (some 5) ?_
        exact norm_ (by simp only [putAll,Act.put,sA_,sB_,sC_]) (hCont (.slice Ao50 t777.length co50,v781,v784,gb786) _ ⟨hHeld,(rw_ (Kd.R_mono HO779.out (fun _ hk=>⟨hk.1.2,⟨hk.2,⟨hk.1.1.1.2,hk.1.1.2⟩⟩⟩))),(rw_ (Kd.R_mono HO782.out (fun _ hk=>⟨hk.2,⟨hk.1.1.1,⟨hk.1.1.2,hk.1.2⟩⟩⟩))),(rw_ (Kd.R_mono HO785.out (fun _ hk=>⟨hk.2,⟨hk.1.1.1,⟨hk.1.1.2,hk.1.2⟩⟩⟩))),(rw_ (Kd.R_mono HO_777000.out (fun _ hk=>⟨hk.1.1.2,⟨hk.1.2,⟨hk.2,hk.1.1.1⟩⟩⟩))),(rw_ (Kd.R_mono HO_777001.out (fun _ hk=>⟨hk.1.1.2,⟨hk.1.2,⟨hk.2,hk.1.1.1⟩⟩⟩))),(kk_ BK765),(kk_ BK766),(kk_ BK776),(kk_ BK786),GW786.out,GE786.out,NB765_786.out,NB786_765.out,NB766_786.out,NB786_766.out,NB776_786.out,NB786_776.out,hB_⟩)
       ·skip
        refine box_step ?hg (N:=5) ?hd (cs:=#[.slice none 0 0,.slice none 0 0]) (t:=25) ?hr ?_;(case hd=>rfl);(case hg=>rfl);(case hr=>first | (go_simp;done) | (go_simp;rfl))
        intro gb786 hg w50 hbox hb
        replace HO_777000:=rb_ HO_777000 hb
        replace HO_777001:=rb_ HO_777001 hb
        replace HO779:=rb_ HO779 hb
        have BK786:=A_ hbox
        have GW786:=gw_ w hg
        have GE786:=GW786
        replace HB:=b1_ hb
        have NB765_786:=gN_ BK765 hg
        have NB786_765:=gP_ BK765 hg
        replace BK765:=bb_ BK765 hb
        have NB766_786:=gN_ BK766 hg
        have NB786_766:=gP_ BK766 hg
        replace BK766:=bb_ BK766 hb
        have NB776_786:=gN_ BK776 hg
        have NB786_776:=gP_ BK776 hg
        replace BK776:=bb_ BK776 hb
        clear hb hbox hg
        obtain ⟨Ao51,co51,eo51⟩:=Kd.R_slice HO779.out
        (first|subst eo51|(injection eo51 with a_ b_ c_;have a_:=a_.symm;have c_:=c_.symm;clear b_;subst a_;subst c_))
        refine hK.out _ _ ⟨cz0_ BK765,cz1_ BK765⟩ (fun hHeld=>?_)
        clear hK K
        refine no_ (some 5) ?_
        refine one_ (i:=4) (N:=some 21) (bl_ 7 63) rfl rfl (by kernel_rfl) (by decide) (fun K hK=>?_)
        refine gO_ Try.func119 #[.agg #[.slice A0_0 l0_0.length c0_0,.slice A0_1 l0_1.length c0_1],.slice Ao51 t777.length co51] (by rfl) rfl rfl qa_ ?_
        with_reducible refine (Z40.calls k1 _ _ l0_0 _ _ l0_1 _ _ t777 t780 t783 _ (cb_ HR0_0) HC0_0.out (cb_ HR0_1) HC0_1.out (cr_ HO779) ((Kd.R_reads' HO779.out).2.1) A18.out).mono ?_
        rintro e w52 ⟨v781,v784,rfl,ho0,ho1,hb⟩
        refine ⟨_,rfl,?_⟩
        have HO782:=A_ (rE_ (Kd.R_new' (Kd.R_new' (Kd.R_new' ho0 (Kd.R_lt (rr_ HO_777000))) (Kd.R_lt (rr_ HO_777001))) (Kd.R_lt (rr_ HO779))) (bF_ hB_))
        have HO785:=A_ (rE_ (Kd.R_new' (Kd.R_new' (Kd.R_new' ho1 (Kd.R_lt (rr_ HO_777000))) (Kd.R_lt (rr_ HO_777001))) (Kd.R_lt (rr_ HO779))) (bF_ hB_))
        replace HO_777000:=A_ (Kd.R_mono (Kd.R_told (Kd.R_told (Kd.R_old (rr_ HO_777000) hb) (Kd.R_base ho0)) (Kd.R_base ho1)) (fun _ h_=>h_.1))
        replace HO_777001:=A_ (Kd.R_mono (Kd.R_told (Kd.R_told (Kd.R_old (rr_ HO_777001) hb) (Kd.R_base ho0)) (Kd.R_base ho1)) (fun _ h_=>h_.1))
        replace HO779:=A_ (Kd.R_mono (Kd.R_told (Kd.R_told (Kd.R_old (rr_ HO779) hb) (Kd.R_base ho0)) (Kd.R_base ho1)) (fun _ h_=>h_.1))
        replace BK765:=bb_ BK765 hb
        replace BK766:=bb_ BK766 hb
        replace BK776:=bb_ BK776 hb
        replace BK786:=bb_ BK786 hb
        replace HB:=b1_ hb
        clear hb ho0 ho1
        refine hK.out _ _ ⟨cz0_ BK765,cz1_ BK765⟩ (fun hHeld=>?_)
        clear hK K
        refine no_ (some 21) ?_
        exact norm_ (by simp only [putAll,Act.put,sA_,sB_,sC_]) (hCont (.slice Ao51 t777.length co51,v781,v784,gb786) _ ⟨hHeld,(rw_ (Kd.R_mono HO779.out (fun _ hk=>⟨hk.1.2,⟨hk.2,⟨hk.1.1.1.2,hk.1.1.2⟩⟩⟩))),(rw_ (Kd.R_mono HO782.out (fun _ hk=>⟨hk.2,⟨hk.1.1.1,⟨hk.1.1.2,hk.1.2⟩⟩⟩))),(rw_ (Kd.R_mono HO785.out (fun _ hk=>⟨hk.2,⟨hk.1.1.1,⟨hk.1.1.2,hk.1.2⟩⟩⟩))),(rw_ (Kd.R_mono HO_777000.out (fun _ hk=>⟨hk.1.1.2,⟨hk.1.2,⟨hk.2,hk.1.1.1⟩⟩⟩))),(rw_ (Kd.R_mono HO_777001.out (fun _ hk=>⟨hk.1.1.2,⟨hk.1.2,⟨hk.2,hk.1.1.1⟩⟩⟩))),(kk_ BK765),(kk_ BK766),(kk_ BK776),(kk_ BK786),GW786.out,GE786.out,NB765_786.out,NB786_765.out,NB766_786.out,NB786_766.out,NB776_786.out,NB786_776.out,hB_⟩)
      ·skip
       refine box_step ?hg (N:=5) ?hd (cs:=#[.slice none 0 0,.slice none 0 0]) (t:=25) ?hr ?_;(case hd=>rfl);(case hg=>rfl);(case hr=>first | (go_simp;done) | (go_simp;rfl))
       intro gb786 hg w49 hbox hb
       replace HO_777000:=rb_ HO_777000 hb
       replace HO_777001:=rb_ HO_777001 hb
       have BK786:=A_ hbox
       have GW786:=gw_ w hg
       have GE786:=GW786
       replace HB:=b1_ hb
       have NB765_786:=gN_ BK765 hg
       have NB786_765:=gP_ BK765 hg
       replace BK765:=bb_ BK765 hb
       have NB766_786:=gN_ BK766 hg
       have NB786_766:=gP_ BK766 hg
       replace BK766:=bb_ BK766 hb
       have NB776_786:=gN_ BK776 hg
       have NB786_776:=gP_ BK776 hg
       replace BK776:=bb_ BK776 hb
       clear hb hbox hg
       refine hK.out _ _ ⟨cz0_ BK765,cz1_ BK765⟩ (fun hHeld=>?_)
       clear hK K
       refine no_ (some 5) ?_
       refine one_ (i:=3) (N:=some 20) (bl_ 7 47) rfl rfl (by kernel_rfl) (by decide) (fun K hK=>?_)
       refine gO_ Try.func120 #[.agg #[.slice A0_0 l0_0.length c0_0,.slice A0_1 l0_1.length c0_1],.int .i64 x4_1] (by rfl) rfl rfl qa_ ?_
       with_reducible refine (Z52.calls k1 _ _ l0_0 _ _ l0_1 x4_1 t777 _ (cb_ HR0_0) HC0_0.out (cb_ HR0_1) HC0_1.out A17.out).mono ?_
       rintro e w50 ⟨v778,rfl,ho0,hb⟩
       refine ⟨_,rfl,?_⟩
       have HO779:=A_ (rE_ (Kd.R_new' (Kd.R_new' ho0 (Kd.R_lt (rr_ HO_777000))) (Kd.R_lt (rr_ HO_777001))) (bF_ hB_))
       replace HO_777000:=A_ (Kd.R_elder' (rr_ HO_777000) (Kd.R_base ho0) hb)
       replace HO_777001:=A_ (Kd.R_elder' (rr_ HO_777001) (Kd.R_base ho0) hb)
       replace BK765:=bb_ BK765 hb
       replace BK766:=bb_ BK766 hb
       replace BK776:=bb_ BK776 hb
       replace BK786:=bb_ BK786 hb
       replace HB:=b1_ hb
       clear hb ho0
       obtain ⟨Ao51,co51,eo51⟩:=Kd.R_slice HO779.out
       (first|subst eo51|(injection eo51 with a_ b_ c_;have a_:=a_.symm;have c_:=c_.symm;clear b_;subst a_;subst c_))
       refine hK.out _ _ ⟨cz0_ BK765,cz1_ BK765⟩ (fun hHeld=>?_)
       clear hK K
       refine no_ (some 20) ?_
       refine one_ (i:=4) (N:=some 21) (bl_ 7 63) rfl rfl (by kernel_rfl) (by decide) (fun K hK=>?_)
       refine gO_ Try.func119 #[.agg #[.slice A0_0 l0_0.length c0_0,.slice A0_1 l0_1.length c0_1],.slice Ao51 t777.length co51] (by rfl) rfl rfl qa_ ?_
       with_reducible refine (Z40.calls k1 _ _ l0_0 _ _ l0_1 _ _ t777 t780 t783 _ (cb_ HR0_0) HC0_0.out (cb_ HR0_1) HC0_1.out (cr_ HO779) ((Kd.R_reads' HO779.out).2.1) A18.out).mono ?_
       rintro e w52 ⟨v781,v784,rfl,ho0,ho1,hb⟩
       refine ⟨_,rfl,?_⟩
       have HO782:=A_ (rE_ (Kd.R_new' (Kd.R_new' (Kd.R_new' ho0 (Kd.R_lt (rr_ HO_777000))) (Kd.R_lt (rr_ HO_777001))) (Kd.R_lt (rr_ HO779))) (bF_ hB_))
       have HO785:=A_ (rE_ (Kd.R_new' (Kd.R_new' (Kd.R_new' ho1 (Kd.R_lt (rr_ HO_777000))) (Kd.R_lt (rr_ HO_777001))) (Kd.R_lt (rr_ HO779))) (bF_ hB_))
       replace HO_777000:=A_ (Kd.R_mono (Kd.R_told (Kd.R_told (Kd.R_old (rr_ HO_777000) hb) (Kd.R_base ho0)) (Kd.R_base ho1)) (fun _ h_=>h_.1))
       replace HO_777001:=A_ (Kd.R_mono (Kd.R_told (Kd.R_told (Kd.R_old (rr_ HO_777001) hb) (Kd.R_base ho0)) (Kd.R_base ho1)) (fun _ h_=>h_.1))
       replace HO779:=A_ (Kd.R_mono (Kd.R_told (Kd.R_told (Kd.R_old (rr_ HO779) hb) (Kd.R_base ho0)) (Kd.R_base ho1)) (fun _ h_=>h_.1))
       replace BK765:=bb_ BK765 hb
       replace BK766:=bb_ BK766 hb
       replace BK776:=bb_ BK776 hb
       replace BK786:=bb_ BK786 hb
       replace HB:=b1_ hb
       clear hb ho0 ho1
       refine hK.out _ _ ⟨cz0_ BK765,cz1_ BK765⟩ (fun hHeld=>?_)
       clear hK K
       refine no_ (some 21) ?_
       exact norm_ (by simp only [putAll,Act.put,sA_,sB_,sC_]) (hCont (.slice Ao51 t777.length co51,v781,v784,gb786) _ ⟨hHeld,(rw_ (Kd.R_mono HO779.out (fun _ hk=>⟨hk.1.2,⟨hk.2,⟨hk.1.1.1.2,hk.1.1.2⟩⟩⟩))),(rw_ (Kd.R_mono HO782.out (fun _ hk=>⟨hk.2,⟨hk.1.1.1,⟨hk.1.1.2,hk.1.2⟩⟩⟩))),(rw_ (Kd.R_mono HO785.out (fun _ hk=>⟨hk.2,⟨hk.1.1.1,⟨hk.1.1.2,hk.1.2⟩⟩⟩))),(rw_ (Kd.R_mono HO_777000.out (fun _ hk=>⟨hk.1.1.2,⟨hk.1.2,⟨hk.2,hk.1.1.1⟩⟩⟩))),(rw_ (Kd.R_mono HO_777001.out (fun _ hk=>⟨hk.1.1.2,⟨hk.1.2,⟨hk.2,hk.1.1.1⟩⟩⟩))),(kk_ BK765),(kk_ BK766),(kk_ BK776),(kk_ BK786),GW786.out,GE786.out,NB765_786.out,NB786_765.out,NB766_786.out,NB786_766.out,NB776_786.out,NB786_776.out,hB_⟩)
     rintro ⟨v778,v781,v784,gb786⟩ w53 ⟨hS_,h0_,h1_,h2_,h3_,h4_,h5_,h6_,h7_,h8_,h9_,h10_,h11_,h12_,h13_,h14_,h15_,h16_,h17_⟩
     have n0_:Aside0 (Kd.R (Kd.int .i64) 3 w53 w.heap.size (fun k_=>some k_≠(v781:Value).ownBlock∧some k_≠(v784:Value).ownBlock∧some k_≠(u777000:Value).ownBlock∧some k_≠(u777001:Value).ownBlock) v778 t777):=⟨h0_⟩
     have n1_:Aside0 (Kd.R (Kd.int .i64) 3 w53 w.heap.size (fun k_=>some k_≠(v778:Value).ownBlock∧some k_≠(v784:Value).ownBlock∧some k_≠(u777000:Value).ownBlock∧some k_≠(u777001:Value).ownBlock) v781 t780):=⟨h1_⟩
     have n2_:Aside0 (Kd.R (Kd.int .i64) 3 w53 w.heap.size (fun k_=>some k_≠(v778:Value).ownBlock∧some k_≠(v781:Value).ownBlock∧some k_≠(u777000:Value).ownBlock∧some k_≠(u777001:Value).ownBlock) v784 t783):=⟨h2_⟩
     have n3_:Aside0 (Kd.R (Kd.int .i64) 3 w53 w.heap.size (fun k_=>some k_≠(v778:Value).ownBlock∧some k_≠(v781:Value).ownBlock∧some k_≠(v784:Value).ownBlock∧some k_≠(u777001:Value).ownBlock) u777000 x777000_1):=⟨h3_⟩
     have n4_:Aside0 (Kd.R (Kd.int .i64) 3 w53 w.heap.size (fun k_=>some k_≠(v778:Value).ownBlock∧some k_≠(v781:Value).ownBlock∧some k_≠(v784:Value).ownBlock∧some k_≠(u777000:Value).ownBlock) u777001 x777001_1):=⟨h4_⟩
     have n5_:Aside0 (w53.heap[gb765]? = some (.cells #[.slice A0_0 l0_0.length c0_0,.slice A0_1 l0_1.length c0_1] 25 (0,0))):=⟨h5_⟩
     have n6_:Aside0 (w53.heap[gb766]? = some (.cells #[.slice none 0 0,.slice none 0 0] 25 (0,0))):=⟨h6_⟩
     have n7_:Aside0 (w53.heap[gb776]? = some (.cells #[u777000,u777001] 25 (0,0))):=⟨h7_⟩
     have n8_:Aside0 (w53.heap[gb786]? = some (.cells #[.slice none 0 0,.slice none 0 0] 25 (0,0))):=⟨h8_⟩
     have n9_:Aside0 (w.heap.size≤gb786):=⟨h9_⟩
     have n10_:Aside0 (w.heap.size≤gb786):=⟨h10_⟩
     have n11_:Aside0 (gb765≠gb786):=⟨h11_⟩
     have n12_:Aside0 (gb786≠gb765):=⟨h12_⟩
     have n13_:Aside0 (gb766≠gb786):=⟨h13_⟩
     have n14_:Aside0 (gb786≠gb766):=⟨h14_⟩
     have n15_:Aside0 (gb776≠gb786):=⟨h15_⟩
     have n16_:Aside0 (gb786≠gb776):=⟨h16_⟩
     have n17_:Aside0 (Below w.heap.size w w53):=⟨h17_⟩
     clear HO_777000
     clear HO_777001
     clear BK765
     clear BK766
     clear BK776
     clear HB
     clear h0_ h1_ h2_ h3_ h4_ h5_ h6_ h7_ h8_ h9_ h10_ h11_ h12_ h13_ h14_ h15_ h16_ h17_
     have HO779:=n0_
     have HO782:=n1_
     have HO785:=n2_
     have HO_777000:=n3_
     have HO_777001:=n4_
     have BK765:=n5_
     have BK766:=n6_
     have BK776:=n7_
     have BK786:=n8_
     have GW786:=n9_
     have GE786:=n10_
     have NB765_786:=n11_
     have NB786_765:=n12_
     have NB766_786:=n13_
     have NB786_766:=n14_
     have NB776_786:=n15_
     have NB786_776:=n16_
     have HB:=n17_
     clear n0_ n1_ n2_ n3_ n4_ n5_ n6_ n7_ n8_ n9_ n10_ n11_ n12_ n13_ n14_ n15_ n16_ n17_
     have hHeld:w53.cell? ⟨gb765,0,none⟩ = some (.slice A0_0 l0_0.length c0_0)∧w53.cell? ⟨gb765,1,none⟩ = some (.slice A0_1 l0_1.length c0_1):=hS_
     obtain ⟨Ao54,co54,eo54⟩:=Kd.R_slice HO782.out
     (first|subst eo54|(injection eo54 with a_ b_ c_;have a_:=a_.symm;have c_:=c_.symm;clear b_;subst a_;subst c_))
     obtain ⟨Ao56,co56,eo56⟩:=Kd.R_slice HO785.out
     (first|subst eo56|(injection eo56 with a_ b_ c_;have a_:=a_.symm;have c_:=c_.symm;clear b_;subst a_;subst c_))
     refine norm_ (a':=?_) ?_ ?_
     rotate_left
     ·simp only [putAll,Act.put,sA_,sB_,sC_]
      rfl
     refine one_ (i:=6) (N:=none) (bl_ 7 127) rfl rfl (by kernel_rfl) (by decide) (fun K hK=>?_)
     have hs55:w53.cell? ⟨gb786,0,none⟩ = some (.slice none 0 0):=cz0_ BK786
     have hfs55:=kD_ BK786.out 0
     have hns55_0:=NB765_786.out
     have hns55_1:=NB766_786.out
     have hns55_2:=NB776_786.out
     have hms55_0:=NB786_765.out
     have hms55_1:=NB786_766.out
     have hms55_2:=NB786_776.out
     have hs57:w53.cell? ⟨gb786,1,none⟩ = some (.slice none 0 0):=cz1_ BK786
     have hfs57:=kD_ BK786.out 1
     have hns57_0:=NB765_786.out
     have hns57_1:=NB766_786.out
     have hns57_2:=NB776_786.out
     have hms57_0:=NB786_765.out
     have hms57_1:=NB786_766.out
     have hms57_2:=NB786_776.out
     refine skip_ (w1:=?_) (by rfl) rfl ?_ ?_
     rotate_left
     ·go_simp
      rfl
     refine hK.out _ _ ⟨((cell_far (p:=⟨gb786,_,none⟩) NB765_786.out _).trans (((cell_far (p:=⟨gb786,_,none⟩) NB765_786.out _).trans (hHeld.1)))),((cell_far (p:=⟨gb786,_,none⟩) NB765_786.out _).trans (((cell_far (p:=⟨gb786,_,none⟩) NB765_786.out _).trans (hHeld.2))))⟩ (fun hHeld=>?_)
     clear hK K
     refine done_ (by kernel_rfl) ?_
     have hnb58:=NB786_765.out
     have hnc58:=NB765_786.out
     have hnb59:=NB786_766.out
     have hnc59:=NB766_786.out
     have hnb60:=NB786_776.out
     have hnc60:=NB776_786.out
     obtain ⟨hcz61_0,hcz61_1,hfz61_0,hfz61_1⟩:=c2_ BK786
     have hnb62:=NB776_766.out
     have hnc62:=NB766_776.out
     obtain ⟨hcz63_0,hcz63_1,hfz63_0,hfz63_1⟩:=c2_ BK776
     obtain ⟨Ao64,co64,eo64⟩:=Kd.R_slice HO_777000.out
     subst eo64
     obtain ⟨Ao65,co65,eo65⟩:=Kd.R_slice HO_777001.out
     subst eo65
     try go_wp2_with (first | ((with_reducible refine gA_ (f:=121) rfl ?_);refine gL_ (some 24) Try.func121 #[.agg #[.slice Ao54 t780.length co54,.slice Ao56 t783.length co56],.agg #[.slice Ao64 x777000_1.length co64,.slice Ao65 x777001_1.length co65]] rfl qa_ ?_;(with_reducible refine (Z39.calls k1 _ _ t780 _ _ t783 _ _ x777000_1 _ _ x777001_1 false _ ?side1 ?side2 ?side3 ?side4 ?side5 ?side6 ?side7 ?side8 A19.out).mono ?_);(case side1=>refine (Kd.R_reads' (e:=3) (base:=w.heap.size) (ok:=fun k_=>(some k_≠(v778:Value).ownBlock∧(some k_≠(.slice Ao56 t783.length co56:Value).ownBlock∧(some k_≠(.slice Ao64 x777000_1.length co64:Value).ownBlock∧some k_≠(.slice Ao65 x777001_1.length co65:Value).ownBlock)))) (n:=t780.length) (c:=co54) ?_).2.2;exact (rw_ (fa_ HO782 BK786)));(case side2=>exact (Kd.R_reads' HO782.out).2.1);(case side3=>refine (Kd.R_reads' (e:=3) (base:=w.heap.size) (ok:=fun k_=>(some k_≠(v778:Value).ownBlock∧(some k_≠(.slice Ao54 t780.length co54:Value).ownBlock∧(some k_≠(.slice Ao64 x777000_1.length co64:Value).ownBlock∧some k_≠(.slice Ao65 x777001_1.length co65:Value).ownBlock)))) (n:=t783.length) (c:=co56) ?_).2.2;exact (rw_ (fa_ HO785 BK786)));(case side4=>exact (Kd.R_reads' HO785.out).2.1);(case side5=>refine (Kd.R_reads' (e:=3) (base:=w.heap.size) (ok:=fun k_=>(some k_≠(v778:Value).ownBlock∧(some k_≠(.slice Ao54 t780.length co54:Value).ownBlock∧(some k_≠(.slice Ao56 t783.length co56:Value).ownBlock∧some k_≠(.slice Ao65 x777001_1.length co65:Value).ownBlock)))) (n:=x777000_1.length) (c:=co64) ?_).2.2;exact (rw_ (fa_ HO_777000 BK786)));(case side6=>exact (Kd.R_reads' HO_777000.out).2.1);(case side7=>refine (Kd.R_reads' (e:=3) (base:=w.heap.size) (ok:=fun k_=>(some k_≠(v778:Value).ownBlock∧(some k_≠(.slice Ao54 t780.length co54:Value).ownBlock∧(some k_≠(.slice Ao56 t783.length co56:Value).ownBlock∧some k_≠(.slice Ao64 x777000_1.length co64:Value).ownBlock)))) (n:=x777001_1.length) (c:=co65) ?_).2.2;exact (rw_ (fa_ HO_777001 BK786)));(case side8=>exact (Kd.R_reads' HO_777001.out).2.1);rintro e w66 ⟨rfl,hb⟩;refine ⟨_,rfl,?_⟩;replace HO_777000:=A_ (rD_ (rw_ (fa_ HO_777000 BK786)) hb);replace HO_777001:=A_ (rD_ (rw_ (fa_ HO_777001 BK786)) hb);replace HO779:=A_ (rD_ (rw_ (fa_ HO779 BK786)) hb);replace HO782:=A_ (rD_ (rw_ (fa_ HO782 BK786)) hb);replace HO785:=A_ (rD_ (rw_ (fa_ HO785 BK786)) hb);replace BK765:=A_ (kE_ (g:=gb765) (o:=.cells #[.slice A0_0 l0_0.length c0_0,.slice A0_1 l0_1.length c0_1] 25 (0,0)) (by (with_reducible repeat (first | refine kA_ ?_ _ | refine kB_ ?_ | refine kC_ ?_ _));refine blk_far ?_ NB765_786.out _;(with_reducible repeat (first | refine kA_ ?_ _ | refine kB_ ?_ | refine kC_ ?_ _));refine blk_far ?_ NB765_786.out _;(with_reducible repeat (first | refine kA_ ?_ _ | refine kB_ ?_ | refine kC_ ?_ _));exact BK765.out) hb);replace BK766:=A_ (kE_ (g:=gb766) (o:=.cells #[.slice none 0 0,.slice none 0 0] 25 (0,0)) (by (with_reducible repeat (first | refine kA_ ?_ _ | refine kB_ ?_ | refine kC_ ?_ _));refine blk_far ?_ NB766_786.out _;(with_reducible repeat (first | refine kA_ ?_ _ | refine kB_ ?_ | refine kC_ ?_ _));refine blk_far ?_ NB766_786.out _;(with_reducible repeat (first | refine kA_ ?_ _ | refine kB_ ?_ | refine kC_ ?_ _));exact BK766.out) hb);replace BK776:=A_ (kE_ (g:=gb776) (o:=.cells #[.slice Ao64 x777000_1.length co64,.slice Ao65 x777001_1.length co65] 25 (0,0)) (by (with_reducible repeat (first | refine kA_ ?_ _ | refine kB_ ?_ | refine kC_ ?_ _));refine blk_far ?_ NB776_786.out _;(with_reducible repeat (first | refine kA_ ?_ _ | refine kB_ ?_ | refine kC_ ?_ _));refine blk_far ?_ NB776_786.out _;(with_reducible repeat (first | refine kA_ ?_ _ | refine kB_ ?_ | refine kC_ ?_ _));exact BK776.out) hb);replace BK786:=A_ (kE_ (g:=gb786) (o:=.cells #[.slice Ao54 t780.length co54,.slice Ao56 t783.length co56] 25 (0,0)) qp_ hb);replace HB:=b1_ hb;clear hb))
     go_roundg k1
     case measure=>have:=HK1.out;omega
     case rel=>exact ⟨(wrap64 (x4_1 + 1)),(x777000_1),(x777001_1),(.slice Ao64 x777000_1.length co64),(.slice Ao65 x777001_1.length co65),qc_,H',⟨by have:=HK1.out;omega⟩,⟨(rw_ (Kd.R_mono HO_777000.out (fun _ hk=>hk.2.2.2)))⟩,⟨(rw_ (Kd.R_mono HO_777001.out (fun _ hk=>hk.2.2.2)))⟩,⟨(kk_ BK765)⟩,⟨(kk_ BK766)⟩,⟨(kk_ BK776)⟩,⟨hB_⟩⟩
   ·rw [if_neg c16] at H
    have c16b0:=oD_ c16
    clear c16
    simp only [Option.some.injEq,Prod.mk.injEq] at H
    obtain ⟨rfl,rfl⟩:=H
    have hnb67:=NB765_766.out
    have hnc67:=NB766_765.out
    have hnb68:=NB765_776.out
    have hnc68:=NB776_765.out
    obtain ⟨hcz69_0,hcz69_1,hfz69_0,hfz69_1⟩:=c2_ BK765
    have hnb70:=NB776_766.out
    have hnc70:=NB766_776.out
    obtain ⟨hcz71_0,hcz71_1,hfz71_0,hfz71_1⟩:=c2_ BK776
    obtain ⟨Ao72,co72,eo72⟩:=Kd.R_slice HO_777000.out
    subst eo72
    obtain ⟨hcz73_0,hcz73_1,hfz73_0,hfz73_1⟩:=c2_ BK766
    obtain ⟨Ao74,co74,eo74⟩:=Kd.R_slice HO_777001.out
    subst eo74
    go_wp2
    refine bodyPost_ret (results_cell_row rfl _ _ gb766 25 #[.slice Ao72 x777000_1.length co72,.slice Ao74 x777001_1.length co74] (0,0) _ rfl qp_ Try.underlying25 rfl (by kernel_rfl)) rfl ?_
    exact ⟨_,_,qb_,(rw_ (fa_ HO_777000 BK766)),(rw_ (fa_ HO_777001 BK766)),hB_⟩
def Z56.l0:Nat→List Int→List Int→List Int→Int→Int→Option (List Int)
 | 0,_,_,_,_,_=>none
 | k + 1,x1,x5,x9,x10,x11=>if x11 < x10 then (if 0≤x11 then (if x11 < (x9.length:Int) then (if 0≤(rd x9 x11) then (if (rd x9 x11) < (x1.length:Int) then (if x5.length < 17592186044416 then (Z56.l0 k x1 (x5 ++ [rd x1 (rd x9 x11)]) x9 x10 (wrap64 (x11 + 1))) else (none)) else (none)) else (none)) else (none)) else (none)) else (some x5)
def Z56.f (k:Nat) (l0:List Int) (l1:List Int):Option (List Int):=Z56.l0 k l1 (([]:List Int)) l0 (l0.length:Int) 0
theorem Z56.mono_l:∀ k,(∀ y0 y1 y2 y3 y4,LeO (Z56.l0 k y0 y1 y2 y3 y4) (Z56.l0 (k + 1) y0 y1 y2 y3 y4))
 | 0=>fun _ _ _ _ _ r h=>by simp [Z56.l0] at h
 | k + 1=>by
  have ih0:=Z56.mono_l k
  ·intro y0 y1 y2 y3 y4
   unfold Z56.l0
   repeat' first|exact ih0 _ _ _ _ _|exact lo_|refine LeO.ite ?_ ?_|refine LeO.bind ?_ (fun _=>?_)
theorem Z56.mono:∀ a0 a1 k,LeO (Z56.f k a0 a1) (Z56.f (k + 1) a0 a1):=by
 intro a0 a1 k
 have ih0:=Z56.mono_l k
 unfold Z56.f
 repeat' first|exact ih0 _ _ _ _ _|exact lo_|refine LeO.ite ?_ ?_|refine LeO.bind ?_ (fun _=>?_)
set_option maxHeartbeats 8000000 in
set_option maxRecDepth 100000 in
theorem Z56.calls (k:Nat) (A0:Option Addr) (c0:Nat) (l0:List Int) (A1:Option Addr) (c1:Nat) (l1:List Int) (r:List Int) (w:World) (hr0:Kd.C (Kd.int .i64) w A0 l0.length l0) (hc0:l0.length≤c0) (hr1:Kd.C (Kd.int .i64) w A1 l1.length l1) (hc1:l1.length≤c1) (h:Z56.f k l0 l1 = some r) :
  Calls Try.prog 154 #[.slice A0 l0.length c0,.slice A1 l1.length c1] w fun e w'=>∃ v0_:Value,e = .returned (v0_)∧Kd.R (Kd.int .i64) 3 w' w.heap.size (fun _=>True) v0_ r∧Below w.heap.size w w':=by
 have HR0:=A_ hr0
 have HC0:=A_ hc0
 clear hr0 hc0
 have HR1:=A_ hr1
 have HC1:=A_ hc1
 clear hr1 hc1
 have HB:=A_ (Below.refl w.heap.size w)
 have H:=h
 unfold Z56.f at H
 clear h
 obtain ⟨y788,hy788⟩:∃ y_:List Int,y_ = (([]:List Int)):=⟨_,rfl⟩
 replace H:(Z56.l0 k l1 y788 l0 (l0.length:Int) 0) = some r:=by first | (rw [hy788];exact H) | exact H
 have Ny788:=A_ hy788
 clear hy788
 have H':=A_ H
 clear H
 go_enter Try.func154,Try.ntmps154
 go_wp2_with (first | ((with_reducible refine gB_ (N:=8) rfl ?_);refine Kd.R_lit (Kd.int .i64) _ 3 ?hg (N:=8) ?hd (xs:=([]:List Int)) (inner:=[]) (ok:=fun _=>True) (okp:=fun _=>True) ?hr ?hp (fun _ hk=>hk) trivial (Below.refl _ _) (nA_ _) (by simp) ?_;(case hd=>rfl);(case hg=>rfl);(case hr=>first | (go_simp;done) | (go_simp;rfl));(case hp=>exact (Reps.none _ _));intro v789 w3 ho4 hb hg_ hnew_;clear hg_ hnew_;(first | rw [← Ny788.out] at ho4 | (simp only [Int.reduceToNat] at ho4;rw [← Ny788.out] at ho4));have HO790:=rl_ w ho4;replace HB:=b1_ hb;clear hb ho4))
 go_loopg [5,11] k (fun kq v5 v11 w'=>∃ (x5_1:List Int) (x11_1:Int),v11 = .int .i64 x11_1∧Aside0 (Z56.l0 kq l1 x5_1 l0 (l0.length:Int) x11_1 = some r)∧Aside0 (kq≤k)∧Aside0 (Kd.R (Kd.int .i64) 3 w' w.heap.size (fun _=>True) v5 x5_1)∧Aside0 (Below w.heap.size w w'))
 case atStart=>exact ⟨(y788),(0),qc_,H',⟨nA_ _⟩,⟨(rr_ HO790)⟩,⟨hB_⟩⟩
 case round =>
  clear H'
  obtain ⟨x5_1,x11_1,rfl,HA,HK1,HO_5,HB⟩:=hrel
  cases gk with
  | zero=>exact absurd HA.out (by simp [Z56.l0])
  | succ k1 =>
   have H:=HA.out
   clear HA
   simp only [Z56.l0] at H
   by_cases c5:x11_1 < (l0.length:Int)
   ·rw [if_pos c5] at H
    have c5b0:=oC_ c5
    clear c5
    replace H:=cx_ H;obtain ⟨c6b0,H⟩:=H
    replace H:=cx_ H;obtain ⟨c7b0,H⟩:=H
    replace H:=cx_ H;obtain ⟨c8b0,H⟩:=H
    replace H:=cx_ H;obtain ⟨c9b0,H⟩:=H
    have c10:=cp_ H
    replace H:=ca_ H
    have LMc10:=A_ c10
    clear c10
    obtain ⟨y793,hy793⟩:∃ y_:List Int,y_ = (x5_1 ++ [rd l1 (rd l0 x11_1)]):=⟨_,rfl⟩
    replace H:(Z56.l0 k1 l1 y793 l0 (l0.length:Int) (wrap64 (x11_1 + 1))) = some r:=by first | (rw [hy793];exact H) | exact H
    have Ny793:=A_ hy793
    clear hy793
    have H':=A_ H
    clear H
    have p791:0≤(x11_1:Int):=oB_ qe_
    have q791:x11_1 < (l0.length:Int):=oB_ qe_
    obtain ⟨ad791,e791,hx791_0⟩:=Kd.at_int HR0.out x11_1 p791 q791
    cases e791
    replace hx791_0:=(HB.out.cell (World.block_lt_of_cell? w _ hx791_0)).trans hx791_0
    replace p791:=eq_true p791
    replace q791:=eq_true q791
    have p792:0≤((rd l0 x11_1):Int):=oB_ qe_
    have q792:(rd l0 x11_1) < (l1.length:Int):=oB_ qe_
    obtain ⟨ad792,e792,hx792_0⟩:=Kd.at_int HR1.out (rd l0 x11_1) p792 q792
    cases e792
    replace hx792_0:=(HB.out.cell (World.block_lt_of_cell? w _ hx792_0)).trans hx792_0
    replace p792:=eq_true p792
    replace q792:=eq_true q792
    go_wp2_with (first | ((with_reducible refine gate_builtin (b:=.append) (xs:=#[.tmp 15,.tmp 20]) rfl ?_);at_builtin;refine Kd.R_append (Kd.int .i64) (w0:=w) w.heap.size rfl (.tmp 15) (.tmp 20) 23 3 (.int .i64 0) 8 rfl Try.underlying23 info3 rfl (by decide) (by omega) u5 x5_1 (rd l1 (rd l0 x11_1)) [.int .i64 (rd l1 (rd l0 x11_1))] (fun _=>True) (fun _=>False) rfl rfl ?aP (fun _ hk=>hk.elim) ?aF ?aO ?aB ?aS ?aL ?_;(case aP=>exact rfl);(case aB=>exact hB_);(case aF=>exact (fun _ _=>trivial));(case aO=>exact (rr_ HO_5));(case aS=>exact (bF_ hB_));(case aL=>have:=LMc10.out;omega);intro v794 w11 ho hb hg hat;rw [← Ny793.out] at ho;replace HB:=A_ hb;have HO795:=A_ ho;clear HO_5;clear ho hb hg hat))
    go_roundg k1
    case measure=>have:=HK1.out;omega
    case rel=>exact ⟨(y793),(wrap64 (x11_1 + 1)),qc_,H',⟨by have:=HK1.out;omega⟩,⟨(rr_ HO795)⟩,⟨hB_⟩⟩
   ·rw [if_neg c5] at H
    have c5b0:=oD_ c5
    clear c5
    obtain rfl:=Option.some.inj H
    go_wp2
    go_ret
    exact ⟨_,qb_,(rr_ HO_5),hB_⟩
def Z53.f (k:Nat) (l0_0:List Int) (l0_1:List Int):Option (List Int × List Int):=(some (([]:List Int):List Int)).bind fun y798=>(if y798.length + l0_0.length < 17592186044416 then ((Z28.f k l0_0).bind fun t804=>((Z56.f k t804 l0_1).bind fun t807=>(some ((y798 ++ l0_0),t807)))) else (none))
theorem Z53.mono:∀ a0 a1 k,LeO (Z53.f k a0 a1) (Z53.f (k + 1) a0 a1):=by
 intro a0 a1 k
 unfold Z53.f
 repeat' first|exact Z28.mono _ _|exact Z56.mono _ _ _|exact lo_|refine LeO.ite ?_ ?_|refine LeO.bind ?_ (fun _=>?_)
def Z53.T1:Bool × List (List Nat × List Nat):=(true,[([],[]),([],[]),([1],[1]),([0,2],[0,2]),([],[]),([4],[4]),([5,3],[5]),([],[]),([7],[7]),([6,8,6],[6,8]),([3,9],[3,9]),([10,9,0,1,2,3,4,5,6,7,8,9,10],[10])])
def Z53.B1:List Nat:=[0,0,2,7,0,16,63,0,128,511,1023,2047]
theorem Z53.tab1:rtab .any (opsOf Try.f124 1) = Z53.T1:=by kernel_rfl
theorem Z53.bits1:waitsOk Z53.T1.2 Z53.B1 = true:=by kernel_rfl
set_option maxHeartbeats 8000000 in
set_option maxRecDepth 100000 in
theorem Z53.calls (k:Nat) (A0_0:Option Addr) (c0_0:Nat) (l0_0:List Int) (A0_1:Option Addr) (c0_1:Nat) (l0_1:List Int) (r1:List Int) (r2:List Int) (w:World) (hr0_0:Kd.C (Kd.int .i64) w A0_0 l0_0.length l0_0) (hc0_0:l0_0.length≤c0_0) (hr0_1:Kd.C (Kd.int .i64) w A0_1 l0_1.length l0_1) (hc0_1:l0_1.length≤c0_1) (h:Z53.f k l0_0 l0_1 = some (r1,r2)) :
  Calls Try.prog 124 #[.agg #[.slice A0_0 l0_0.length c0_0,.slice A0_1 l0_1.length c0_1]] w fun e w'=>∃ v0_ v1_:Value,e = .returned (.agg #[v0_,v1_])∧Kd.R (Kd.int .i64) 3 w' w.heap.size (fun k_=>some k_≠(v1_:Value).ownBlock) v0_ r1∧Kd.R (Kd.int .i64) 3 w' w.heap.size (fun k_=>some k_≠(v0_:Value).ownBlock) v1_ r2∧Below w.heap.size w w':=by
 have hu25:=Try.underlying25
 have HR0_0:=A_ hr0_0
 have HC0_0:=A_ hc0_0
 clear hr0_0 hc0_0
 have HR0_1:=A_ hr0_1
 have HC0_1:=A_ hc0_1
 clear hr0_1 hc0_1
 have HB:=A_ (Below.refl w.heap.size w)
 have H:=h
 unfold Z53.f at H
 clear h
 obtain ⟨y798,hy798⟩:∃ y_:List Int,y_ = (([]:List Int)):=⟨_,rfl⟩
 replace H:(if y798.length + l0_0.length < 17592186044416 then ((Z28.f k l0_0).bind fun t804=>((Z56.f k t804 l0_1).bind fun t807=>(some ((y798 ++ l0_0),t807)))) else (none)) = some (r1,r2):=by first | (rw [hy798];exact H) | exact H
 have Ny798:=A_ hy798
 clear hy798
 have c2:=cp_ H
 replace H:=ca_ H
 have LMc2:=A_ c2
 clear c2
 obtain ⟨y801,hy801⟩:∃ y_:List Int,y_ = (y798 ++ l0_0):=⟨_,rfl⟩
 replace H:((Z28.f k l0_0).bind fun t804=>((Z56.f k t804 l0_1).bind fun t807=>(some (y801,t807)))) = some (r1,r2):=by first | (rw [hy801];exact H) | exact H
 have Ny801:=A_ hy801
 clear hy801
 obtain ⟨t804,A3,H⟩:=bi_ H
 obtain ⟨t807,A4,H⟩:=bi_ H
 simp only [Option.some.injEq,Prod.mk.injEq] at H
 obtain ⟨rfl,rfl⟩:=H
 go_enter Try.func124,Try.ntmps124
 try go_wp2_with (first | ((with_reducible refine gB_ (N:=1) rfl ?_);refine bx_ 1 #[.slice A0_0 l0_0.length c0_0,.slice A0_1 l0_1.length c0_1] 25 ?_;intro gb796 hg w5 hbox hb;have BK796:=A_ hbox;have GW796:=gw_ w hg;have GE796:=GW796;replace HB:=b1_ hb;clear hb hbox hg) | ((with_reducible refine gB_ (N:=2) rfl ?_);refine bx_ 2 #[.slice none 0 0,.slice none 0 0] 25 ?_;intro gb797 hg w6 hbox hb;have BK797:=A_ hbox;have GW797:=gw_ w hg;have GE797:=GW797;replace HB:=b1_ hb;have NB796_797:=gN_ BK796 hg;have NB797_796:=gP_ BK796 hg;replace BK796:=bb_ BK796 hb;clear hb hbox hg))
 replace BK796:=A_ (kB_ BK796.out)
 replace BK797:=A_ (kB_ BK797.out)
 replace HB:=A_ (bC_ HB.out)
 refine start_ (n:=12) (S:=fun w'=>w'.cell? ⟨gb796,0,none⟩ = some (.slice A0_0 l0_0.length c0_0)∧w'.cell? ⟨gb796,1,none⟩ = some (.slice A0_1 l0_1.length c0_1)) (ds:=[]) (bl_ 12 0) (by kernel_rfl) rfl (by kernel_rfl) ⟨cz0_ BK796,cz1_ BK796⟩ (fun hHeld=>?_);refine with_tabW Z53.tab1 Z53.bits1 (fun HT_ HW_=>?_)
 generalize w6.drew = w7 at BK796 BK797 HB hHeld ⊢
 refine pu_ 1 (some 4) (bl_ 12 2) HT_ ?_
 refine pu_ 4 (some 7) (bl_ 12 18) HT_ ?_
 refine pu_ 7 (some 10) (bl_ 12 146) HT_ ?_
 refine ta_ 2 (some 5) (bl_ 12 150) HT_ HW_ hHeld ?_
 refine ta_ 5 (some 8) (bl_ 12 182) HT_ HW_ hHeld ?_
 refine ta_ 8 (some 11) (bl_ 12 438) HT_ HW_ hHeld ?_
 refine on_ 0 (some 3) (bl_ 12 439) HT_ (fun K hK=>?_)
 refine Kd.R_lit_step (Kd.int .i64) _ 3 ?hg (N:=3) ?hd (xs:=([]:List Int)) (inner:=[]) (ok:=fun _=>True) (okp:=fun _=>True) ?hr ?hp (fun _ hk=>hk) trivial (Below.refl _ _) (nA_ _) (by simp) ?_;(case hd=>rfl);(case hg=>rfl);(case hr=>first | (go_simp;done) | (go_simp;rfl));(case hp=>exact (Reps.none _ _))
 intro v799 w8 ho9 hb hg_ hnew_
 clear hg_ hnew_
 (first | rw [← Ny798.out] at ho9 | (simp only [Int.reduceToNat] at ho9;rw [← Ny798.out] at ho9))
 have HO800:=rl_ w ho9
 replace BK796:=bb_ BK796 hb
 replace BK797:=bb_ BK797 hb
 replace HB:=b1_ hb
 clear hb ho9
 refine hK.out _ _ ⟨cz0_ BK796,cz1_ BK796⟩ (fun hHeld=>?_)
 clear hK K
 refine no_ (some 3) ?_
 refine on_ 3 (some 6) (bl_ 12 447) HT_ (fun K hK=>?_)
 refine Kd.R_append_rows_step (Kd.int .i64) (w0:=w) w.heap.size (by rfl) (.tmp 3) (.tmp 5) 23 3 (.int .i64 0) 8 rfl Try.underlying23 info3 rfl (by decide) (by omega) v799 y798 l0_0 _ _ _ (fun _=>True) (fun _=>False) rfl rfl ?aO ?aR (fun _ _ h=>h) (fun _ h=>h.elim) ?aF ?aB ?aS ?aL ?_
 (case aR=>exact cb_ HR0_0)
 (case aB=>exact hB_)
 (case aF=>exact (fun _ _=>trivial))
 (case aO=>exact (rr_ HO800))
 (case aS=>exact (bF_ hB_))
 (case aL=>have:=LMc2.out;omega)
 intro v802 w10 ho hb hg hat
 rw [← Ny801.out] at ho
 replace BK796:=A_ (blk_grown (kk_ BK796) hg (Kd.R_ne HO800.out BK796.out (by decide)))
 replace BK797:=A_ (blk_grown (kk_ BK797) hg (Kd.R_ne HO800.out BK797.out (by decide)))
 replace HB:=A_ hb
 have HO803:=A_ ho
 clear HO800
 clear ho hb hg hat
 refine hK.out _ _ ⟨cz0_ BK796,cz1_ BK796⟩ (fun hHeld=>?_)
 clear hK K
 refine no_ (some 6) ?_
 refine on_ 6 (some 9) (bl_ 12 511) HT_ (fun K hK=>?_)
 refine gO_ Try.func150 #[.slice A0_0 l0_0.length c0_0] (by rfl) rfl rfl qa_ ?_
 with_reducible refine (Z28.calls k _ _ l0_0 t804 _ (cb_ HR0_0) HC0_0.out A3.out).mono ?_
 rintro e w11 ⟨v805,rfl,ho0,hb⟩
 refine ⟨_,rfl,?_⟩
 have HO806:=A_ (rE_ (Kd.R_new' ho0 (Kd.R_lt (rr_ HO803))) (bF_ hB_))
 replace HO803:=A_ (Kd.R_elder' (rr_ HO803) (Kd.R_base ho0) hb)
 replace BK796:=bb_ BK796 hb
 replace BK797:=bb_ BK797 hb
 replace HB:=b1_ hb
 clear hb ho0
 obtain ⟨Ao12,co12,eo12⟩:=Kd.R_slice HO806.out
 (first|subst eo12|(injection eo12 with a_ b_ c_;have a_:=a_.symm;have c_:=c_.symm;clear b_;subst a_;subst c_))
 refine hK.out _ _ ⟨cz0_ BK796,cz1_ BK796⟩ (fun hHeld=>?_)
 clear hK K
 refine no_ (some 9) ?_
 refine on_ 9 (some 12) (bl_ 12 1023) HT_ (fun K hK=>?_)
 refine gO_ Try.func154 #[.slice Ao12 t804.length co12,.slice A0_1 l0_1.length c0_1] (by rfl) rfl rfl qa_ ?_
 with_reducible refine (Z56.calls k _ _ t804 _ _ l0_1 t807 _ (cr_ HO806) ((Kd.R_reads' HO806.out).2.1) (cb_ HR0_1) HC0_1.out A4.out).mono ?_
 rintro e w13 ⟨v808,rfl,ho0,hb⟩
 refine ⟨_,rfl,?_⟩
 have HO809:=A_ (rE_ (Kd.R_new' (Kd.R_new' ho0 (Kd.R_lt (rr_ HO803))) (Kd.R_lt (rr_ HO806))) (bF_ hB_))
 replace HO803:=A_ (Kd.R_elder' (rr_ HO803) (Kd.R_base ho0) hb)
 replace HO806:=A_ (Kd.R_elder' (rr_ HO806) (Kd.R_base ho0) hb)
 replace BK796:=bb_ BK796 hb
 replace BK797:=bb_ BK797 hb
 replace HB:=b1_ hb
 clear hb ho0
 obtain ⟨Ao14,co14,eo14⟩:=Kd.R_slice HO809.out
 (first|subst eo14|(injection eo14 with a_ b_ c_;have a_:=a_.symm;have c_:=c_.symm;clear b_;subst a_;subst c_))
 obtain ⟨Ao15,co15,eo15⟩:=Kd.R_slice HO803.out
 (first|subst eo15|(injection eo15 with a_ b_ c_;have a_:=a_.symm;have c_:=c_.symm;clear b_;subst a_;subst c_))
 refine hK.out _ _ ⟨cz0_ BK796,cz1_ BK796⟩ (fun hHeld=>?_)
 clear hK K
 refine no_ (some 12) ?_
 refine pu_ 10 (some 13) (bl_ 12 2047) HT_ ?_
 refine on_ 11 (none) (bl_ 12 4095) HT_ (fun K hK=>?_)
 have hs16:w13.cell? ⟨gb797,0,none⟩ = some (.slice none 0 0):=cz0_ BK797
 have hfs16:=kD_ BK797.out 0
 have hns16_0:=NB796_797.out
 have hms16_0:=NB797_796.out
 have hs17:w13.cell? ⟨gb797,1,none⟩ = some (.slice none 0 0):=cz1_ BK797
 have hfs17:=kD_ BK797.out 1
 have hns17_0:=NB796_797.out
 have hms17_0:=NB797_796.out
 refine skip_ (w1:=?_) (by rfl) rfl ?_ ?_
 rotate_left
 ·go_simp
  rfl
 refine hK.out _ _ ⟨((cell_far (p:=⟨gb797,_,none⟩) NB796_797.out _).trans (((cell_far (p:=⟨gb797,_,none⟩) NB796_797.out _).trans (hHeld.1)))),((cell_far (p:=⟨gb797,_,none⟩) NB796_797.out _).trans (((cell_far (p:=⟨gb797,_,none⟩) NB796_797.out _).trans (hHeld.2))))⟩ (fun hHeld=>?_)
 clear hK K
 refine done_ (done_of HT_.out (by kernel_rfl)) ?_
 try go_wp2
 refine bodyPost_ret (results_cell_row rfl _ _ gb797 25 #[.slice Ao15 y801.length co15,.slice Ao14 t807.length co14] (0,0) _ rfl qp_ Try.underlying25 rfl (by kernel_rfl)) rfl ?_
 exact ⟨_,_,qb_,(rw_ (Kd.R_mono (fa_ HO803 BK797) (fun _ hk=>hk.2))),(rw_ (Kd.R_mono (fa_ HO809 BK797) (fun _ hk=>hk.1.2))),hB_⟩
def Z29.f (k:Nat) (l0_0:List Int) (l0_1:List Int):Option (List Int × List Int):=(some (([]:List Int):List Int)).bind fun y812=>(if y812.length + l0_0.length < 17592186044416 then ((Z56.f k l0_0 l0_1).bind fun t818=>(some ((y812 ++ l0_0),t818))) else (none))
theorem Z29.mono:∀ a0 a1 k,LeO (Z29.f k a0 a1) (Z29.f (k + 1) a0 a1):=by
 intro a0 a1 k
 unfold Z29.f
 repeat' first|exact Z56.mono _ _ _|exact lo_|refine LeO.ite ?_ ?_|refine LeO.bind ?_ (fun _=>?_)
def Z29.T1:Bool × List (List Nat × List Nat):=(true,[([],[]),([],[]),([1],[1]),([0,2],[0,2]),([],[]),([4],[4]),([],[]),([6],[6]),([5,7,3],[5,7]),([3,8],[3,8]),([9,8,0,1,2,3,4,5,6,7,8,9],[9])])
def Z29.B1:List Nat:=[0,0,2,7,0,16,0,64,255,511,1023]
theorem Z29.tab1:rtab .any (opsOf Try.f125 1) = Z29.T1:=by kernel_rfl
theorem Z29.bits1:waitsOk Z29.T1.2 Z29.B1 = true:=by kernel_rfl
set_option maxHeartbeats 8000000 in
set_option maxRecDepth 100000 in
theorem Z29.calls (k:Nat) (A0_0:Option Addr) (c0_0:Nat) (l0_0:List Int) (A0_1:Option Addr) (c0_1:Nat) (l0_1:List Int) (r1:List Int) (r2:List Int) (w:World) (hr0_0:Kd.C (Kd.int .i64) w A0_0 l0_0.length l0_0) (hc0_0:l0_0.length≤c0_0) (hr0_1:Kd.C (Kd.int .i64) w A0_1 l0_1.length l0_1) (hc0_1:l0_1.length≤c0_1) (h:Z29.f k l0_0 l0_1 = some (r1,r2)) :
  Calls Try.prog 125 #[.agg #[.slice A0_0 l0_0.length c0_0,.slice A0_1 l0_1.length c0_1]] w fun e w'=>∃ v0_ v1_:Value,e = .returned (.agg #[v0_,v1_])∧Kd.R (Kd.int .i64) 3 w' w.heap.size (fun k_=>some k_≠(v1_:Value).ownBlock) v0_ r1∧Kd.R (Kd.int .i64) 3 w' w.heap.size (fun k_=>some k_≠(v0_:Value).ownBlock) v1_ r2∧Below w.heap.size w w':=by
 have hu25:=Try.underlying25
 have HR0_0:=A_ hr0_0
 have HC0_0:=A_ hc0_0
 clear hr0_0 hc0_0
 have HR0_1:=A_ hr0_1
 have HC0_1:=A_ hc0_1
 clear hr0_1 hc0_1
 have HB:=A_ (Below.refl w.heap.size w)
 have H:=h
 unfold Z29.f at H
 clear h
 obtain ⟨y812,hy812⟩:∃ y_:List Int,y_ = (([]:List Int)):=⟨_,rfl⟩
 replace H:(if y812.length + l0_0.length < 17592186044416 then ((Z56.f k l0_0 l0_1).bind fun t818=>(some ((y812 ++ l0_0),t818))) else (none)) = some (r1,r2):=by first | (rw [hy812];exact H) | exact H
 have Ny812:=A_ hy812
 clear hy812
 have c2:=cp_ H
 replace H:=ca_ H
 have LMc2:=A_ c2
 clear c2
 obtain ⟨y815,hy815⟩:∃ y_:List Int,y_ = (y812 ++ l0_0):=⟨_,rfl⟩
 replace H:((Z56.f k l0_0 l0_1).bind fun t818=>(some (y815,t818))) = some (r1,r2):=by first | (rw [hy815];exact H) | exact H
 have Ny815:=A_ hy815
 clear hy815
 obtain ⟨t818,A3,H⟩:=bi_ H
 simp only [Option.some.injEq,Prod.mk.injEq] at H
 obtain ⟨rfl,rfl⟩:=H
 go_enter Try.func125,Try.ntmps125
 try go_wp2_with (first | ((with_reducible refine gB_ (N:=1) rfl ?_);refine bx_ 1 #[.slice A0_0 l0_0.length c0_0,.slice A0_1 l0_1.length c0_1] 25 ?_;intro gb810 hg w4 hbox hb;have BK810:=A_ hbox;have GW810:=gw_ w hg;have GE810:=GW810;replace HB:=b1_ hb;clear hb hbox hg) | ((with_reducible refine gB_ (N:=2) rfl ?_);refine bx_ 2 #[.slice none 0 0,.slice none 0 0] 25 ?_;intro gb811 hg w5 hbox hb;have BK811:=A_ hbox;have GW811:=gw_ w hg;have GE811:=GW811;replace HB:=b1_ hb;have NB810_811:=gN_ BK810 hg;have NB811_810:=gP_ BK810 hg;replace BK810:=bb_ BK810 hb;clear hb hbox hg))
 replace BK810:=A_ (kB_ BK810.out)
 replace BK811:=A_ (kB_ BK811.out)
 replace HB:=A_ (bC_ HB.out)
 refine start_ (n:=11) (S:=fun w'=>w'.cell? ⟨gb810,0,none⟩ = some (.slice A0_0 l0_0.length c0_0)∧w'.cell? ⟨gb810,1,none⟩ = some (.slice A0_1 l0_1.length c0_1)) (ds:=[]) (bl_ 11 0) (by kernel_rfl) rfl (by kernel_rfl) ⟨cz0_ BK810,cz1_ BK810⟩ (fun hHeld=>?_);refine with_tabW Z29.tab1 Z29.bits1 (fun HT_ HW_=>?_)
 generalize w5.drew = w6 at BK810 BK811 HB hHeld ⊢
 refine pu_ 1 (some 4) (bl_ 11 2) HT_ ?_
 refine pu_ 4 (some 7) (bl_ 11 18) HT_ ?_
 refine pu_ 6 (some 9) (bl_ 11 82) HT_ ?_
 refine ta_ 2 (some 5) (bl_ 11 86) HT_ HW_ hHeld ?_
 refine ta_ 5 (some 8) (bl_ 11 118) HT_ HW_ hHeld ?_
 refine ta_ 7 (some 10) (bl_ 11 246) HT_ HW_ hHeld ?_
 refine on_ 0 (some 3) (bl_ 11 247) HT_ (fun K hK=>?_)
 refine Kd.R_lit_step (Kd.int .i64) _ 3 ?hg (N:=3) ?hd (xs:=([]:List Int)) (inner:=[]) (ok:=fun _=>True) (okp:=fun _=>True) ?hr ?hp (fun _ hk=>hk) trivial (Below.refl _ _) (nA_ _) (by simp) ?_;(case hd=>rfl);(case hg=>rfl);(case hr=>first | (go_simp;done) | (go_simp;rfl));(case hp=>exact (Reps.none _ _))
 intro v813 w7 ho8 hb hg_ hnew_
 clear hg_ hnew_
 (first | rw [← Ny812.out] at ho8 | (simp only [Int.reduceToNat] at ho8;rw [← Ny812.out] at ho8))
 have HO814:=rl_ w ho8
 replace BK810:=bb_ BK810 hb
 replace BK811:=bb_ BK811 hb
 replace HB:=b1_ hb
 clear hb ho8
 refine hK.out _ _ ⟨cz0_ BK810,cz1_ BK810⟩ (fun hHeld=>?_)
 clear hK K
 refine no_ (some 3) ?_
 refine on_ 3 (some 6) (bl_ 11 255) HT_ (fun K hK=>?_)
 refine Kd.R_append_rows_step (Kd.int .i64) (w0:=w) w.heap.size (by rfl) (.tmp 3) (.tmp 5) 23 3 (.int .i64 0) 8 rfl Try.underlying23 info3 rfl (by decide) (by omega) v813 y812 l0_0 _ _ _ (fun _=>True) (fun _=>False) rfl rfl ?aO ?aR (fun _ _ h=>h) (fun _ h=>h.elim) ?aF ?aB ?aS ?aL ?_
 (case aR=>exact cb_ HR0_0)
 (case aB=>exact hB_)
 (case aF=>exact (fun _ _=>trivial))
 (case aO=>exact (rr_ HO814))
 (case aS=>exact (bF_ hB_))
 (case aL=>have:=LMc2.out;omega)
 intro v816 w9 ho hb hg hat
 rw [← Ny815.out] at ho
 replace BK810:=A_ (blk_grown (kk_ BK810) hg (Kd.R_ne HO814.out BK810.out (by decide)))
 replace BK811:=A_ (blk_grown (kk_ BK811) hg (Kd.R_ne HO814.out BK811.out (by decide)))
 replace HB:=A_ hb
 have HO817:=A_ ho
 clear HO814
 clear ho hb hg hat
 refine hK.out _ _ ⟨cz0_ BK810,cz1_ BK810⟩ (fun hHeld=>?_)
 clear hK K
 refine no_ (some 6) ?_
 refine on_ 8 (some 11) (bl_ 11 511) HT_ (fun K hK=>?_)
 refine gO_ Try.func154 #[.slice A0_0 l0_0.length c0_0,.slice A0_1 l0_1.length c0_1] (by rfl) rfl rfl qa_ ?_
 with_reducible refine (Z56.calls k _ _ l0_0 _ _ l0_1 t818 _ (cb_ HR0_0) HC0_0.out (cb_ HR0_1) HC0_1.out A3.out).mono ?_
 rintro e w10 ⟨v819,rfl,ho0,hb⟩
 refine ⟨_,rfl,?_⟩
 have HO820:=A_ (rE_ (Kd.R_new' ho0 (Kd.R_lt (rr_ HO817))) (bF_ hB_))
 replace HO817:=A_ (Kd.R_elder' (rr_ HO817) (Kd.R_base ho0) hb)
 replace BK810:=bb_ BK810 hb
 replace BK811:=bb_ BK811 hb
 replace HB:=b1_ hb
 clear hb ho0
 obtain ⟨Ao11,co11,eo11⟩:=Kd.R_slice HO820.out
 (first|subst eo11|(injection eo11 with a_ b_ c_;have a_:=a_.symm;have c_:=c_.symm;clear b_;subst a_;subst c_))
 obtain ⟨Ao12,co12,eo12⟩:=Kd.R_slice HO817.out
 (first|subst eo12|(injection eo12 with a_ b_ c_;have a_:=a_.symm;have c_:=c_.symm;clear b_;subst a_;subst c_))
 refine hK.out _ _ ⟨cz0_ BK810,cz1_ BK810⟩ (fun hHeld=>?_)
 clear hK K
 refine no_ (some 11) ?_
 refine pu_ 9 (some 12) (bl_ 11 1023) HT_ ?_
 refine on_ 10 (none) (bl_ 11 2047) HT_ (fun K hK=>?_)
 have hs13:w10.cell? ⟨gb811,0,none⟩ = some (.slice none 0 0):=cz0_ BK811
 have hfs13:=kD_ BK811.out 0
 have hns13_0:=NB810_811.out
 have hms13_0:=NB811_810.out
 have hs14:w10.cell? ⟨gb811,1,none⟩ = some (.slice none 0 0):=cz1_ BK811
 have hfs14:=kD_ BK811.out 1
 have hns14_0:=NB810_811.out
 have hms14_0:=NB811_810.out
 refine skip_ (w1:=?_) (by rfl) rfl ?_ ?_
 rotate_left
 ·go_simp
  rfl
 refine hK.out _ _ ⟨((cell_far (p:=⟨gb811,_,none⟩) NB810_811.out _).trans (((cell_far (p:=⟨gb811,_,none⟩) NB810_811.out _).trans (hHeld.1)))),((cell_far (p:=⟨gb811,_,none⟩) NB810_811.out _).trans (((cell_far (p:=⟨gb811,_,none⟩) NB810_811.out _).trans (hHeld.2))))⟩ (fun hHeld=>?_)
 clear hK K
 refine done_ (done_of HT_.out (by kernel_rfl)) ?_
 try go_wp2
 refine bodyPost_ret (results_cell_row rfl _ _ gb811 25 #[.slice Ao12 y815.length co12,.slice Ao11 t818.length co11] (0,0) _ rfl qp_ Try.underlying25 rfl (by kernel_rfl)) rfl ?_
 exact ⟨_,_,qb_,(rw_ (Kd.R_mono (fa_ HO817 BK811) (fun _ hk=>hk.2))),(rw_ (Kd.R_mono (fa_ HO820 BK811) (fun _ hk=>hk.2))),hB_⟩
def Z58.f (k:Nat) (l0_0:List Int) (l0_1:List Int):Option (List Int × List Int):=(Z28.f k l0_1).bind fun t823=>((some (([]:List Int):List Int)).bind fun y826=>(if y826.length + l0_0.length < 17592186044416 then (some (t823,(y826 ++ l0_0))) else (none)))
theorem Z58.mono:∀ a0 a1 k,LeO (Z58.f k a0 a1) (Z58.f (k + 1) a0 a1):=by
 intro a0 a1 k
 unfold Z58.f
 repeat' first|exact Z28.mono _ _|exact lo_|refine LeO.ite ?_ ?_|refine LeO.bind ?_ (fun _=>?_)
def Z58.T1:Bool × List (List Nat × List Nat):=(true,[([],[]),([0],[0]),([1],[1]),([],[]),([],[]),([4],[4]),([3,5,2],[3,5]),([2,6],[2,6]),([7,6,0,1,2,3,4,5,6,7],[7])])
def Z58.B1:List Nat:=[0,1,3,0,0,16,63,127,255]
theorem Z58.tab1:rtab .any (opsOf Try.f126 1) = Z58.T1:=by kernel_rfl
theorem Z58.bits1:waitsOk Z58.T1.2 Z58.B1 = true:=by kernel_rfl
set_option maxHeartbeats 8000000 in
set_option maxRecDepth 100000 in
theorem Z58.calls (k:Nat) (A0_0:Option Addr) (c0_0:Nat) (l0_0:List Int) (A0_1:Option Addr) (c0_1:Nat) (l0_1:List Int) (r1:List Int) (r2:List Int) (w:World) (hr0_0:Kd.C (Kd.int .i64) w A0_0 l0_0.length l0_0) (hc0_0:l0_0.length≤c0_0) (hr0_1:Kd.C (Kd.int .i64) w A0_1 l0_1.length l0_1) (hc0_1:l0_1.length≤c0_1) (h:Z58.f k l0_0 l0_1 = some (r1,r2)) :
  Calls Try.prog 126 #[.agg #[.slice A0_0 l0_0.length c0_0,.slice A0_1 l0_1.length c0_1]] w fun e w'=>∃ v0_ v1_:Value,e = .returned (.agg #[v0_,v1_])∧Kd.R (Kd.int .i64) 3 w' w.heap.size (fun k_=>some k_≠(v1_:Value).ownBlock) v0_ r1∧Kd.R (Kd.int .i64) 3 w' w.heap.size (fun k_=>some k_≠(v0_:Value).ownBlock) v1_ r2∧Below w.heap.size w w':=by
 have hu25:=Try.underlying25
 have HR0_0:=A_ hr0_0
 have HC0_0:=A_ hc0_0
 clear hr0_0 hc0_0
 have HR0_1:=A_ hr0_1
 have HC0_1:=A_ hc0_1
 clear hr0_1 hc0_1
 have HB:=A_ (Below.refl w.heap.size w)
 have H:=h
 unfold Z58.f at H
 clear h
 obtain ⟨t823,A2,H⟩:=bi_ H
 obtain ⟨y826,hy826⟩:∃ y_:List Int,y_ = (([]:List Int)):=⟨_,rfl⟩
 replace H:(if y826.length + l0_0.length < 17592186044416 then (some (t823,(y826 ++ l0_0))) else (none)) = some (r1,r2):=by first | (rw [hy826];exact H) | exact H
 have Ny826:=A_ hy826
 clear hy826
 have c3:=cp_ H
 replace H:=ca_ H
 have LMc3:=A_ c3
 clear c3
 obtain ⟨y829,hy829⟩:∃ y_:List Int,y_ = (y826 ++ l0_0):=⟨_,rfl⟩
 replace H:(some (t823,y829)) = some (r1,r2):=by first | (rw [hy829];exact H) | exact H
 have Ny829:=A_ hy829
 clear hy829
 simp only [Option.some.injEq,Prod.mk.injEq] at H
 obtain ⟨rfl,rfl⟩:=H
 go_enter Try.func126,Try.ntmps126
 try go_wp2_with (first | ((with_reducible refine gB_ (N:=1) rfl ?_);refine bx_ 1 #[.slice A0_0 l0_0.length c0_0,.slice A0_1 l0_1.length c0_1] 25 ?_;intro gb821 hg w4 hbox hb;have BK821:=A_ hbox;have GW821:=gw_ w hg;have GE821:=GW821;replace HB:=b1_ hb;clear hb hbox hg) | ((with_reducible refine gB_ (N:=2) rfl ?_);refine bx_ 2 #[.slice none 0 0,.slice none 0 0] 25 ?_;intro gb822 hg w5 hbox hb;have BK822:=A_ hbox;have GW822:=gw_ w hg;have GE822:=GW822;replace HB:=b1_ hb;have NB821_822:=gN_ BK821 hg;have NB822_821:=gP_ BK821 hg;replace BK821:=bb_ BK821 hb;clear hb hbox hg))
 replace BK821:=A_ (kB_ BK821.out)
 replace BK822:=A_ (kB_ BK822.out)
 replace HB:=A_ (bC_ HB.out)
 refine start_ (n:=9) (S:=fun w'=>w'.cell? ⟨gb821,0,none⟩ = some (.slice A0_0 l0_0.length c0_0)∧w'.cell? ⟨gb821,1,none⟩ = some (.slice A0_1 l0_1.length c0_1)) (ds:=[]) (bl_ 9 0) (by kernel_rfl) rfl (by kernel_rfl) ⟨cz0_ BK821,cz1_ BK821⟩ (fun hHeld=>?_);refine with_tabW Z58.tab1 Z58.bits1 (fun HT_ HW_=>?_)
 generalize w5.drew = w6 at BK821 BK822 HB hHeld ⊢
 refine pu_ 0 (some 3) (bl_ 9 1) HT_ ?_
 refine pu_ 4 (some 7) (bl_ 9 17) HT_ ?_
 refine ta_ 1 (some 4) (bl_ 9 19) HT_ HW_ hHeld ?_
 refine ta_ 5 (some 8) (bl_ 9 51) HT_ HW_ hHeld ?_
 refine join_ (σ:=Value × Value) 3 (bl_ 9 63) (fun s_=>[(5,s_.1),(6,s_.2)]) (fun s_ w'=>(w'.cell? ⟨gb821,0,none⟩ = some (.slice A0_0 l0_0.length c0_0)∧w'.cell? ⟨gb821,1,none⟩ = some (.slice A0_1 l0_1.length c0_1))∧(Kd.R (Kd.int .i64) 3 w' w.heap.size (fun k_=>some k_≠(s_.2:Value).ownBlock) s_.1 t823)∧(Kd.R (Kd.int .i64) 3 w' w.heap.size (fun k_=>some k_≠(s_.1:Value).ownBlock) s_.2 y826)∧(w'.heap[gb821]? = some (.cells #[.slice A0_0 l0_0.length c0_0,.slice A0_1 l0_1.length c0_1] 25 (0,0)))∧(w'.heap[gb822]? = some (.cells #[.slice none 0 0,.slice none 0 0] 25 (0,0)))∧(Below w.heap.size w w')) ?_ ?_
 rotate_left
 ·intro hCont
  refine two_ (i:=2) (j:=3) (Ni:=some 5) (Nj:=some 6) (bl_ 9 55) (bl_ 9 59) rfl rfl rfl rfl (two_of HT_.out (by kernel_rfl)) (by decide) (by decide) (fun K hK=>?_) (fun K hK=>?_)
  ·skip
   refine gO_ Try.func150 #[.slice A0_1 l0_1.length c0_1] (by rfl) rfl rfl qa_ ?_
   with_reducible refine (Z28.calls k _ _ l0_1 t823 _ (cb_ HR0_1) HC0_1.out A2.out).mono ?_
   rintro e w7 ⟨v824,rfl,ho0,hb⟩
   refine ⟨_,rfl,?_⟩
   have HO825:=rl_ w ho0
   replace BK821:=bb_ BK821 hb
   replace BK822:=bb_ BK822 hb
   replace HB:=b1_ hb
   clear hb ho0
   refine hK.out _ _ ⟨cz0_ BK821,cz1_ BK821⟩ (fun hHeld=>?_)
   clear hK K
   refine no_ (some 5) ?_
   refine on_ 3 (some 6) (bl_ 9 63) HT_ (fun K hK=>?_)
   refine Kd.R_lit_step (Kd.int .i64) _ 3 ?hg (N:=6) ?hd (xs:=([]:List Int)) (inner:=[]) (ok:=fun _=>True) (okp:=fun _=>True) ?hr ?hp (fun _ hk=>hk) trivial (Below.refl _ _) (nA_ _) (by simp) ?_;(case hd=>rfl);(case hg=>rfl);(case hr=>first | (go_simp;done) | (go_simp;rfl));(case hp=>exact (Reps.none _ _))
   intro v827 w8 ho9 hb hg_ hnew_
   clear hg_ hnew_
   (first | rw [← Ny826.out] at ho9 | (simp only [Int.reduceToNat] at ho9;rw [← Ny826.out] at ho9))
   have HO828:=A_ (rE_ (Kd.R_new' ho9 (Kd.R_lt (rr_ HO825))) (bF_ hB_))
   replace HO825:=A_ (Kd.R_elder' (rr_ HO825) (Kd.R_base ho9) hb)
   replace BK821:=bb_ BK821 hb
   replace BK822:=bb_ BK822 hb
   replace HB:=b1_ hb
   clear hb ho9
   refine hK.out _ _ ⟨cz0_ BK821,cz1_ BK821⟩ (fun hHeld=>?_)
   clear hK K
   refine no_ (some 6) ?_
   exact norm_ (by simp only [putAll,Act.put,sA_,sB_,sC_]) (hCont (v824,v827) _ ⟨hHeld,(rw_ (Kd.R_mono HO825.out (fun _ hk=>hk.2))),(rw_ (Kd.R_mono HO828.out (fun _ hk=>hk.2))),(kk_ BK821),(kk_ BK822),hB_⟩)
  ·skip
   refine Kd.R_lit_step (Kd.int .i64) _ 3 ?hg (N:=6) ?hd (xs:=([]:List Int)) (inner:=[]) (ok:=fun _=>True) (okp:=fun _=>True) ?hr ?hp (fun _ hk=>hk) trivial (Below.refl _ _) (nA_ _) (by simp) ?_;(case hd=>rfl);(case hg=>rfl);(case hr=>first | (go_simp;done) | (go_simp;rfl));(case hp=>exact (Reps.none _ _))
   intro v827 w7 ho8 hb hg_ hnew_
   clear hg_ hnew_
   (first | rw [← Ny826.out] at ho8 | (simp only [Int.reduceToNat] at ho8;rw [← Ny826.out] at ho8))
   have HO828:=rl_ w ho8
   replace BK821:=bb_ BK821 hb
   replace BK822:=bb_ BK822 hb
   replace HB:=b1_ hb
   clear hb ho8
   refine hK.out _ _ ⟨cz0_ BK821,cz1_ BK821⟩ (fun hHeld=>?_)
   clear hK K
   refine no_ (some 6) ?_
   refine on_ 2 (some 5) (bl_ 9 63) HT_ (fun K hK=>?_)
   refine gO_ Try.func150 #[.slice A0_1 l0_1.length c0_1] (by rfl) rfl rfl qa_ ?_
   with_reducible refine (Z28.calls k _ _ l0_1 t823 _ (cb_ HR0_1) HC0_1.out A2.out).mono ?_
   rintro e w9 ⟨v824,rfl,ho0,hb⟩
   refine ⟨_,rfl,?_⟩
   have HO825:=A_ (rE_ (Kd.R_new' ho0 (Kd.R_lt (rr_ HO828))) (bF_ hB_))
   replace HO828:=A_ (Kd.R_elder' (rr_ HO828) (Kd.R_base ho0) hb)
   replace BK821:=bb_ BK821 hb
   replace BK822:=bb_ BK822 hb
   replace HB:=b1_ hb
   clear hb ho0
   refine hK.out _ _ ⟨cz0_ BK821,cz1_ BK821⟩ (fun hHeld=>?_)
   clear hK K
   refine no_ (some 5) ?_
   exact norm_ (by simp only [putAll,Act.put,sA_,sB_,sC_]) (hCont (v824,v827) _ ⟨hHeld,(rw_ (Kd.R_mono HO825.out (fun _ hk=>hk.2))),(rw_ (Kd.R_mono HO828.out (fun _ hk=>hk.2))),(kk_ BK821),(kk_ BK822),hB_⟩)
 rintro ⟨v824,v827⟩ w10 ⟨hS_,h0_,h1_,h2_,h3_,h4_⟩
 have n0_:Aside0 (Kd.R (Kd.int .i64) 3 w10 w.heap.size (fun k_=>some k_≠(v827:Value).ownBlock) v824 t823):=⟨h0_⟩
 have n1_:Aside0 (Kd.R (Kd.int .i64) 3 w10 w.heap.size (fun k_=>some k_≠(v824:Value).ownBlock) v827 y826):=⟨h1_⟩
 have n2_:Aside0 (w10.heap[gb821]? = some (.cells #[.slice A0_0 l0_0.length c0_0,.slice A0_1 l0_1.length c0_1] 25 (0,0))):=⟨h2_⟩
 have n3_:Aside0 (w10.heap[gb822]? = some (.cells #[.slice none 0 0,.slice none 0 0] 25 (0,0))):=⟨h3_⟩
 have n4_:Aside0 (Below w.heap.size w w10):=⟨h4_⟩
 clear BK821
 clear BK822
 clear HB
 clear h0_ h1_ h2_ h3_ h4_
 have HO825:=n0_
 have HO828:=n1_
 have BK821:=n2_
 have BK822:=n3_
 have HB:=n4_
 clear n0_ n1_ n2_ n3_ n4_
 have hHeld:w10.cell? ⟨gb821,0,none⟩ = some (.slice A0_0 l0_0.length c0_0)∧w10.cell? ⟨gb821,1,none⟩ = some (.slice A0_1 l0_1.length c0_1):=hS_
 refine norm_ (a':=?_) ?_ ?_
 rotate_left
 ·simp only [putAll,Act.put,sA_,sB_,sC_]
  rfl
 refine on_ 6 (some 9) (bl_ 9 127) HT_ (fun K hK=>?_)
 refine Kd.R_append_rows_step (Kd.int .i64) (w0:=w) w.heap.size (by rfl) (.tmp 6) (.tmp 8) 23 3 (.int .i64 0) 8 rfl Try.underlying23 info3 rfl (by decide) (by omega) v827 y826 l0_0 _ _ _ (fun k_=>some k_≠(v824:Value).ownBlock) (fun _=>False) rfl rfl ?aO ?aR (fun _ _ h=>h) (fun _ h=>h.elim) ?aF ?aB ?aS ?aL ?_
 (case aR=>exact cb_ HR0_0)
 (case aB=>exact hB_)
 (case aF=>exact (fun k_ hk=>Kd.fresh' (Kd.R_lt (rr_ HO825)) k_ hk))
 (case aO=>exact (rr_ HO828))
 (case aS=>exact (bF_ hB_))
 (case aL=>have:=LMc3.out;omega)
 intro v830 w11 ho hb hg hat
 rw [← Ny829.out] at ho
 replace BK821:=A_ (blk_grown (kk_ BK821) hg (Kd.R_ne HO828.out BK821.out (by decide)))
 replace BK822:=A_ (blk_grown (kk_ BK822) hg (Kd.R_ne HO828.out BK822.out (by decide)))
 replace HO825:=A_ (Kd.R_after (ok:=(fun _=>True)) (rw_ (Kd.R_mono HO825.out (fun _ hk=>⟨trivial,hk⟩))) hg hat)
 replace HB:=A_ hb
 have HO831:=A_ ho
 clear HO828
 clear ho hb hg hat
 obtain ⟨Ao12,co12,eo12⟩:=Kd.R_slice HO831.out
 (first|subst eo12|(injection eo12 with a_ b_ c_;have a_:=a_.symm;have c_:=c_.symm;clear b_;subst a_;subst c_))
 obtain ⟨Ao13,co13,eo13⟩:=Kd.R_slice HO825.out
 (first|subst eo13|(injection eo13 with a_ b_ c_;have a_:=a_.symm;have c_:=c_.symm;clear b_;subst a_;subst c_))
 refine hK.out _ _ ⟨cz0_ BK821,cz1_ BK821⟩ (fun hHeld=>?_)
 clear hK K
 refine no_ (some 9) ?_
 refine pu_ 7 (some 10) (bl_ 9 255) HT_ ?_
 refine on_ 8 (none) (bl_ 9 511) HT_ (fun K hK=>?_)
 have hs14:w11.cell? ⟨gb822,0,none⟩ = some (.slice none 0 0):=cz0_ BK822
 have hfs14:=kD_ BK822.out 0
 have hns14_0:=NB821_822.out
 have hms14_0:=NB822_821.out
 have hs15:w11.cell? ⟨gb822,1,none⟩ = some (.slice none 0 0):=cz1_ BK822
 have hfs15:=kD_ BK822.out 1
 have hns15_0:=NB821_822.out
 have hms15_0:=NB822_821.out
 refine skip_ (w1:=?_) (by rfl) rfl ?_ ?_
 rotate_left
 ·go_simp
  rfl
 refine hK.out _ _ ⟨((cell_far (p:=⟨gb822,_,none⟩) NB821_822.out _).trans (((cell_far (p:=⟨gb822,_,none⟩) NB821_822.out _).trans (hHeld.1)))),((cell_far (p:=⟨gb822,_,none⟩) NB821_822.out _).trans (((cell_far (p:=⟨gb822,_,none⟩) NB821_822.out _).trans (hHeld.2))))⟩ (fun hHeld=>?_)
 clear hK K
 refine done_ (done_of HT_.out (by kernel_rfl)) ?_
 try go_wp2
 refine bodyPost_ret (results_cell_row rfl _ _ gb822 25 #[.slice Ao13 t823.length co13,.slice Ao12 y829.length co12] (0,0) _ rfl qp_ Try.underlying25 rfl (by kernel_rfl)) rfl ?_
 exact ⟨_,_,qb_,(rw_ (Kd.R_mono (fa_ HO825 BK822) (fun _ hk=>hk.2))),(rw_ (fa_ HO831 BK822)),hB_⟩
def Z42.f (k:Nat) (l0_0:List Int) (l0_1:List Int):Option (List Int × List Int):=(some (([]:List Int):List Int)).bind fun y834=>(if y834.length + l0_1.length < 17592186044416 then ((Z28.f k l0_0).bind fun t840=>(some ((y834 ++ l0_1),t840))) else (none))
theorem Z42.mono:∀ a0 a1 k,LeO (Z42.f k a0 a1) (Z42.f (k + 1) a0 a1):=by
 intro a0 a1 k
 unfold Z42.f
 repeat' first|exact Z28.mono _ _|exact lo_|refine LeO.ite ?_ ?_|refine LeO.bind ?_ (fun _=>?_)
def Z42.T1:Bool × List (List Nat × List Nat):=(true,[([],[]),([],[]),([1],[1]),([0,2],[0,2]),([],[]),([4],[4]),([5,3],[5]),([3,6],[3,6]),([7,6,0,1,2,3,4,5,6,7],[7])])
def Z42.B1:List Nat:=[0,0,2,7,0,16,63,127,255]
theorem Z42.tab1:rtab .any (opsOf Try.f127 1) = Z42.T1:=by kernel_rfl
theorem Z42.bits1:waitsOk Z42.T1.2 Z42.B1 = true:=by kernel_rfl
set_option maxHeartbeats 8000000 in
set_option maxRecDepth 100000 in
theorem Z42.calls (k:Nat) (A0_0:Option Addr) (c0_0:Nat) (l0_0:List Int) (A0_1:Option Addr) (c0_1:Nat) (l0_1:List Int) (r1:List Int) (r2:List Int) (w:World) (hr0_0:Kd.C (Kd.int .i64) w A0_0 l0_0.length l0_0) (hc0_0:l0_0.length≤c0_0) (hr0_1:Kd.C (Kd.int .i64) w A0_1 l0_1.length l0_1) (hc0_1:l0_1.length≤c0_1) (h:Z42.f k l0_0 l0_1 = some (r1,r2)) :
  Calls Try.prog 127 #[.agg #[.slice A0_0 l0_0.length c0_0,.slice A0_1 l0_1.length c0_1]] w fun e w'=>∃ v0_ v1_:Value,e = .returned (.agg #[v0_,v1_])∧Kd.R (Kd.int .i64) 3 w' w.heap.size (fun k_=>some k_≠(v1_:Value).ownBlock) v0_ r1∧Kd.R (Kd.int .i64) 3 w' w.heap.size (fun k_=>some k_≠(v0_:Value).ownBlock) v1_ r2∧Below w.heap.size w w':=by
 have hu25:=Try.underlying25
 have HR0_0:=A_ hr0_0
 have HC0_0:=A_ hc0_0
 clear hr0_0 hc0_0
 have HR0_1:=A_ hr0_1
 have HC0_1:=A_ hc0_1
 clear hr0_1 hc0_1
 have HB:=A_ (Below.refl w.heap.size w)
 have H:=h
 unfold Z42.f at H
 clear h
 obtain ⟨y834,hy834⟩:∃ y_:List Int,y_ = (([]:List Int)):=⟨_,rfl⟩
 replace H:(if y834.length + l0_1.length < 17592186044416 then ((Z28.f k l0_0).bind fun t840=>(some ((y834 ++ l0_1),t840))) else (none)) = some (r1,r2):=by first | (rw [hy834];exact H) | exact H
 have Ny834:=A_ hy834
 clear hy834
 have c2:=cp_ H
 replace H:=ca_ H
 have LMc2:=A_ c2
 clear c2
 obtain ⟨y837,hy837⟩:∃ y_:List Int,y_ = (y834 ++ l0_1):=⟨_,rfl⟩
 replace H:((Z28.f k l0_0).bind fun t840=>(some (y837,t840))) = some (r1,r2):=by first | (rw [hy837];exact H) | exact H
 have Ny837:=A_ hy837
 clear hy837
 obtain ⟨t840,A3,H⟩:=bi_ H
 simp only [Option.some.injEq,Prod.mk.injEq] at H
 obtain ⟨rfl,rfl⟩:=H
 go_enter Try.func127,Try.ntmps127
 try go_wp2_with (first | ((with_reducible refine gB_ (N:=1) rfl ?_);refine bx_ 1 #[.slice A0_0 l0_0.length c0_0,.slice A0_1 l0_1.length c0_1] 25 ?_;intro gb832 hg w4 hbox hb;have BK832:=A_ hbox;have GW832:=gw_ w hg;have GE832:=GW832;replace HB:=b1_ hb;clear hb hbox hg) | ((with_reducible refine gB_ (N:=2) rfl ?_);refine bx_ 2 #[.slice none 0 0,.slice none 0 0] 25 ?_;intro gb833 hg w5 hbox hb;have BK833:=A_ hbox;have GW833:=gw_ w hg;have GE833:=GW833;replace HB:=b1_ hb;have NB832_833:=gN_ BK832 hg;have NB833_832:=gP_ BK832 hg;replace BK832:=bb_ BK832 hb;clear hb hbox hg))
 replace BK832:=A_ (kB_ BK832.out)
 replace BK833:=A_ (kB_ BK833.out)
 replace HB:=A_ (bC_ HB.out)
 refine start_ (n:=9) (S:=fun w'=>w'.cell? ⟨gb832,0,none⟩ = some (.slice A0_0 l0_0.length c0_0)∧w'.cell? ⟨gb832,1,none⟩ = some (.slice A0_1 l0_1.length c0_1)) (ds:=[]) (bl_ 9 0) (by kernel_rfl) rfl (by kernel_rfl) ⟨cz0_ BK832,cz1_ BK832⟩ (fun hHeld=>?_);refine with_tabW Z42.tab1 Z42.bits1 (fun HT_ HW_=>?_)
 generalize w5.drew = w6 at BK832 BK833 HB hHeld ⊢
 refine pu_ 1 (some 4) (bl_ 9 2) HT_ ?_
 refine pu_ 4 (some 7) (bl_ 9 18) HT_ ?_
 refine ta_ 2 (some 5) (bl_ 9 22) HT_ HW_ hHeld ?_
 refine ta_ 5 (some 8) (bl_ 9 54) HT_ HW_ hHeld ?_
 refine on_ 0 (some 3) (bl_ 9 55) HT_ (fun K hK=>?_)
 refine Kd.R_lit_step (Kd.int .i64) _ 3 ?hg (N:=3) ?hd (xs:=([]:List Int)) (inner:=[]) (ok:=fun _=>True) (okp:=fun _=>True) ?hr ?hp (fun _ hk=>hk) trivial (Below.refl _ _) (nA_ _) (by simp) ?_;(case hd=>rfl);(case hg=>rfl);(case hr=>first | (go_simp;done) | (go_simp;rfl));(case hp=>exact (Reps.none _ _))
 intro v835 w7 ho8 hb hg_ hnew_
 clear hg_ hnew_
 (first | rw [← Ny834.out] at ho8 | (simp only [Int.reduceToNat] at ho8;rw [← Ny834.out] at ho8))
 have HO836:=rl_ w ho8
 replace BK832:=bb_ BK832 hb
 replace BK833:=bb_ BK833 hb
 replace HB:=b1_ hb
 clear hb ho8
 refine hK.out _ _ ⟨cz0_ BK832,cz1_ BK832⟩ (fun hHeld=>?_)
 clear hK K
 refine no_ (some 3) ?_
 refine on_ 3 (some 6) (bl_ 9 63) HT_ (fun K hK=>?_)
 refine Kd.R_append_rows_step (Kd.int .i64) (w0:=w) w.heap.size (by rfl) (.tmp 3) (.tmp 5) 23 3 (.int .i64 0) 8 rfl Try.underlying23 info3 rfl (by decide) (by omega) v835 y834 l0_1 _ _ _ (fun _=>True) (fun _=>False) rfl rfl ?aO ?aR (fun _ _ h=>h) (fun _ h=>h.elim) ?aF ?aB ?aS ?aL ?_
 (case aR=>exact cb_ HR0_1)
 (case aB=>exact hB_)
 (case aF=>exact (fun _ _=>trivial))
 (case aO=>exact (rr_ HO836))
 (case aS=>exact (bF_ hB_))
 (case aL=>have:=LMc2.out;omega)
 intro v838 w9 ho hb hg hat
 rw [← Ny837.out] at ho
 replace BK832:=A_ (blk_grown (kk_ BK832) hg (Kd.R_ne HO836.out BK832.out (by decide)))
 replace BK833:=A_ (blk_grown (kk_ BK833) hg (Kd.R_ne HO836.out BK833.out (by decide)))
 replace HB:=A_ hb
 have HO839:=A_ ho
 clear HO836
 clear ho hb hg hat
 refine hK.out _ _ ⟨cz0_ BK832,cz1_ BK832⟩ (fun hHeld=>?_)
 clear hK K
 refine no_ (some 6) ?_
 refine on_ 6 (some 9) (bl_ 9 127) HT_ (fun K hK=>?_)
 refine gO_ Try.func150 #[.slice A0_0 l0_0.length c0_0] (by rfl) rfl rfl qa_ ?_
 with_reducible refine (Z28.calls k _ _ l0_0 t840 _ (cb_ HR0_0) HC0_0.out A3.out).mono ?_
 rintro e w10 ⟨v841,rfl,ho0,hb⟩
 refine ⟨_,rfl,?_⟩
 have HO842:=A_ (rE_ (Kd.R_new' ho0 (Kd.R_lt (rr_ HO839))) (bF_ hB_))
 replace HO839:=A_ (Kd.R_elder' (rr_ HO839) (Kd.R_base ho0) hb)
 replace BK832:=bb_ BK832 hb
 replace BK833:=bb_ BK833 hb
 replace HB:=b1_ hb
 clear hb ho0
 obtain ⟨Ao11,co11,eo11⟩:=Kd.R_slice HO842.out
 (first|subst eo11|(injection eo11 with a_ b_ c_;have a_:=a_.symm;have c_:=c_.symm;clear b_;subst a_;subst c_))
 obtain ⟨Ao12,co12,eo12⟩:=Kd.R_slice HO839.out
 (first|subst eo12|(injection eo12 with a_ b_ c_;have a_:=a_.symm;have c_:=c_.symm;clear b_;subst a_;subst c_))
 refine hK.out _ _ ⟨cz0_ BK832,cz1_ BK832⟩ (fun hHeld=>?_)
 clear hK K
 refine no_ (some 9) ?_
 refine pu_ 7 (some 10) (bl_ 9 255) HT_ ?_
 refine on_ 8 (none) (bl_ 9 511) HT_ (fun K hK=>?_)
 have hs13:w10.cell? ⟨gb833,0,none⟩ = some (.slice none 0 0):=cz0_ BK833
 have hfs13:=kD_ BK833.out 0
 have hns13_0:=NB832_833.out
 have hms13_0:=NB833_832.out
 have hs14:w10.cell? ⟨gb833,1,none⟩ = some (.slice none 0 0):=cz1_ BK833
 have hfs14:=kD_ BK833.out 1
 have hns14_0:=NB832_833.out
 have hms14_0:=NB833_832.out
 refine skip_ (w1:=?_) (by rfl) rfl ?_ ?_
 rotate_left
 ·go_simp
  rfl
 refine hK.out _ _ ⟨((cell_far (p:=⟨gb833,_,none⟩) NB832_833.out _).trans (((cell_far (p:=⟨gb833,_,none⟩) NB832_833.out _).trans (hHeld.1)))),((cell_far (p:=⟨gb833,_,none⟩) NB832_833.out _).trans (((cell_far (p:=⟨gb833,_,none⟩) NB832_833.out _).trans (hHeld.2))))⟩ (fun hHeld=>?_)
 clear hK K
 refine done_ (done_of HT_.out (by kernel_rfl)) ?_
 try go_wp2
 refine bodyPost_ret (results_cell_row rfl _ _ gb833 25 #[.slice Ao12 y837.length co12,.slice Ao11 t840.length co11] (0,0) _ rfl qp_ Try.underlying25 rfl (by kernel_rfl)) rfl ?_
 exact ⟨_,_,qb_,(rw_ (Kd.R_mono (fa_ HO839 BK833) (fun _ hk=>hk.2))),(rw_ (Kd.R_mono (fa_ HO842 BK833) (fun _ hk=>hk.2))),hB_⟩
end Go.Proofs.Ytcggfjpnfodbaaa.A
end
