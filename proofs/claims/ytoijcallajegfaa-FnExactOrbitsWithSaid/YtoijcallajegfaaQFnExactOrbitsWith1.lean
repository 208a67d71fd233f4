/- Lemmas for the row FnExactOrbitsWith: the program's functions told as plain functions, and plain mathematics. No conditions. -/
import Derived.ArgAppend
import Derived.Below
import Derived.BigQuiet
import Derived.Deep.AppendLies
import Derived.Deep.CutBlock
import Derived.Deep.DeepCutAuto
import Derived.Deep.Draws
import Derived.Deep.LoopGhost
import Derived.Deep.OwnRows
import Derived.Deep.QuietTactic
import Derived.Deep.RegionHeld3
import Derived.KernelRfl
import Derived.Laws.BitsLemmas
import Derived.Laws.BytesArg
import Derived.Laws.IdiomCopy
import Derived.Laws.MakeOwn
import Derived.Laws.OwnMore
import Derived.Laws.Rows
import Derived.Laws.Slices
import Derived.Laws.Tables
import Derived.Lib.AppendStr
import Derived.Lib.ConvBytes
import Derived.MapKept
import Derived.Maps.AppendAt
import Derived.OrdersHeld
import Derived.OwnWalk
import Derived.RowKit
import Derived.RowKit3
import Derived.Tactics
import Derived.Test.YtoijcallajegfaaProg
import Derived.WalkKit
import Derived.WideLaws
import Derived.Test.YtoijcallajegfaaQFnExactOrbitsWith0
section
namespace Go.Proofs.Ytoijcallajegfaa.A
open Go.RowKit Go.Proofs.YtoijcallajegfaaW.PrintWords Go.Proofs.YtoijcallajegfaaW.PrintLast Go.Proofs.YtoijcallajegfaaW.PrintMore
theorem cx_ {c : Prop} {d : Decidable c} {α : Type} {x : Option α} {r : α} (h : (@ite _ c d x none) = some r) : @decide c d = true ∧ x = some r := by
  by_cases hc : c
  · rw [if_pos hc] at h
    exact ⟨decide_eq_true hc, h⟩
  · rw [if_neg hc] at h
    cases h
theorem cq0_ {w:World} {g:Nat} {t:TypeId} {a b:Value} (h:w.heap[g]? = some (.cells #[a,b] t (0,0))):w.cell? ⟨g,0,none⟩ = some a:=(blk_cell h 0).trans rfl
theorem cq1_ {w:World} {g:Nat} {t:TypeId} {a b:Value} (h:w.heap[g]? = some (.cells #[a,b] t (0,0))):w.cell? ⟨g,1,none⟩ = some b:=(blk_cell h 1).trans rfl
theorem bA_:type_of% @below_alloc:=@below_alloc
theorem bB_:type_of% @pw_below_drewN:=@pw_below_drewN
theorem bC_:type_of% @below_drew1:=@below_drew1
theorem bD_:type_of% @below_set:=@below_set
theorem bE_:type_of% @below_step:=@below_step
theorem kA_:type_of% @blk_drewN:=@blk_drewN
theorem kB_:type_of% @blk_drew:=@blk_drew
theorem kC_:type_of% @blk_alloc:=@blk_alloc
theorem cA_:type_of% @Kd.C_alloc:=@Kd.C_alloc
theorem cB_:type_of% @Kd.C_drewN:=@Kd.C_drewN
theorem cC_:type_of% @Kd.C_drew:=@Kd.C_drew
theorem rA_:type_of% @Kd.R_alloc:=@Kd.R_alloc
theorem rB_:type_of% @Kd.R_drewN:=@Kd.R_drewN
theorem rC_:type_of% @Kd.R_drew:=@Kd.R_drew
theorem cD_:type_of% @Kd.C_below:=@Kd.C_below
theorem rD_:type_of% @Kd.R_below:=@Kd.R_below
theorem kD_:type_of% @blk_frozen:=@blk_frozen
theorem A_:type_of% @Aside0.mk:=@Aside0.mk
theorem mA_:type_of% @List.map_toArray:=@List.map_toArray
theorem mB_:type_of% @List.map_cons:=@List.map_cons
theorem mC_:type_of% @List.map_nil:=@List.map_nil
theorem sA_:type_of% @List.setIfInBounds_toArray:=@List.setIfInBounds_toArray
theorem sB_:type_of% @List.set_cons_zero:=@List.set_cons_zero
theorem sC_:type_of% @List.set_cons_succ:=@List.set_cons_succ
theorem lA_:type_of% @List.length_drop:=@List.length_drop
theorem lB_:type_of% @List.length_take:=@List.length_take
theorem gA_:type_of% @gate_callee:=@gate_callee
theorem gB_:type_of% @gate_dst:=@gate_dst
theorem oA_:type_of% @Option.bind_some:=@Option.bind_some
theorem oB_:type_of% @of_decide_eq_true:=@of_decide_eq_true
theorem oC_:type_of% @decide_eq_true:=@decide_eq_true
theorem oD_:type_of% @decide_eq_false:=@decide_eq_false
theorem rE_:type_of% @Kd.R_lower:=@Kd.R_lower
theorem bF_:type_of% @below_size:=@below_size
theorem kE_:type_of% @blk_below:=@blk_below
theorem nA_:type_of% @Nat.le_refl:=@Nat.le_refl
end Go.Proofs.Ytoijcallajegfaa.A
end
section
namespace Go.Proofs.Ytoijcallajegfaa.A
open Go.RowKit Go.Proofs.YtoijcallajegfaaW.PrintWords Go.Proofs.YtoijcallajegfaaW.PrintLast Go.Proofs.YtoijcallajegfaaW.PrintMore
attribute [local go_sem] max2_int min2_int max_two min_two max_three min_three max_four min_four
set_option linter.unusedVariables false
set_option linter.unusedSimpArgs false
def errW:Option Int→Value
 | none=>.nilIface
 | some c=>.iface 0 (.int .i64 c)
theorem errW_none:errW none = .nilIface:=rfl
theorem errW_some (c:Int):errW (some c) = .iface 0 (.int .i64 c):=rfl
theorem info3:(Try.prog.info? 3).map (fun i=>(i.zero,i.size,i.bytes)) = some (some (.int .i64 0),1,8):=by kernel_rfl
theorem info4:(Try.prog.info? 4).map (fun i=>(i.zero,i.size,i.bytes)) = some (some (.bool false),1,1):=by kernel_rfl
theorem info5:(Try.prog.info? 5).map (fun i=>(i.zero,i.size,i.bytes)) = some (some (.int .u8 0),1,1):=by kernel_rfl
theorem info9:(Try.prog.info? 9).map (fun i=>(i.zero,i.size,i.bytes)) = some (some (.string ⟨#[]⟩),1,16):=by kernel_rfl
theorem info23:(Try.prog.info? 23).map (fun i=>(i.zero,i.size,i.bytes)) = some (some (.slice none 0 0),1,24):=by kernel_rfl
theorem info25:(Try.prog.info? 25).map (fun i=>(i.zero,i.size,i.bytes)) = some (some (.slice none 0 0),1,24):=by kernel_rfl
theorem info33:(Try.prog.info? 33).map (fun i=>(i.zero,i.size,i.bytes)) = some (some (.agg #[(.slice none 0 0),(.slice none 0 0)]),2,48):=by kernel_rfl
structure S102 where
 f0:(List Int)
 f1:Int
 f2:Int
def rd_L5 (xs:List (List Int)) (i:Int):(List Int):=xs.getD i.toNat ([]:List Int)
theorem at_L5 {w:World} {A:Option Addr} {n:Nat} {xs:List (List Int)} (h:Kd.C (Kd.slice 3 (Kd.int .i64)) w A n xs) (i:Int) (h0:0≤i) (h1:i < n):∃ ad A0 c0,A = some ad∧w.cell? (ad.add i.toNat) = some (.slice A0 (rd_L5 xs i).length c0)∧(rd_L5 xs i).length≤c0∧(Kd.int .i64).C w A0 (rd_L5 xs i).length (rd_L5 xs i):=by
 obtain ⟨ad,c,e,_,hK,hc0⟩:=Kd.C_get h ([]:List Int) i h0 h1
 have hc:∀ j u,c[j]? = some u→w.cell? (ad.add (i.toNat * 1 + j)) = some u:=hc0
 obtain ⟨A0,c0,rfl,l0,g0⟩:=hK
 exact ⟨ad,A0,c0,e,by have hq:=hc 0 _ rfl;rwa [Nat.mul_one,Nat.add_zero] at hq,l0,g0⟩
structure S33 where
 f0:(List Int)
 f1:(List Int)
def z33:S33:=⟨([]:List Int),([]:List Int)⟩
def pairN {α β:Type} (a:Kd α) (b:Kd β):Kd (α × β) where
 sz:=a.sz + b.sz
 E:=a.E ++ b.E
 K:=(Kd.pair a b).K
 M:=fun w base ok x cs=>∃ c0 c1,cs = c0 ++ c1∧a.M w base ok x.1 c0∧b.M w base ok x.2 c1∧∀ u ∈ c0,∀ v ∈ c1,NeRow u v
 K_len:=(Kd.pair a b).K_len
 K_one:=(Kd.pair a b).K_one
 K_below:=(Kd.pair a b).K_below
 K_of_M:=fun ⟨c0,c1,e,h0,h1,_⟩=>(Kd.pair a b).K_of_M ⟨c0,c1,e,h0,h1⟩
 M_mono:=fun hok ⟨c0,c1,e,h0,h1,n⟩=>⟨c0,c1,e,a.M_mono hok h0,b.M_mono hok h1,n⟩
 M_bound:=by
  rintro w base ok x cs ⟨c0,c1,rfl,h0,h1,n⟩
  refine ⟨c0,c1,rfl,a.M_mono ?_ (a.M_bound h0),b.M_mono ?_ (b.M_bound h1),n⟩
  ·rintro k ⟨h2,h3,h4,q,hq,hc⟩
   exact ⟨h2,h3,h4,q,List.mem_append_left _ hq,hc⟩
  ·rintro k ⟨h2,h3,h4,q,hq,hc⟩
   exact ⟨h2,h3,h4,q,List.mem_append_right _ hq,hc⟩
 M_move:=fun hm ⟨c0,c1,e,h0,h1,n⟩=>⟨c0,c1,e,a.M_move hm h0,b.M_move hm h1,n⟩
 M_lower:=fun hb ⟨c0,c1,e,h0,h1,n⟩=>⟨c0,c1,e,a.M_lower hb h0,b.M_lower hb h1,n⟩
def k33:Kd S33:=Kd.iso (pairN (Kd.slice 3 (Kd.int .i64)) (Kd.slice 3 (Kd.int .i64))) (fun x:S33=>(x.f0,x.f1))
theorem k33_open {w:World} {x:S33} {cs:List Value} (h:k33.K w x cs):∃ A0 c0 A1 c1,cs = [.slice A0 x.f0.length c0,.slice A1 x.f1.length c1]∧x.f0.length≤c0∧(Kd.int .i64).C w A0 x.f0.length x.f0∧x.f1.length≤c1∧(Kd.int .i64).C w A1 x.f1.length x.f1:=by
 obtain ⟨_,_,rfl,⟨A0,c0,rfl,l0,g0⟩,⟨A1,c1,rfl,l1,g1⟩⟩:=h
 exact ⟨A0,c0,A1,c1,rfl,l0,g0,l1,g1⟩
theorem k33_openN {w:World} {base:Nat} {ok:Nat→Prop} {x:S33} {cs:List Value} (h:k33.M w base ok x cs):∃ v0 v1,cs = [v0,v1]∧(Kd.int .i64).R 3 w base ok v0 x.f0∧(Kd.int .i64).R 3 w base ok v1 x.f1∧NeRow v0 v1:=by
 obtain ⟨_,_,rfl,⟨v0,rfl,g0⟩,⟨v1,rfl,g1⟩,n⟩:=h
 exact ⟨v0,v1,rfl,g0,g1,n v0 (by simp) v1 (by simp)⟩
theorem k33_mk (w:World) (x:S33) {A0:Option Addr} {c0:Nat} (l0:x.f0.length≤c0) (g0:(Kd.int .i64).C w A0 x.f0.length x.f0) {A1:Option Addr} {c1:Nat} (l1:x.f1.length≤c1) (g1:(Kd.int .i64).C w A1 x.f1.length x.f1):k33.K w x [.slice A0 x.f0.length c0,.slice A1 x.f1.length c1]:=⟨[.slice A0 x.f0.length c0],[.slice A1 x.f1.length c1],rfl,⟨A0,c0,rfl,l0,g0⟩,⟨A1,c1,rfl,l1,g1⟩⟩
theorem k33_mkM (w:World) (base:Nat) (ok:Nat→Prop) (x:S33) {v0:Value} (g0:(Kd.int .i64).R 3 w base ok v0 x.f0) {v1:Value} (g1:(Kd.int .i64).R 3 w base ok v1 x.f1) (ne:NeRow v0 v1):k33.M w base ok x [v0,v1]:=⟨[v0],[v1],rfl,⟨v0,rfl,g0⟩,⟨v1,rfl,g1⟩,fun u hu v hv=>by rw [List.mem_singleton.1 hu,List.mem_singleton.1 hv];exact ne⟩
theorem k33_openF {W:World} {ok:Nat→Prop} {x:S33} {cs:List Value} (h:Kd.FK k33 W ok x cs):∃ A0 c0 A1 c1,cs = [.slice A0 x.f0.length c0,.slice A1 x.f1.length c1]∧x.f0.length≤c0∧Kd.F (Kd.int .i64) W ok A0 x.f0.length x.f0∧x.f1.length≤c1∧Kd.F (Kd.int .i64) W ok A1 x.f1.length x.f1:=by
 obtain ⟨A0,c0,A1,c1,rfl,l0,_,l1,_⟩:=k33_open (Kd.FK_now h)
 exact ⟨A0,c0,A1,c1,rfl,l0,(fun W' hW=>by obtain ⟨A0_,c0_,A1_,c1_,he,l0_,g0_,l1_,g1_⟩:=k33_open (h W' hW);injection (Option.some.inj (show some (Value.slice A0 x.f0.length c0) = some (Value.slice A0_ x.f0.length c0_) from congrArg (fun l=>l[0]?) he)) with ha_ _ _;rw [ha_];exact g0_),l1,(fun W' hW=>by obtain ⟨A0_,c0_,A1_,c1_,he,l0_,g0_,l1_,g1_⟩:=k33_open (h W' hW);injection (Option.some.inj (show some (Value.slice A1 x.f1.length c1) = some (Value.slice A1_ x.f1.length c1_) from congrArg (fun l=>l[1]?) he)) with ha_ _ _;rw [ha_];exact g1_)⟩
theorem k33_mkF (W:World) (ok:Nat→Prop) (x:S33) {A0:Option Addr} {c0:Nat} (l0:x.f0.length≤c0) (g0:Kd.F (Kd.int .i64) W ok A0 x.f0.length x.f0) {A1:Option Addr} {c1:Nat} (l1:x.f1.length≤c1) (g1:Kd.F (Kd.int .i64) W ok A1 x.f1.length x.f1):Kd.FK k33 W ok x [.slice A0 x.f0.length c0,.slice A1 x.f1.length c1]:=fun W2 hW=>k33_mk W2 x l0 (g0 W2 hW) l1 (g1 W2 hW)
def rd_T33 (xs:List S33) (i:Int):S33:=xs.getD i.toNat z33
theorem at_T33 {w:World} {A:Option Addr} {n:Nat} {xs:List S33} (h:Kd.C k33 w A n xs) (i:Int) (h0:0≤i) (h1:i < n):∃ ad A0 c0 A1 c1,A = some ad∧w.cell? (ad.add (i.toNat * 2)) = some (.slice A0 (rd_T33 xs i).f0.length c0)∧w.cell? ⟨(ad.add (i.toNat * 2)).block,(ad.add (i.toNat * 2)).off + 1,none⟩ = some (.slice A1 (rd_T33 xs i).f1.length c1)∧(rd_T33 xs i).f0.length≤c0∧(Kd.int .i64).C w A0 (rd_T33 xs i).f0.length (rd_T33 xs i).f0∧(rd_T33 xs i).f1.length≤c1∧(Kd.int .i64).C w A1 (rd_T33 xs i).f1.length (rd_T33 xs i).f1:=by
 obtain ⟨ad,c,e,_,hK,hc0⟩:=Kd.C_get h z33 i h0 h1
 have hc:∀ j u,c[j]? = some u→w.cell? (ad.add (i.toNat * 2 + j)) = some u:=hc0
 obtain ⟨A0,c0,A1,c1,rfl,l0,g0,l1,g1⟩:=k33_open hK
 exact ⟨ad,A0,c0,A1,c1,e,hc 0 _ rfl,by rw [← add_field _ _ 1 (by omega)];exact hc 1 _ rfl,l0,g0,l1,g1⟩
def rd_L8 (xs:List (List S33)) (i:Int):(List S33):=xs.getD i.toNat ([]:List S33)
theorem at_L8 {w:World} {A:Option Addr} {n:Nat} {xs:List (List S33)} (h:Kd.C (Kd.slice 33 k33) w A n xs) (i:Int) (h0:0≤i) (h1:i < n):∃ ad A0 c0,A = some ad∧w.cell? (ad.add i.toNat) = some (.slice A0 (rd_L8 xs i).length c0)∧(rd_L8 xs i).length≤c0∧k33.C w A0 (rd_L8 xs i).length (rd_L8 xs i):=by
 obtain ⟨ad,c,e,_,hK,hc0⟩:=Kd.C_get h ([]:List S33) i h0 h1
 have hc:∀ j u,c[j]? = some u→w.cell? (ad.add (i.toNat * 1 + j)) = some u:=hc0
 obtain ⟨A0,c0,rfl,l0,g0⟩:=hK
 exact ⟨ad,A0,c0,e,by have hq:=hc 0 _ rfl;rwa [Nat.mul_one,Nat.add_zero] at hq,l0,g0⟩
structure S118 where
 f0:Int
 f1:Int
end Go.Proofs.Ytoijcallajegfaa.A
end
section
/- Short words for printed texts. No conditions. -/
namespace Go.Proofs.Ytoijcallajegfaa.A
open Go.RowKit Go.Proofs.YtoijcallajegfaaW.PrintWords Go.Proofs.YtoijcallajegfaaW.PrintLast Go.Proofs.YtoijcallajegfaaW.PrintMore
set_option linter.unusedVariables false
theorem qa_ {p:Prop} (h:p:=by (try simp only [List.map_toArray,List.map_cons,List.map_nil]);first | done | rfl | (simp only [List.length_drop,List.length_take];rfl)):p:=h
theorem qb_ {p:Prop} (h:p:=by first | rfl | (simp [errW_none,errW_some] <;> rfl) | (simp [*,errW_none,errW_some] <;> rfl)):p:=h
theorem qc_ {p:Prop} (h:p:=by first | rfl | (simp;done) | (simp [*];done)):p:=h
theorem qd_ {p:Prop} (h:p:=by first | omega | exact Nat.le_refl _):p:=h
theorem qe_ {p:Prop} (h:p:=by first | (with_reducible assumption) | assumption):p:=h
theorem hB_ {p:Prop} (h:p:=by repeat (first | (with_reducible first | exact HB.out | apply below_alloc | apply pw_below_drewN | apply below_drew1 | refine below_set ?_ (Aside0.out (by assumption))) | exact HB.out)):p:=h
theorem kk_ {w W:World} {g:Nat} {o:Obj} (a:Aside0 (w.heap[g]? = some o)) (hw:Below w.heap.size w W:=by repeat (first | (with_reducible first | exact Below.refl _ _ | apply below_alloc | apply pw_below_drewN | apply below_drew1) | exact Below.refl _ _)):W.heap[g]? = some o:=blk_below a.out hw
theorem bb_ {w W w1:World} {g:Nat} {o:Obj} (a:Aside0 (w.heap[g]? = some o)) (hb:Below W.heap.size W w1) (hw:Below w.heap.size w W:=by repeat (first | (with_reducible first | exact Below.refl _ _ | apply below_alloc | apply pw_below_drewN | apply below_drew1) | exact Below.refl _ _)):Aside0 (w1.heap[g]? = some o):=⟨blk_below (blk_below a.out hw) hb⟩
section
variable {α:Type} {d:Kd α} {e n c:Nat} {b:Nat} {ok:Nat→Prop} {v:Value} {xs:List α} {A:Option Addr} {w W w1:World}
theorem rr_ (a:Aside0 (d.R e w b ok v xs)) (hw:Below w.heap.size w W:=by repeat (first | (with_reducible first | exact Below.refl _ _ | apply below_alloc | apply pw_below_drewN | apply below_drew1) | exact Below.refl _ _)):d.R e W b ok v xs:=Kd.R_below a.out hw
theorem rw_ (a:d.R e w b ok v xs) (hw:Below w.heap.size w W:=by repeat (first | (with_reducible first | exact Below.refl _ _ | apply below_alloc | apply pw_below_drewN | apply below_drew1) | exact Below.refl _ _)):d.R e W b ok v xs:=Kd.R_below a hw
theorem rb_ (a:Aside0 (d.R e w b ok v xs)) (hb:Below W.heap.size W w1) (hw:Below w.heap.size w W:=by repeat (first | (with_reducible first | exact Below.refl _ _ | apply below_alloc | apply pw_below_drewN | apply below_drew1) | exact Below.refl _ _)):Aside0 (d.R e w1 b ok v xs):=⟨Kd.R_below (Kd.R_below a.out hw) hb⟩
theorem ss_ (a:Aside0 (Kd.S d e w b ok v xs)) (hw:Below w.heap.size w W:=by repeat (first | (with_reducible first | exact Below.refl _ _ | apply below_alloc | apply pw_below_drewN | apply below_drew1) | exact Below.refl _ _)):Kd.S d e W b ok v xs:=Kd.S_below a.out hw
theorem sw_ (a:Kd.S d e w b ok v xs) (hw:Below w.heap.size w W:=by repeat (first | (with_reducible first | exact Below.refl _ _ | apply below_alloc | apply pw_below_drewN | apply below_drew1) | exact Below.refl _ _)):Kd.S d e W b ok v xs:=Kd.S_below a hw
theorem sb_ (a:Aside0 (Kd.S d e w b ok v xs)) (hb:Below W.heap.size W w1) (hw:Below w.heap.size w W:=by repeat (first | (with_reducible first | exact Below.refl _ _ | apply below_alloc | apply pw_below_drewN | apply below_drew1) | exact Below.refl _ _)):Aside0 (Kd.S d e w1 b ok v xs):=⟨Kd.S_below (Kd.S_below a.out hw) hb⟩
theorem cb_ (a:Aside0 (d.C w A n xs)) (hw:Below w.heap.size w W:=by repeat (first | (with_reducible first | exact HB.out | apply below_alloc | apply pw_below_drewN | apply below_drew1 | refine below_set ?_ (Aside0.out (by assumption))) | exact HB.out)):d.C W A n xs:=Kd.C_below a.out hw
theorem cc_ (a:Aside0 (d.C w A n xs)) (hw:Below w.heap.size w W:=by repeat (first | (with_reducible first | exact Below.refl _ _ | apply below_alloc | apply pw_below_drewN | apply below_drew1) | exact Below.refl _ _)):d.C W A n xs:=Kd.C_below a.out hw
theorem cw_ (a:d.C w A n xs) (hw:Below w.heap.size w W:=by repeat (first | (with_reducible first | exact Below.refl _ _ | apply below_alloc | apply pw_below_drewN | apply below_drew1) | exact Below.refl _ _)):d.C W A n xs:=Kd.C_below a hw
theorem cr_ (a:Aside0 (d.R e w b ok (.slice A n c) xs)) (hw:Below w.heap.size w W:=by repeat (first | (with_reducible first | exact Below.refl _ _ | apply below_alloc | apply pw_below_drewN | apply below_drew1) | exact Below.refl _ _)):d.C W A xs.length xs:=Kd.C_below (Kd.R_reads' a.out).2.2 hw
end
theorem b1_ {w W w1:World} (hb:Below W.heap.size W w1) (h:Below w.heap.size w W:=by repeat (first | (with_reducible first | exact HB.out | apply below_alloc | apply pw_below_drewN | apply below_drew1 | refine below_set ?_ (Aside0.out (by assumption))) | exact HB.out)):Aside0 (Below w.heap.size w w1):=⟨below_step h hb⟩
theorem gx_ {n m k:Nat} (hg:k = m) (h:n≤m):n≤k:=hg ▸ h
theorem gn_ {n m k:Nat} (hg:k = m) (h:n < m):n≠k:=hg ▸ Nat.ne_of_lt h
theorem gp_ {n m k:Nat} (hg:k = m) (h:n < m):k≠n:=hg ▸ Nat.ne_of_gt h
theorem cz0_ {w:World} {g:Nat} {t:TypeId} {l:List Value} {v0:Value} (h:Aside0 (w.heap[g]? = some (.cells (List.toArray (v0 :: l)) t (0,0)))):w.cell? ⟨g,0,none⟩ = some v0:=(blk_cell h.out 0).trans rfl
theorem cz1_ {w:World} {g:Nat} {t:TypeId} {l:List Value} {v0 v1:Value} (h:Aside0 (w.heap[g]? = some (.cells (List.toArray (v0 :: v1 :: l)) t (0,0)))):w.cell? ⟨g,1,none⟩ = some v1:=(blk_cell h.out 1).trans rfl
theorem c2_ {w:World} {g:Nat} {t:TypeId} {v0 v1:Value} (h:Aside0 (w.heap[g]? = some (.cells (List.toArray [v0,v1]) t (0,0)))):w.cell? ⟨g,0,none⟩ = some v0∧w.cell? ⟨g,1,none⟩ = some v1∧w.frozen? ⟨g,0,none⟩ = false∧w.frozen? ⟨g,1,none⟩ = false:=⟨cz0_ h,cz1_ h,blk_frozen h.out 0,blk_frozen h.out 1⟩
theorem gw_ (w:World) {W:World} {g:Nat} (hg:g = W.heap.size) (h:Below w.heap.size w W:=by repeat (first | (with_reducible first | exact HB.out | apply below_alloc | apply pw_below_drewN | apply below_drew1 | refine below_set ?_ (Aside0.out (by assumption))) | exact HB.out)):Aside0 (w.heap.size≤g):=⟨gx_ hg (below_size h)⟩
theorem gN_ {w W:World} {g k:Nat} {o:Obj} (a:Aside0 (w.heap[g]? = some o)) (hg:k = W.heap.size) (hw:Below w.heap.size w W:=by repeat (first | (with_reducible first | exact Below.refl _ _ | apply below_alloc | apply pw_below_drewN | apply below_drew1) | exact Below.refl _ _)):Aside0 (g≠k):=⟨gn_ hg (blk_lt (blk_below a.out hw))⟩
theorem gP_ {w W:World} {g k:Nat} {o:Obj} (a:Aside0 (w.heap[g]? = some o)) (hg:k = W.heap.size) (hw:Below w.heap.size w W:=by repeat (first | (with_reducible first | exact Below.refl _ _ | apply below_alloc | apply pw_below_drewN | apply below_drew1) | exact Below.refl _ _)):Aside0 (k≠g):=⟨gp_ hg (blk_lt (blk_below a.out hw))⟩
theorem rl_ {α:Type} {d:Kd α} {e:Nat} {ok:Nat→Prop} {v:Value} {xs:List α} (w:World) {W w1:World} (a:d.R e w1 W.heap.size ok v xs) (h:Below w.heap.size w W:=by repeat (first | (with_reducible first | exact HB.out | apply below_alloc | apply pw_below_drewN | apply below_drew1 | refine below_set ?_ (Aside0.out (by assumption))) | exact HB.out)):Aside0 (d.R e w1 w.heap.size ok v xs):=⟨Kd.R_lower a (below_size h)⟩
theorem cp_ {α:Type} {c:Prop} [Decidable c] {a:Option α} {r:α} (H:(if c then a else none) = some r):c:=Classical.byContradiction fun h=>by rw [if_neg h] at H;cases H
theorem ca_ {α:Type} {c:Prop} [Decidable c] {a:Option α} {r:α} (H:(if c then a else none) = some r):a = some r:=by rw [if_pos (cp_ H)] at H;exact H
theorem bi_ {α β:Type} {x:Option α} {f:α→Option β} {r:β} (H:x.bind f = some r):∃ a,Aside0 (x = some a)∧f a = some r:=by obtain ⟨a,h,k⟩:=Option.bind_eq_some_iff.mp H;exact ⟨a,⟨h⟩,k⟩
theorem qp_ {p:Prop} (h:p:=by (with_reducible repeat (first | refine blk_drewN ?_ _ | refine blk_drew ?_ | refine blk_alloc ?_ _));apply blk_put;(with_reducible repeat (first | refine blk_drewN ?_ _ | refine blk_drew ?_ | refine blk_alloc ?_ _));apply blk_put;(with_reducible repeat (first | refine blk_drewN ?_ _ | refine blk_drew ?_ | refine blk_alloc ?_ _));exact Aside0.out (by assumption);all_goals rfl):p:=h
theorem fa_ {α:Type} {d:Kd α} {e b g t:Nat} {ok:Nat→Prop} {v u0 u1:Value} {xs:List α} {w:World} {cs:Array Value} (a:Aside0 (d.R e w b ok v xs)) (h:Aside0 (w.heap[g]? = some (.cells cs t (0,0)))) (ht:∀ q,q ∈ e :: d.E→q≠t:=by decide):d.R e ((w.setCell ⟨g,0,none⟩ u0).setCell ⟨g,1,none⟩ u1) b ok v xs:=Kd.R_mono (Kd.R_far (p:=⟨g,1,none⟩) (Kd.R_far (p:=⟨g,0,none⟩) (Kd.R_types a.out h.out ht) (fun _ hk=>hk.2) u0) (fun _ hk=>hk.2) u1) (fun _ hk=>hk.1)
def bl_ (n m:Nat):Array Bool:=((List.range n).map fun i=>m.testBit i).toArray
theorem lo_ {α:Type} {a b:Option α} (h:LeO a b:=by first | exact LeO.refl _ | exact LeO.none _):LeO a b:=h
section
variable {P:Program} {ops:Array Oper} {rest:List Oper} {o:Oper} {a:Act} {Q:Exit→Act→World→Prop} {S:World→Prop} {ds:List Nat} {md:Region.Mode} {T:Bool × List (List Nat × List Nat)} {B:List Nat}
theorem bx_ {W:World} (N:Tmp) (cs:Array Value) (t:TypeId) (h:∀ g,g = W.heap.size→∀ w1,w1.heap[g]? = some (.cells cs t (0,0))→Below W.heap.size W w1→wpList P ops Q rest (a.put o.dst (.pointer (some ⟨g,0,none⟩))) w1) (hgd:o.guard = none:=by rfl) (hd:o.dst = some N:=by rfl) (hrun:(execOp a.eval o).run P W = .ok (.value (.pointer (some ⟨W.heap.size,0,none⟩))) (W.alloc (.cells cs t (0,0))):=by first | (go_simp;done) | (go_simp;rfl)):wpList P ops Q (o :: rest) a W:=box_event hgd hd hrun h
theorem gL_ {w : World} (N : Option Tmp) {f : FuncId} {fn : Func} {az : Array Operand} {ts : Array TypeId} (hf : P.funcs[f]? = some fn) (args : Array Value) (hop : o.op = .call { callee := .value (.func f), args := az, argTypes := ts }) (hargs : az.map a.eval = args) (h : Calls P f args w fun e w' => ∃ v, e = .returned v ∧ wpList P ops Q rest (a.put N v) w') (hd : o.dst = N := by rfl) (hg : o.guard = none := by rfl) (hname : (fn.name == "runtime.NumGoroutine") = false := by kernel_rfl) (hb : fn.body.isSome = true := by rfl) : wpList P ops Q (o :: rest) a w := goesL_ N hd hg hf hname hb args hop hargs h
theorem gO_ {N : Option Tmp} {w : World} {K : Act → World → Prop} {f : FuncId} {fn : Func} {az : Array Operand} {ts : Array TypeId} (hf : P.funcs[f]? = some fn) (args : Array Value) (hw : Region.wanted o (yielded ops a.tmps) = true) (hN : o.dst = N) (hop : o.op = .call { callee := .value (.func f), args := az, argTypes := ts }) (hargs : az.map a.eval = args) (h : Calls P f args w fun e w' => ∃ v, e = .returned v ∧ K (a.put N v) w') (hname : (fn.name == "runtime.NumGoroutine") = false := by kernel_rfl) (hb : fn.body.isSome = true := by rfl) : if Region.wanted o (yielded ops a.tmps) = true then Oper.wp P o a w K Q else K (a.put N undef) w := goes_ hf hname hb args hw hN hop hargs h
theorem goesF_ {N : Option Tmp} {w : World} {K : Act → World → Prop} {f : FuncId} {fn : Func} {c : Operand} {az : Array Operand} {ts : Array TypeId} (hf : P.funcs[f]? = some fn) (hname : (fn.name == "runtime.NumGoroutine") = false) (hb : fn.body.isSome = true) (args : Array Value) (hw : Region.wanted o (yielded ops a.tmps) = true) (hN : o.dst = N) (hop : o.op = .call { callee := .value c, args := az, argTypes := ts }) (hargs : az.map a.eval = args) (h : Calls P f args w fun e w' => ∃ v, e = .returned v ∧ K (a.put N v) w') (hc : a.eval c = .func (.func f) #[] #[] := by rfl) : if Region.wanted o (yielded ops a.tmps) = true then Oper.wp P o a w K Q else K (a.put N undef) w := by
 refine call_ f args hw hN ?_ h
 have he:=enters_ hf hname hb args w
 unfold execOp
 simp [hop,resolve,Deferred.ofValue,invoke,hargs,he,hc]
theorem pu_ (i:Nat) (N:Option Tmp) {v:Value} {fuel:Nat} {l:Array Bool} {w:World} (l':Array Bool) (hT:Aside0 (rtab md ops = T)) {a':Act} (h:wpAnyLast P md ops Q S ds fuel l' a' w) (hi:ops[i]? = some o:=by rfl) (hN:o.dst = N:=by rfl) (hc:anyT T l.toList l'.toList i = true:=by kernel_rfl) (hQ:∀ c a w,Q (.panic c) (a.put o.dst v) w→Q (.panic c) a w:=by exact fun _ _ _ h=>h) (hg:o.guard = none ∨ True:=by exact .inr trivial) (hy:Yields P ops o v a:=by exact Or.inl ⟨by rfl,by intro w';go_simp;with_reducible rfl⟩) (ha:a.put N v = a':=by simp only [Act.put,List.setIfInBounds_toArray,List.set_cons_zero,List.set_cons_succ,i64_w,i32_w];rfl):wpAnyLast P md ops Q S ds (fuel + 1) l a w:=pure_ l' hi hN (any_of hT.out hc) hQ hy ha h
theorem ta_ (i:Nat) (N:Option Tmp) {v:Value} {fuel:Nat} {l:Array Bool} {w:World} (l':Array Bool) (hT:Aside0 (rtab md ops = T)) (hB:Aside0 (waitsOk T.2 B = true)) (hS:S w) {a':Act} (h:wpAnyLast P md ops Q S ds fuel l' a' w) (hi:ops[i]? = some o:=by rfl) (hN:o.dst = N:=by rfl) (hc:takeW T B ds l.toList l'.toList i = true:=by kernel_rfl) (hQ:∀ c a w,Q (.panic c) (a.put o.dst v) w→Q (.panic c) a w:=by exact fun _ _ _ h=>h) (hy:YieldsIf P ops S o v a:=by exact Or.inl ⟨by rfl,by intro w' hs_;(repeat obtain ⟨s_,hs_⟩:=hs_);go_simp;with_reducible rfl⟩) (ha:a.put N v = a':=by simp only [Act.put,List.setIfInBounds_toArray,List.set_cons_zero,List.set_cons_succ,i64_w,i32_w];rfl):wpAnyLast P md ops Q S ds (fuel + 1) l a w:=take_ l' hi hN (take_ofW hT.out hB.out hc) hQ hy hS ha h
theorem on_ (i:Nat) (N:Option Tmp) {fuel:Nat} {l:Array Bool} {w:World} (l':Array Bool) (hT:Aside0 (rtab md ops = T)) (h:∀ K:Act→World→Prop,Shut (∀ a' w',S w'→(S w'→wpAnyLast P md ops Q S ds fuel l' a' w')→K a' w')→if Region.wanted o (yielded ops a.tmps) = true then Oper.wp P o a w K Q else K (a.put N undef) w) (hi:ops[i]? = some o:=by rfl) (hN:o.dst = N:=by rfl) (hc:(readyT T.2 l.toList == [i] && l.toList.set i true == l'.toList) = true:=by kernel_rfl) (hd:i ∉ ds:=by decide):wpAnyLast P md ops Q S ds (fuel + 1) l a w:=one_ l' hi hN (one_of hT.out hc) hd h
theorem no_ {v:Value} {fuel:Nat} {l:Array Bool} {w:World} (N:Option Tmp) {a':Act} (h:wpAnyLast P md ops Q S ds fuel l a' w) (ha:a.put N v = a':=by simp only [Act.put,List.setIfInBounds_toArray,List.set_cons_zero,List.set_cons_succ,i64_w,i32_w];rfl):wpAnyLast P md ops Q S ds fuel l (a.put N v) w:=norm_ ha h
end
end Go.Proofs.Ytoijcallajegfaa.A
end
section
namespace Go.Proofs.Ytoijcallajegfaa.A
open Go.RowKit Go.Proofs.YtoijcallajegfaaW.PrintWords Go.Proofs.YtoijcallajegfaaW.PrintLast Go.Proofs.YtoijcallajegfaaW.PrintMore
attribute [local go_sem] max2_int min2_int max_two min_two max_three min_three max_four min_four
set_option linter.unusedVariables false
set_option linter.unusedSimpArgs false
def Z4.l0:Nat→List Int→List Int→Int→Int→Option (Bool)
 | 0,_,_,_,_=>none
 | k + 1,x0,x1,x12,x13=>if x13 < x12 then (if 0≤x13 then (if x13 < (x0.length:Int) then (if x13 < (x1.length:Int) then (if (rd x0 x13) = (rd x1 x13) then (Z4.l0 k x0 x1 x12 (wrap64 (x13 + 1))) else (some false)) else (none)) else (none)) else (none)) else (some true)
def Z4.f (k:Nat) (l0:List Int) (l1:List Int):Option (Bool):=if (l0.length:Int) = (l1.length:Int) then (Z4.l0 k l0 l1 (l0.length:Int) 0) else (some false)
theorem Z4.mono_l:∀ k,(∀ y0 y1 y2 y3,LeO (Z4.l0 k y0 y1 y2 y3) (Z4.l0 (k + 1) y0 y1 y2 y3))
 | 0=>fun _ _ _ _ r h=>by simp [Z4.l0] at h
 | k + 1=>by
  have ih0:=Z4.mono_l k
  ·intro y0 y1 y2 y3
   unfold Z4.l0
   repeat' first|exact ih0 _ _ _ _|exact lo_|refine LeO.ite ?_ ?_|refine LeO.bind ?_ (fun _=>?_)
theorem Z4.mono:∀ a0 a1 k,LeO (Z4.f k a0 a1) (Z4.f (k + 1) a0 a1):=by
 intro a0 a1 k
 have ih0:=Z4.mono_l k
 unfold Z4.f
 repeat' first|exact ih0 _ _ _ _|exact lo_|refine LeO.ite ?_ ?_|refine LeO.bind ?_ (fun _=>?_)
set_option maxHeartbeats 8000000 in
set_option maxRecDepth 100000 in
theorem Z4.calls (k:Nat) (A0:Option Addr) (c0:Nat) (l0:List Int) (A1:Option Addr) (c1:Nat) (l1:List Int) (r:Bool) (w:World) (hr0:Kd.C (Kd.int .i64) w A0 l0.length l0) (hc0:l0.length≤c0) (hr1:Kd.C (Kd.int .i64) w A1 l1.length l1) (hc1:l1.length≤c1) (h:Z4.f k l0 l1 = some r) :
  Calls Try.prog 106 #[.slice A0 l0.length c0,.slice A1 l1.length c1] w fun e w'=>e = .returned (.bool r)∧Drawn0 w w':=by
 have HR0:=A_ hr0
 have HC0:=A_ hc0
 clear hr0 hc0
 have HR1:=A_ hr1
 have HC1:=A_ hc1
 clear hr1 hc1
 have H:=h
 unfold Z4.f at H
 clear h
 by_cases c3:(l0.length:Int) = (l1.length:Int)
 ·rw [if_pos c3] at H
  have c3b0:((l0.length:Int) == (l1.length:Int)) = true:=beq_iff_eq.mpr c3
  have c3b1:((l0.length:Int) != (l1.length:Int)) = false:=bne_eq_false_iff_eq.mpr c3
  have c3b2:(l0.length == l1.length) = true:=by first | simpa using c3 | (simp at c3 ⊢;omega)
  clear c3
  have H':=A_ H
  clear H
  go_enter Try.func106,Try.ntmps106
  go_wp2
  repeat (go_quiet (fail);try go_wp2)
  go_loopg [13] k (fun kq v13 w'=>∃ (x13_1:Int),v13 = .int .i64 x13_1∧Aside0 (Z4.l0 kq l0 l1 (l0.length:Int) x13_1 = some r)∧Aside0 (kq≤k)∧Drawn0 w w')
  case atStart=>exact ⟨(0),qc_,H',⟨nA_ _⟩,by repeat (first | exact Drawn0.refl _ | apply Drawn0.step)⟩
  case round =>
   clear H'
   obtain ⟨x13_1,rfl,HA,HK1,⟨m1,rfl⟩⟩:=hrel
   cases gk with
   | zero=>exact absurd HA.out (by simp [Z4.l0])
   | succ k1 =>
    have H:=HA.out
    clear HA
    simp only [Z4.l0] at H
    by_cases c4:x13_1 < (l0.length:Int)
    ·rw [if_pos c4] at H
     have c4b0:=oC_ c4
     clear c4
     replace H:=cx_ H;obtain ⟨c5b0,H⟩:=H
     replace H:=cx_ H;obtain ⟨c6b0,H⟩:=H
     replace H:=cx_ H;obtain ⟨c7b0,H⟩:=H
     by_cases c8:(rd l0 x13_1) = (rd l1 x13_1)
     ·rw [if_pos c8] at H
      have c8b0:((rd l0 x13_1) == (rd l1 x13_1)) = true:=beq_iff_eq.mpr c8
      have c8b1:((rd l0 x13_1) != (rd l1 x13_1)) = false:=bne_eq_false_iff_eq.mpr c8
      clear c8
      have H':=A_ H
      clear H
      have p256:0≤(x13_1:Int):=oB_ qe_
      have q256:x13_1 < (l0.length:Int):=oB_ qe_
      obtain ⟨ad256,e256,hx256_0⟩:=Kd.at_int HR0.out x13_1 p256 q256
      cases e256
      replace p256:=eq_true p256
      replace q256:=eq_true q256
      have p257:0≤(x13_1:Int):=oB_ qe_
      have q257:x13_1 < (l1.length:Int):=oB_ qe_
      obtain ⟨ad257,e257,hx257_0⟩:=Kd.at_int HR1.out x13_1 p257 q257
      cases e257
      replace p257:=eq_true p257
      replace q257:=eq_true q257
      go_wp2
      repeat (go_quiet (fail);try go_wp2)
      go_roundg k1
      case measure=>have:=HK1.out;omega
      case rel=>exact ⟨(wrap64 (x13_1 + 1)),qc_,H',⟨by have:=HK1.out;omega⟩,by repeat (first | exact Drawn0.refl _ | apply Drawn0.step)⟩
     ·rw [if_neg c8] at H
      have c8b0:((rd l0 x13_1) == (rd l1 x13_1)) = false:=beq_eq_false_iff_ne.mpr c8
      have c8b1:((rd l0 x13_1) != (rd l1 x13_1)) = true:=bne_iff_ne.mpr c8
      obtain rfl:=Option.some.inj H
      have p256:0≤(x13_1:Int):=oB_ qe_
      have q256:x13_1 < (l0.length:Int):=oB_ qe_
      obtain ⟨ad256,e256,hx256_0⟩:=Kd.at_int HR0.out x13_1 p256 q256
      cases e256
      replace p256:=eq_true p256
      replace q256:=eq_true q256
      have p257:0≤(x13_1:Int):=oB_ qe_
      have q257:x13_1 < (l1.length:Int):=oB_ qe_
      obtain ⟨ad257,e257,hx257_0⟩:=Kd.at_int HR1.out x13_1 p257 q257
      cases e257
      replace p257:=eq_true p257
      replace q257:=eq_true q257
      go_wp2
      repeat (go_quiet (fail);try go_wp2)
      go_ret
      exact ⟨qc_,by repeat (first | exact Drawn0.refl _ | apply Drawn0.step)⟩
    ·rw [if_neg c4] at H
     have c4b0:=oD_ c4
     clear c4
     obtain rfl:=Option.some.inj H
     go_wp2
     repeat (go_quiet (fail);try go_wp2)
     go_ret
     exact ⟨qc_,by repeat (first | exact Drawn0.refl _ | apply Drawn0.step)⟩
 ·rw [if_neg c3] at H
  have c3b0:((l0.length:Int) == (l1.length:Int)) = false:=beq_eq_false_iff_ne.mpr c3
  have c3b1:((l0.length:Int) != (l1.length:Int)) = true:=bne_iff_ne.mpr c3
  have c3b2:(l0.length == l1.length) = false:=by first | simpa using c3 | (simp at c3 ⊢;omega)
  obtain rfl:=Option.some.inj H
  go_enter Try.func106,Try.ntmps106
  go_wp2
  repeat (go_quiet (fail);try go_wp2)
  go_ret
  exact ⟨qc_,by repeat (first | exact Drawn0.refl _ | apply Drawn0.step)⟩
def Z46.f (k:Nat) (l0:List Int) (l1:List Int):Option (Bool):=(Z4.f k l0 l1).bind fun t258=>(some t258)
theorem Z46.mono:∀ a0 a1 k,LeO (Z46.f k a0 a1) (Z46.f (k + 1) a0 a1):=by
 intro a0 a1 k
 unfold Z46.f
 repeat' first|exact Z4.mono _ _ _|exact lo_|refine LeO.ite ?_ ?_|refine LeO.bind ?_ (fun _=>?_)
set_option maxHeartbeats 8000000 in
set_option maxRecDepth 100000 in
theorem Z46.calls (k:Nat) (A0:Option Addr) (c0:Nat) (l0:List Int) (A1:Option Addr) (c1:Nat) (l1:List Int) (r:Bool) (w:World) (hr0:Kd.C (Kd.int .i64) w A0 l0.length l0) (hc0:l0.length≤c0) (hr1:Kd.C (Kd.int .i64) w A1 l1.length l1) (hc1:l1.length≤c1) (h:Z46.f k l0 l1 = some r) :
  Calls Try.prog 56 #[.slice A0 l0.length c0,.slice A1 l1.length c1] w fun e w'=>e = .returned (.bool r)∧Drawn0 w w':=by
 have HR0:=A_ hr0
 have HC0:=A_ hc0
 clear hr0 hc0
 have HR1:=A_ hr1
 have HC1:=A_ hc1
 clear hr1 hc1
 have H:=h
 unfold Z46.f at H
 clear h
 obtain ⟨t258,A3,H⟩:=bi_ H
 obtain rfl:=Option.some.inj H
 go_enter Try.func56,Try.ntmps56
 go_wp2_with (first | ((with_reducible refine gA_ (f:=106) rfl ?_);refine gL_ (some 7) Try.func106 #[.slice A0 l0.length c0,.slice A1 l1.length c1] rfl qa_ ?_;(with_reducible refine (Z4.calls k _ _ l0 _ _ l1 t258 _ (cc_ HR0) HC0.out (cc_ HR1) HC1.out A3.out).mono ?_);rintro e w' ⟨rfl,⟨nd,rfl⟩⟩;refine ⟨_,rfl,?_⟩))
 go_ret
 exact ⟨qc_,by repeat (first | exact Drawn0.refl _ | apply Drawn0.step)⟩
def Z22.f (k:Nat) (l0_0:List Int) (l0_1:List Int) (l1_0:List Int) (l1_1:List Int):Option (Bool):=(Z46.f k l0_0 l1_0).bind fun t261=>(if t261 = true then ((Z46.f k l0_1 l1_1).bind fun t262=>(some t262)) else (some false))
theorem Z22.mono:∀ a0 a1 a2 a3 k,LeO (Z22.f k a0 a1 a2 a3) (Z22.f (k + 1) a0 a1 a2 a3):=by
 intro a0 a1 a2 a3 k
 unfold Z22.f
 repeat' first|exact Z46.mono _ _ _|exact lo_|refine LeO.ite ?_ ?_|refine LeO.bind ?_ (fun _=>?_)
set_option maxHeartbeats 8000000 in
set_option maxRecDepth 100000 in
theorem Z22.calls (k:Nat) (A0_0:Option Addr) (c0_0:Nat) (l0_0:List Int) (A0_1:Option Addr) (c0_1:Nat) (l0_1:List Int) (A1_0:Option Addr) (c1_0:Nat) (l1_0:List Int) (A1_1:Option Addr) (c1_1:Nat) (l1_1:List Int) (r:Bool) (w:World) (hr0_0:Kd.C (Kd.int .i64) w A0_0 l0_0.length l0_0) (hc0_0:l0_0.length≤c0_0) (hr0_1:Kd.C (Kd.int .i64) w A0_1 l0_1.length l0_1) (hc0_1:l0_1.length≤c0_1) (hr1_0:Kd.C (Kd.int .i64) w A1_0 l1_0.length l1_0) (hc1_0:l1_0.length≤c1_0) (hr1_1:Kd.C (Kd.int .i64) w A1_1 l1_1.length l1_1) (hc1_1:l1_1.length≤c1_1) (h:Z22.f k l0_0 l0_1 l1_0 l1_1 = some r) :
  Calls Try.prog 18 #[.agg #[.slice A0_0 l0_0.length c0_0,.slice A0_1 l0_1.length c0_1],.agg #[.slice A1_0 l1_0.length c1_0,.slice A1_1 l1_1.length c1_1]] w fun e w'=>e = .returned (.bool r)∧Below w.heap.size w w':=by
 have hu33:=Try.underlying33
 have HR0_0:=A_ hr0_0
 have HC0_0:=A_ hc0_0
 clear hr0_0 hc0_0
 have HR0_1:=A_ hr0_1
 have HC0_1:=A_ hc0_1
 clear hr0_1 hc0_1
 have HR1_0:=A_ hr1_0
 have HC1_0:=A_ hc1_0
 clear hr1_0 hc1_0
 have HR1_1:=A_ hr1_1
 have HC1_1:=A_ hc1_1
 clear hr1_1 hc1_1
 have HB:=A_ (Below.refl w.heap.size w)
 have H:=h
 unfold Z22.f at H
 clear h
 obtain ⟨t261,A3,H⟩:=bi_ H
 by_cases c4:t261 = true
 ·subst c4
  rw [if_pos rfl] at H
  obtain ⟨t262,A5,H⟩:=bi_ H
  obtain rfl:=Option.some.inj H
  go_enter Try.func18,Try.ntmps18
  go_wp2_with (first | ((with_reducible refine gB_ (N:=2) rfl ?_);refine bx_ 2 #[.slice A0_0 l0_0.length c0_0,.slice A0_1 l0_1.length c0_1] 33 ?_;intro gb259 hg w6 hbox hb;have BK259:=A_ hbox;have GW259:=gw_ w hg;have GE259:=GW259;replace HB:=b1_ hb;clear hb hbox hg) | ((with_reducible refine gB_ (N:=3) rfl ?_);refine bx_ 3 #[.slice A1_0 l1_0.length c1_0,.slice A1_1 l1_1.length c1_1] 33 ?_;intro gb260 hg w7 hbox hb;have BK260:=A_ hbox;have GW260:=gw_ w hg;have GE260:=GW260;replace HB:=b1_ hb;have NB259_260:=gN_ BK259 hg;have NB260_259:=gP_ BK259 hg;replace BK259:=bb_ BK259 hb;clear hb hbox hg;have hnb8:=NB259_260.out;have hnc8:=NB260_259.out;obtain ⟨hcz9_0,hcz9_1,hfz9_0,hfz9_1⟩:=c2_ BK259;obtain ⟨hcz10_0,hcz10_1,hfz10_0,hfz10_1⟩:=c2_ BK260) | ((with_reducible refine gA_ (f:=56) rfl ?_);refine gL_ (some 9) Try.func56 #[.slice A0_0 l0_0.length c0_0,.slice A1_0 l1_0.length c1_0] rfl qa_ ?_;(with_reducible refine (Z46.calls k _ _ l0_0 _ _ l1_0 true _ (cb_ HR0_0) HC0_0.out (cb_ HR1_0) HC1_0.out A3.out).mono ?_);rintro e w' ⟨rfl,⟨nd,rfl⟩⟩;refine ⟨_,rfl,?_⟩) | (go_at_call 56;(with_reducible refine (Z46.calls k _ _ l0_1 _ _ l1_1 t262 _ (cw_ (cD_ HR0_1.out hB_)) HC0_1.out (cw_ (cD_ HR1_1.out hB_)) HC1_1.out A5.out).mono ?_);rintro e w' ⟨rfl,⟨nd,rfl⟩⟩))
  go_ret
  exact ⟨qb_,hB_⟩
 ·replace c4:=Bool.eq_false_iff.mpr c4
  subst c4
  have H1:(some false) = some r:=by rw [if_neg (show ¬ (false = true) by decide)] at H;exact H
  clear H
  have H:=H1
  clear H1
  obtain rfl:=Option.some.inj H
  go_enter Try.func18,Try.ntmps18
  go_wp2_with (first | ((with_reducible refine gB_ (N:=2) rfl ?_);refine bx_ 2 #[.slice A0_0 l0_0.length c0_0,.slice A0_1 l0_1.length c0_1] 33 ?_;intro gb259 hg w11 hbox hb;have BK259:=A_ hbox;have GW259:=gw_ w hg;have GE259:=GW259;replace HB:=b1_ hb;clear hb hbox hg) | ((with_reducible refine gB_ (N:=3) rfl ?_);refine bx_ 3 #[.slice A1_0 l1_0.length c1_0,.slice A1_1 l1_1.length c1_1] 33 ?_;intro gb260 hg w12 hbox hb;have BK260:=A_ hbox;have GW260:=gw_ w hg;have GE260:=GW260;replace HB:=b1_ hb;have NB259_260:=gN_ BK259 hg;have NB260_259:=gP_ BK259 hg;replace BK259:=bb_ BK259 hb;clear hb hbox hg;have hnb13:=NB259_260.out;have hnc13:=NB260_259.out;obtain ⟨hcz14_0,hcz14_1,hfz14_0,hfz14_1⟩:=c2_ BK259;obtain ⟨hcz15_0,hcz15_1,hfz15_0,hfz15_1⟩:=c2_ BK260) | ((with_reducible refine gA_ (f:=56) rfl ?_);refine gL_ (some 9) Try.func56 #[.slice A0_0 l0_0.length c0_0,.slice A1_0 l1_0.length c1_0] rfl qa_ ?_;(with_reducible refine (Z46.calls k _ _ l0_0 _ _ l1_0 false _ (cb_ HR0_0) HC0_0.out (cb_ HR1_0) HC1_0.out A3.out).mono ?_);rintro e w' ⟨rfl,⟨nd,rfl⟩⟩;refine ⟨_,rfl,?_⟩))
  go_ret
  exact ⟨qb_,hB_⟩
end Go.Proofs.Ytoijcallajegfaa.A
end
section
/- The place of a surface in a list: the walk of the program's look-up. No conditions. -/
namespace Go.Proofs.Ytoijcallajegfaa.M
set_option linter.unusedVariables false
set_option linter.unusedSimpArgs false
open Go Go.RowKit Go.Proofs.YtoijcallajegfaaW.PrintWords Go.Proofs.YtoijcallajegfaaW.PrintLast Go.Proofs.YtoijcallajegfaaW.PrintMore Go.Proofs.Ytoijcallajegfaa.A
def idxS (k:Nat) (r u:List Int):List S33→Nat→Option Int
 | [],_=>some (-1)
 | x :: xs,i=>(Z22.f k x.f0 x.f1 r u).bind fun b=>if b = true then some (i:Int) else idxS k r u xs (i + 1)
def indexO (k:Nat) (l:List S33) (r u:List Int):Option Int:=if l.length < 4611686018427387904 then idxS k r u l 0 else none
set_option maxHeartbeats 8000000 in
set_option maxRecDepth 100000 in
theorem index_closure (k:Nat) (gs:Nat) (A0:Option Addr) (c0:Nat) (l0:List Int) (A1:Option Addr) (c1:Nat) (l1:List Int) (B0:Option Addr) (d0:Nat) (r:List Int) (B1:Option Addr) (d1:Nat) (u:List Int) (b:Bool) (w:World)
  (h0:Kd.C (Kd.int .i64) w A0 l0.length l0) (g0:l0.length≤c0) (h1:Kd.C (Kd.int .i64) w A1 l1.length l1) (g1:l1.length≤c1) (h2:Kd.C (Kd.int .i64) w B0 r.length r) (g2:r.length≤d0) (h3:Kd.C (Kd.int .i64) w B1 u.length u) (g3:u.length≤d1)
  (hs:w.heap[gs]? = some (.cells #[.slice B0 r.length d0,.slice B1 u.length d1] 33 (0,0))) (h:Z22.f k l0 l1 r u = some b) :
  Calls Try.prog 165 #[.agg #[.slice A0 l0.length c0,.slice A1 l1.length c1],.pointer (some ⟨gs,0,none⟩)] w fun e w'=>e = .returned (.bool b)∧Below w.heap.size w w':=by
 have hu:=Try.underlying33
 have H0:=Aside0.mk h0;have H1:=Aside0.mk h1;have H2:=Aside0.mk h2;have H3:=Aside0.mk h3
 have G0:=Aside0.mk g0;have G1:=Aside0.mk g1;have G2:=Aside0.mk g2;have G3:=Aside0.mk g3
 have BS:=Aside0.mk hs;have HA:=Aside0.mk h
 clear h0 h1 h2 h3 g0 g1 g2 g3 hs h
 have HB:=Aside0.mk (Below.refl w.heap.size w)
 go_enter Try.func165,Try.ntmps165
 go_wp2_with (first | ((with_reducible refine gate_dst (N:=2) rfl ?_);refine bx_ 2 #[.slice A0 l0.length c0,.slice A1 l1.length c1] 33 ?_;intro gb hg w2 hbox hb;have BK:=Aside0.mk hbox;have BT:=bb_ BS hb;replace HB:=b1_ hb;clear hb hbox hg;obtain ⟨hcz0,hcz1,hfz0,hfz1⟩:=c2_ BK;obtain ⟨hcy0,hcy1,hfy0,hfy1⟩:=c2_ BT) | ((with_reducible refine gate_callee (f:=18) rfl ?_);refine gL_ (some 6) Try.func18 #[.agg #[.slice A0 l0.length c0,.slice A1 l1.length c1],.agg #[.slice B0 r.length d0,.slice B1 u.length d1]] rfl qa_ ?_;(with_reducible refine (Z22.calls k _ _ l0 _ _ l1 _ _ r _ _ u b _ (cb_ H0) G0.out (cb_ H1) G1.out (cb_ H2) G2.out (cb_ H3) G3.out HA.out).mono ?_);rintro e w3 ⟨rfl,hb⟩;refine ⟨_,rfl,?_⟩;replace HB:=b1_ hb;clear hb))
 go_ret
 exact ⟨qb_,hB_⟩
set_option maxHeartbeats 8000000 in
set_option maxRecDepth 100000 in
theorem index_main (k:Nat) (gf:Nat) (lb:Array Value) (eg:∀ args w,(callFunc gf args).run Try.prog w = .ok (.enter gf args) w) (A0:Option Addr) (c0:Nat) (l0:List S33) (r u:List Int) (j:Int) (w:World) (hr0:Kd.C k33 w A0 l0.length l0) (hc0:l0.length≤c0) (h:indexO k l0 r u = some j)
  (hcl:∀ (A0:Option Addr) (c0:Nat) (l0:List Int) (A1:Option Addr) (c1:Nat) (l1:List Int) (b:Bool) (w1:World),Below w.heap.size w w1→Kd.C (Kd.int .i64) w1 A0 l0.length l0→l0.length≤c0→Kd.C (Kd.int .i64) w1 A1 l1.length l1→l1.length≤c1→Z22.f k l0 l1 r u = some b→Calls Try.prog gf (#[.agg #[.slice A0 l0.length c0,.slice A1 l1.length c1]] ++ lb) w1 fun e w'=>e = .returned (.bool b)∧Below w1.heap.size w1 w') :
  Calls Try.prog 132 #[.slice A0 l0.length c0,.func (.func gf) #[] lb] w fun e w'=>e = .returned (.int .i64 j)∧Below w.heap.size w w':=by
 have hu:=Try.underlying33
 have HR0:=Aside0.mk hr0
 have HC0:=Aside0.mk hc0
 have HB:=Aside0.mk (Below.refl w.heap.size w)
 have hsm:l0.length < 4611686018427387904:=by
  unfold indexO at h
  split at h
  ·assumption
  ·cases h
 have H':Aside0 (idxS k r u (l0.drop 0) 0 = some j):=⟨by
  unfold indexO at h
  rw [if_pos hsm] at h
  exact h⟩
 clear hr0 hc0 h
 replace hcl:=Aside0.mk hcl
 go_enter Try.func132,Try.ntmps132
 go_wp2
 go_loopg [5,8] l0.length (fun gg _ s8 wr=>∃ kk:Nat,s8 = .int .i64 kk∧Aside0 (kk≤l0.length)∧Aside0 (l0.length - kk≤gg)∧Aside0 (idxS k r u (l0.drop kk) kk = some j)∧Aside0 (Below w.heap.size w wr))
 case atStart=>exact ⟨0,rfl,⟨Nat.zero_le _⟩,⟨by omega⟩,H',⟨by repeat (first | (with_reducible first | exact HB.out | apply below_alloc | apply pw_below_drewN | apply below_drew1) | exact HB.out)⟩⟩
 case round =>
  clear H' HB
  obtain ⟨kk,rfl,HK,HG,HA,HB⟩:=hrel
  by_cases hlt:kk < l0.length
  ·have hltz:(kk:Int) < (l0.length:Int):=by omega
   have h0z:(0:Int)≤(kk:Int):=Int.natCast_nonneg kk
   have H:=HA.out
   have hdr:l0.drop kk = rd_T33 l0 (kk:Int) :: l0.drop (kk + 1):=by
    rw [List.drop_eq_getElem_cons hlt]
    congr 1
    simp [rd_T33,hlt]
   rw [hdr] at H
   simp only [idxS] at H
   obtain ⟨b,Hb,H⟩:=bi_ H
   obtain ⟨ad1,A1,c1,A2,c2,e1,hx1,hx2,hl1,hi1,hl2,hi2⟩:=at_T33 (Kd.C_below HR0.out HB.out) (kk:Int) h0z hltz
   cases e1
   rw [show ((kk:Int)).toNat = kk from rfl] at hx1 hx2
   have HI1:=Aside0.mk hi1
   have HI2:=Aside0.mk hi2
   have HL1:=Aside0.mk hl1
   have HL2:=Aside0.mk hl2
   clear hi1 hi2 hl1 hl2
   cases b with
   | true =>
    rw [if_pos rfl] at H
    obtain rfl:=Option.some.inj H
    clear H
    go_wp2_with (fail)
    refine (hcl.out _ _ (rd_T33 l0 (kk:Int)).f0 _ _ (rd_T33 l0 (kk:Int)).f1 true wr HB.out HI1.out HL1.out HI2.out HL2.out Hb.out).mono ?_
    rintro e w2 ⟨rfl,hb⟩
    have HB2:=Aside0.mk (below_step HB.out hb)
    clear hb
    go_wp2
    go_ret
    exact ⟨rfl,by repeat (first | (with_reducible first | exact HB2.out | apply below_alloc | apply pw_below_drewN | apply below_drew1) | exact HB2.out)⟩
   | false =>
    rw [if_neg (by decide)] at H
    have H2:=Aside0.mk H
    clear H
    go_wp2_with (fail)
    refine (hcl.out _ _ (rd_T33 l0 (kk:Int)).f0 _ _ (rd_T33 l0 (kk:Int)).f1 false wr HB.out HI1.out HL1.out HI2.out HL2.out Hb.out).mono ?_
    rintro e w2 ⟨rfl,hb⟩
    have HB2:=Aside0.mk (below_step HB.out hb)
    clear hb
    go_wp2
    go_roundg (l0.length - (kk + 1))
    case measure=>have:=HG.out;omega
    case rel=>exact ⟨kk + 1,by congr 1,⟨by omega⟩,⟨by omega⟩,H2,⟨by repeat (first | (with_reducible first | exact HB2.out | apply below_alloc | apply pw_below_drewN | apply below_drew1) | exact HB2.out)⟩⟩
  ·have hltz:¬ (kk:Int) < (l0.length:Int):=by omega
   have H:=HA.out
   rw [List.drop_eq_nil_of_le (by omega)] at H
   simp only [idxS] at H
   obtain rfl:=Option.some.inj H
   clear H
   go_wp2
   go_ret
   exact ⟨rfl,by repeat (first | (with_reducible first | exact HB.out | apply below_alloc | apply pw_below_drewN | apply below_drew1) | exact HB.out)⟩
set_option maxHeartbeats 8000000 in
set_option maxRecDepth 100000 in
theorem index_calls (k:Nat) (gO:Nat) (A0:Option Addr) (c0:Nat) (l0:List S33) (v1 v2 v3 v4:Value) (B0:Option Addr) (d0:Nat) (r:List Int) (B1:Option Addr) (d1:Nat) (u:List Int) (j:Int) (w:World) (hr0:Kd.C k33 w A0 l0.length l0) (hc0:l0.length≤c0) (h2:Kd.C (Kd.int .i64) w B0 r.length r) (g2:r.length≤d0) (h3:Kd.C (Kd.int .i64) w B1 u.length u) (g3:u.length≤d1)
  (hO:w.heap[gO]? = some (.cells #[.slice A0 l0.length c0,v1,v2,v3,v4] 97 (0,0))) (h:indexO k l0 r u = some j) :
  Calls Try.prog 133 #[.pointer (some ⟨gO,0,none⟩),.agg #[.slice B0 r.length d0,.slice B1 u.length d1]] w fun e w'=>e = .returned (.int .i64 j)∧Below w.heap.size w w':=by
 have hu:=Try.underlying33
 have H0:=Aside0.mk hr0;have H2:=Aside0.mk h2;have H3:=Aside0.mk h3
 have G0:=Aside0.mk hc0;have G2:=Aside0.mk g2;have G3:=Aside0.mk g3
 have BO:=Aside0.mk hO;have HA:=Aside0.mk h
 clear hr0 h2 h3 hc0 g2 g3 hO h
 have HB:=Aside0.mk (Below.refl w.heap.size w)
 go_enter Try.func133,Try.ntmps133
 go_wp2_with (first | ((with_reducible refine gate_dst (N:=3) rfl ?_);refine bx_ 3 #[.slice B0 r.length d0,.slice B1 u.length d1] 33 ?_;intro gb hg w2 hbox hb;have BK:=Aside0.mk hbox;have BP:=bb_ BO hb;replace HB:=b1_ hb;clear hb hbox hg;have hco0:w2.cell? ⟨gO,0,none⟩ = some (.slice A0 l0.length c0):=(blk_cell BP.out 0).trans rfl;have hfo0:=blk_frozen BP.out 0) | ((with_reducible refine gate_callee (f:=132) rfl ?_);refine gL_ (some 10) Try.func132 #[.slice A0 l0.length c0,.func (.func 165) #[] #[.pointer (some ⟨gb,0,none⟩)]] rfl qa_ ?_;refine (index_main k 165 #[.pointer (some ⟨gb,0,none⟩)] (fun args w=>enters_ Try.func165 (by kernel_rfl) rfl args w) _ _ l0 r u j _ (cb_ H0) G0.out HA.out (fun A0_ c0_ l0_ A1_ c1_ l1_ b_ w1_ hw_ q0_ q1_ q2_ q3_ q4_=>index_closure k gb A0_ c0_ l0_ A1_ c1_ l1_ B0 d0 r B1 d1 u b_ w1_ q0_ q1_ q2_ q3_ (Kd.C_below (cb_ H2) hw_) G2.out (Kd.C_below (cb_ H3) hw_) G3.out (blk_below BK.out hw_) q4_)).mono ?_;rintro e w3 ⟨rfl,hb⟩;refine ⟨_,rfl,?_⟩;replace HB:=b1_ hb;clear hb))
 go_ret
 exact ⟨qb_,hB_⟩
end Go.Proofs.Ytoijcallajegfaa.M
end
section
/- A map of two keys, as it is filled: look-ups and stores. No conditions. -/
namespace Go.Proofs.Ytoijcallajegfaa.M
set_option linter.unusedVariables false
set_option linter.unusedSimpArgs false
open Go Go.RowKit Go.Proofs.YtoijcallajegfaaW.PrintWords Go.Proofs.YtoijcallajegfaaW.PrintLast Go.Proofs.YtoijcallajegfaaW.PrintMore Go.Proofs.Ytoijcallajegfaa.A Go.MapKept
def mapO (n:Nat) (vT vS:Value):Obj:=.map ((#[⟨.int .u8 84,vT,0⟩,⟨.int .u8 83,vS,1⟩]:Array MapEntry).extract 0 n) n
def mapV (n c:Nat) (vT vS:Value):Value:=if c = 84 then (if 1≤n then vT else .slice none 0 0) else if 2≤n then vS else .slice none 0 0
theorem key_u8 (c:Int):IsKey (.int .u8) (.int .u8 c):=rfl
theorem map_look {w:World} {b:Nat} {es:Array MapEntry} {c:Nat} (hb:w.heap[b]? = some (.map es c)) (kk:Int) (r:Option (Nat × Value)) (hf:Instr.findNow (.int .u8) (.int .u8 kk) es.toList 0 = some r) :
  (Instr.lookup 95 (.map (some b)) (.int .u8 kk) false).run Try.prog w = .ok (match r with | some x=>x.2 | none=>.slice none 0 0) w:=by
 have ht:=Try.underlying95
 have hk:Try.prog.underlying 5 = some (.int .u8):=Try.underlying5
 have h1:=Go.MapKept.run_findKey (P:=Try.prog) (w:=w) hk hf
 have hz:(zeroValue 23).run Try.prog w = .ok (.slice none 0 0) w:=by kernel_rfl
 cases r with
 | none=>simp [Instr.lookup,run_underlying ht,Go.MapKept.run_getObj_map hb,Go.MapKept.run_checkKey hk (key_u8 kk),h1,hz,Result.andThen]
 | some x=>simp [Instr.lookup,run_underlying ht,Go.MapKept.run_getObj_map hb,Go.MapKept.run_checkKey hk (key_u8 kk),h1,hz,Result.andThen]
theorem map_push {w:World} {b:Nat} {es:Array MapEntry} {c:Nat} (hb:w.heap[b]? = some (.map es c)) (kk:Int) (hf:Instr.findNow (.int .u8) (.int .u8 kk) es.toList 0 = some none) (v:Value) :
  (Instr.mapUpdate 95 (.map (some b)) (.int .u8 kk) v).run Try.prog w = .ok () { w with heap:=w.heap.setIfInBounds b (.map (es.push ⟨.int .u8 kk,v,c⟩) (c + 1)) }:=by
 have ht:=Try.underlying95
 have hk:Try.prog.underlying 5 = some (.int .u8):=Try.underlying5
 have h1:=Go.MapKept.run_findKey (P:=Try.prog) (w:=w) hk hf
 simp [Instr.mapUpdate,run_underlying ht,Go.MapKept.run_getObj_map hb,Go.MapKept.run_checkKey hk (key_u8 kk),h1,Go.MapKept.run_setObj_map _ hb,Result.andThen]
theorem map_turn {w:World} {b:Nat} {es:Array MapEntry} {c:Nat} (hb:w.heap[b]? = some (.map es c)) (kk:Int) (i:Nat) (u v:Value) (hf:Instr.findNow (.int .u8) (.int .u8 kk) es.toList 0 = some (some (i,u))) (hi:(es[i]?.map (·.key)) = some (.int .u8 kk)) :
  (Instr.mapUpdate 95 (.map (some b)) (.int .u8 kk) v).run Try.prog w = .ok () { w with heap:=w.heap.setIfInBounds b (.map (es.modify i fun e=>{ e with key:=.int .u8 kk,val:=v }) c) }:=by
 have ht:=Try.underlying95
 have hk:Try.prog.underlying 5 = some (.int .u8):=Try.underlying5
 have h1:=Go.MapKept.run_findKey (P:=Try.prog) (w:=w) hk hf
 have h2:=Go.MapKept.run_keyThatStays (P:=Try.prog) (w:=w) (key_u8 kk)
 simp [Instr.mapUpdate,run_underlying ht,Go.MapKept.run_getObj_map hb,Go.MapKept.run_checkKey hk (key_u8 kk),h1,hi,h2,Go.MapKept.run_setObj_map _ hb,Result.andThen]
def setMap (w:World) (b n:Nat) (vT vS:Value):World:={ w with heap:=w.heap.setIfInBounds b (mapO n vT vS) }
theorem look_T {w:World} {b n:Nat} {vT vS:Value} (hb:w.heap[b]? = some (mapO n vT vS)) (hn:n = 0 ∨ n = 1 ∨ n = 2):(Instr.lookup 95 (.map (some b)) (.int .u8 84) false).run Try.prog w = .ok (mapV n 84 vT vS) w:=by
 rcases hn with rfl | rfl | rfl
 ·exact map_look hb 84 none rfl
 ·exact map_look hb 84 (some (0,vT)) rfl
 ·exact map_look hb 84 (some (0,vT)) rfl
theorem look_S {w:World} {b n:Nat} {vT vS:Value} (hb:w.heap[b]? = some (mapO n vT vS)) (hn:n = 0 ∨ n = 1 ∨ n = 2):(Instr.lookup 95 (.map (some b)) (.int .u8 83) false).run Try.prog w = .ok (mapV n 83 vT vS) w:=by
 rcases hn with rfl | rfl | rfl
 ·exact map_look hb 83 none rfl
 ·exact map_look hb 83 none rfl
 ·exact map_look hb 83 (some (1,vS)) rfl
theorem put_T {w:World} {b n:Nat} {vT vS:Value} (hb:w.heap[b]? = some (mapO n vT vS)) (hn:n = 0 ∨ n = 2) (v:Value):(Instr.mapUpdate 95 (.map (some b)) (.int .u8 84) v).run Try.prog w = .ok () (setMap w b (max n 1) v vS):=by
 rcases hn with rfl | rfl
 ·exact map_push hb 84 rfl v
 ·exact map_turn hb 84 0 vT v rfl rfl
theorem put_S {w:World} {b n:Nat} {vT vS:Value} (hb:w.heap[b]? = some (mapO n vT vS)) (hn:n = 1 ∨ n = 2) (v:Value):(Instr.mapUpdate 95 (.map (some b)) (.int .u8 83) v).run Try.prog w = .ok () (setMap w b 2 vT v):=by
 rcases hn with rfl | rfl
 ·exact map_push hb 83 rfl v
 ·exact map_turn hb 83 1 vS v rfl rfl
theorem setMap_at {w:World} {b n:Nat} {o:Obj} (hb:w.heap[b]? = some o) (vT vS:Value):(setMap w b n vT vS).heap[b]? = some (mapO n vT vS):=by
 have:=(Array.getElem?_eq_some_iff.1 hb).1
 simp [setMap,this]
theorem setMap_far {w:World} {b n:Nat} (vT vS:Value) {g:Nat} (h:g≠b):(setMap w b n vT vS).heap[g]? = w.heap[g]?:=by
 simp only [setMap,Array.getElem?_setIfInBounds]
 rw [if_neg (fun e=>h e.symm)]
theorem setMap_grown {w:World} {b n:Nat} (vT vS:Value):w.grownBy (setMap w b n vT vS) (some b) :=
 ⟨rfl,rfl,rfl,by simp [setMap],fun i _ hi=>setMap_far vT vS (fun e=>hi (by rw [e]))⟩
theorem setMap_below {w0 w:World} {b n:Nat} (vT vS:Value) (hB:Below w0.heap.size w0 w) (hb:w0.heap.size≤b):Below w0.heap.size w0 (setMap w b n vT vS) :=
 hB.grown (setMap_grown vT vS) hB.size (fun k e=>by injection e with e;omega)
end Go.Proofs.Ytoijcallajegfaa.M
end
section
namespace Go.Proofs.Ytoijcallajegfaa.A
open Go.RowKit Go.Proofs.YtoijcallajegfaaW.PrintWords Go.Proofs.YtoijcallajegfaaW.PrintLast Go.Proofs.YtoijcallajegfaaW.PrintMore
attribute [local go_sem] max2_int min2_int max_two min_two max_three min_three max_four min_four
set_option linter.unusedVariables false
set_option linter.unusedSimpArgs false
def Z65.l0:Nat→List Int→List Bool→Int→Option Bool
 | 0,_,_,_=>none
 | k + 1,l,s,i=>if i < (l.length:Int) then (if 0≤i then (if rd l i < 0 then some false else (if rd l i ≥ (l.length:Int) then some false else (if rdOf false s (rd l i) = true then some false else Z65.l0 k l (s.set (rd l i).toNat true) (wrap64 (i + 1))))) else none) else some true
def Z65.f (k:Nat) (l0:List Int):Option Bool:=if (l0.length:Int) > 24 then some false else Z65.l0 k l0 (List.replicate 24 false) 0
theorem Z65.mono_l:∀ k,(∀ y0 y1 y2,LeO (Z65.l0 k y0 y1 y2) (Z65.l0 (k + 1) y0 y1 y2))
 | 0=>fun _ _ _ r h=>by simp [Z65.l0] at h
 | k + 1=>by
  have ih0:=Z65.mono_l k
  ·intro y0 y1 y2
   unfold Z65.l0
   repeat' first|exact ih0 _ _ _|exact lo_|refine LeO.ite ?_ ?_|refine LeO.bind ?_ (fun _=>?_)
theorem Z65.mono:∀ a0 k,LeO (Z65.f k a0) (Z65.f (k + 1) a0):=by
 intro a0 k
 unfold Z65.f
 exact LeO.ite (LeO.refl _) (Z65.mono_l k _ _ _)
def Z24:Array Value:=#[Value.bool false,Value.bool false,Value.bool false,Value.bool false,Value.bool false,Value.bool false,Value.bool false,Value.bool false,Value.bool false,Value.bool false,Value.bool false,Value.bool false,Value.bool false,Value.bool false,Value.bool false,Value.bool false,Value.bool false,Value.bool false,Value.bool false,Value.bool false,Value.bool false,Value.bool false,Value.bool false,Value.bool false]
theorem row_same (w:World) (g:Nat) (t:TypeId) (cur:Array Value) (hg:w.heap[g]? = some (.cells cur t (0,0))):w.setRow g cur = w:=by
 have hv:∀ h,w.heap[g]'h = .cells cur t (0,0):=fun h=>(Array.getElem?_eq_some_iff.1 hg).2
 unfold World.setRow
 cases w with
 | mk heap tape drawn os output =>
  congr 1
  apply Array.ext
  ·simp
  ·intro k h1 h2
   simp only [Array.getElem_modify]
   split
   ·rename_i hk;subst hk;simp at hv;simp [hv h2]
   ·rfl
theorem wpList_val {P:Program} {ops:Array Oper} {rest:List Oper} {o:Oper} {a:Act} {Q:Exit→Act→World→Prop} {w:World} (hg:o.guard = none) (v:Value) (w1:World) (hrun:(execOp a.eval o).run P w = .ok (.value v) w1) (h:wpList P ops Q rest (a.put o.dst v) w1):wpList P ops Q (o :: rest) a w :=
 wpList_plain hg fun K hK=>by unfold Oper.wp;rw [hrun];exact hK _ _ h
theorem perm_start (w:World):Kd.R Kd.bool 137 (w.alloc (.cells Z24 137)) w.heap.size (fun _=>True) (.slice (some ⟨w.heap.size,0,none⟩) 24 24) (List.replicate 24 false):=by
 have h:=World.ownsRow_lit (base:=w.heap.size) (e:=137) (size:=1) w Z24 24 (nA_ _) (by unfold maxLen;omega) rfl
 exact Kd.R_of_own (xs:=List.replicate 24 false) h (fun _ _=>trivial)
set_option maxHeartbeats 8000000 in
set_option maxRecDepth 100000 in
theorem Z65.calls (k:Nat) (A0:Option Addr) (c0:Nat) (l0:List Int) (r:Bool) (w:World) (hr0:Kd.C (Kd.int .i64) w A0 l0.length l0) (hc0:l0.length≤c0) (h:Z65.f k l0 = some r) :
  Calls Try.prog 109 #[.slice A0 l0.length c0] w fun e w'=>e = .returned (.bool r)∧Below w.heap.size w w':=by
 have HR0:=A_ hr0
 have HC0:=A_ hc0
 clear hr0 hc0
 have hst:=perm_start w
 have HST:=A_ hst
 clear hst
 have hb0:Below w.heap.size w (w.alloc (.cells Z24 137)):=(Below.refl _ _).alloc (nA_ _) _
 have HB0:=A_ hb0
 clear hb0
 unfold Z65.f at h
 by_cases c2:(l0.length:Int) > 24
 ·rw [if_pos c2] at h
  have c2b0:decide (24 < (l0.length:Int)) = true:=oC_ c2
  have c2b1:decide (24 < l0.length) = true:=oC_ (by omega)
  clear c2
  obtain rfl:=Option.some.inj h
  go_enter Try.func109,Try.ntmps109
  go_upto_region 1 with (fail)
  refine wp_region_lit ?_
  refine wpList_val rfl (.agg Z24) w (by as_aux_lemma=>kernel_rfl) ?_
  refine wpList_val rfl (.pointer (some ⟨w.heap.size,0,none⟩)) (w.alloc (.cells Z24 137)) (by as_aux_lemma=>kernel_rfl) ?_
  refine wpList_store_row rfl 137 (.tmp 3) (.tmp 6) rfl w.heap.size Z24 rfl rfl 137 Z24 (heap_alloc_new _ _) (by as_aux_lemma=>kernel_rfl) rfl (by as_aux_lemma=>kernel_rfl) ?_
  rw [row_same _ _ _ _ (heap_alloc_new _ _)]
  generalize w.alloc (.cells Z24 137) = wq at HB0 ⊢
  generalize Value.agg Z24 = ag
  go_wp2
  go_ret
  exact ⟨rfl,HB0.out⟩
 ·rw [if_neg c2] at h
  have hn:l0.length≤24:=by omega
  have HN:=A_ hn
  clear hn
  have c2b0:decide (24 < (l0.length:Int)) = false:=oD_ c2
  have c2b1:decide (24 < l0.length) = false:=oD_ (by omega)
  clear c2
  have H':=A_ h
  clear h
  go_enter Try.func109,Try.ntmps109
  go_upto_region 1 with (fail)
  refine wp_region_lit ?_
  refine wpList_val rfl (.agg Z24) w (by as_aux_lemma=>kernel_rfl) ?_
  refine wpList_val rfl (.pointer (some ⟨w.heap.size,0,none⟩)) (w.alloc (.cells Z24 137)) (by as_aux_lemma=>kernel_rfl) ?_
  refine wpList_store_row rfl 137 (.tmp 3) (.tmp 6) rfl w.heap.size Z24 rfl rfl 137 Z24 (heap_alloc_new _ _) (by as_aux_lemma=>kernel_rfl) rfl (by as_aux_lemma=>kernel_rfl) ?_
  rw [row_same _ _ _ _ (heap_alloc_new _ _)]
  generalize w.alloc (.cells Z24 137) = wq at HB0 HST ⊢
  generalize Value.agg Z24 = ag
  go_wp2
  go_loopg [12] k (fun kq v12 w'=>∃ (s:List Bool) (i:Int),v12 = .int .i64 i∧Aside0 (Z65.l0 kq l0 s i = some r)∧Aside0 (kq≤k)∧Aside0 (s.length = 24)∧Aside0 (Kd.R Kd.bool 137 w' w.heap.size (fun _=>True) (.slice (some ⟨w.heap.size,0,none⟩) 24 24) s)∧Aside0 (Below w.heap.size w w'))
  case atStart=>exact ⟨List.replicate 24 false,0,rfl,H',⟨nA_ _⟩,⟨rfl⟩,HST,HB0⟩
  case round =>
   clear H' HST HB0
   obtain ⟨s,i,rfl,HA,HK1,HS,HO,HB⟩:=hrel
   cases gk with
   | zero=>exact absurd HA.out (by simp [Z65.l0])
   | succ k1 =>
    have H:=HA.out
    clear HA
    simp only [Z65.l0] at H
    by_cases c3:i < (l0.length:Int)
    ·rw [if_pos c3] at H
     have c4:=cp_ H
     replace H:=ca_ H
     have c3b0:=oC_ c3
     have c4b0:=oC_ c4
     obtain ⟨ad,e0,hx⟩:=Kd.at_int HR0.out i c4 c3
     cases e0
     replace hx:=(HB.out.cell (World.block_lt_of_cell? w _ hx)).trans hx
     replace c3:=eq_true c3
     replace c4:=eq_true c4
     by_cases c5:rd l0 i < 0
     ·rw [if_pos c5] at H
      have c5b0:=oC_ c5
      clear c5
      obtain rfl:=Option.some.inj H
      go_wp2
      go_ret
      exact ⟨rfl,HB.out⟩
     ·rw [if_neg c5] at H
      have c5b0:=oD_ c5
      by_cases c6:rd l0 i ≥ (l0.length:Int)
      ·rw [if_pos c6] at H
       have c6b0:decide ((l0.length:Int)≤rd l0 i) = true:=oC_ c6
       clear c5 c6
       obtain rfl:=Option.some.inj H
       go_wp2
       go_ret
       exact ⟨rfl,HB.out⟩
      ·rw [if_neg c6] at H
       have c6b0:decide ((l0.length:Int)≤rd l0 i) = false:=oD_ c6
       have p1:0≤rd l0 i:=by omega
       have p2:rd l0 i < ((24:Nat):Int):=by have:=HN.out;omega
       have p2':rd l0 i < 24:=p2
       obtain ⟨hy,hz⟩:=Kd.R_celln false HO.out (rd l0 i) p1 p2
       have p1b:decide (0≤rd l0 i) = true:=oC_ p1
       have p2b:decide (rd l0 i < 24) = true:=oC_ p2'
       clear c5 c6
       by_cases c7:rdOf false s (rd l0 i) = true
       ·rw [if_pos c7] at H
        rw [c7] at hy
        clear c7
        obtain rfl:=Option.some.inj H
        go_wp2
        go_ret
        exact ⟨rfl,HB.out⟩
       ·rw [if_neg c7] at H
        replace c7:=Bool.eq_false_iff.mpr c7
        rw [c7] at hy
        clear c7
        have H':=A_ H
        clear H
        have HP:=Kd.R_putg HO.out (rd l0 i) true
        have HP':=A_ HP
        clear HP
        go_wp2
        go_roundg k1
        case measure=>have:=HK1.out;omega
        case rel=>exact ⟨s.set (rd l0 i).toNat true,wrap64 (i + 1),rfl,H',⟨by have:=HK1.out;omega⟩,⟨by rw [List.length_set];exact HS.out⟩,⟨HP'.out.1⟩,⟨bD_ HB.out (nA_ _)⟩⟩
    ·rw [if_neg c3] at H
     have c3b0:=oD_ c3
     clear c3
     obtain rfl:=Option.some.inj H
     go_wp2
     go_ret
     exact ⟨rfl,HB.out⟩
end Go.Proofs.Ytoijcallajegfaa.A
end
section
namespace Go.Proofs.Ytoijcallajegfaa.A
open Go.RowKit Go.Proofs.YtoijcallajegfaaW.PrintWords Go.Proofs.YtoijcallajegfaaW.PrintLast Go.Proofs.YtoijcallajegfaaW.PrintMore
attribute [local go_sem] max2_int min2_int max_two min_two max_three min_three max_four min_four
set_option linter.unusedVariables false
set_option linter.unusedSimpArgs false
mutual
def Z13.j0:Nat→List Int→List Int→Bool→Option (Bool)
 | 0,_,_,_=>none
 | k + 1,x0,x1,x29=>if x29 = true then (some false) else (if 0≤(x0.length:Int) then (if ((x0.length:Int):Int).toNat≤281474976710656 then ((some (List.replicate ((x0.length:Int):Int).toNat false:List Bool)).bind fun y117=>(if 0 < (y117.length:Int) then (Z13.l0 k x0 x1 (y117.set (0:Int).toNat true) (([0]:List Int)) 0) else (none))) else (none)) else (none))
def Z13.l0:Nat→List Int→List Int→List Bool→List Int→Int→Option (Bool)
 | 0,_,_,_,_,_=>none
 | k + 1,x0,x1,x5,x6,x7=>if x7 < (x6.length:Int) then (if 0≤x7 then (if 0≤(rd x6 x7) then (if (rd x6 x7) < (x0.length:Int) then (if (rd x6 x7) < (x1.length:Int) then ((some (([rd x0 (rd x6 x7),rd x1 (rd x6 x7)]:List Int):List Int)).bind fun y128=>(Z13.l1 k x0 x1 x5 x6 x7 y128 (y128.length:Int) 0)) else (none)) else (none)) else (none)) else (none)) else (some ((x6.length:Int) == (x0.length:Int)))
def Z13.l1:Nat→List Int→List Int→List Bool→List Int→Int→List Int→Int→Int→Option (Bool)
 | 0,_,_,_,_,_,_,_,_=>none
 | k + 1,x0,x1,x5,x6,x7,x56,x57,x58=>if x58 < x57 then (if 0≤x58 then (if x58 < (x56.length:Int) then (if 0≤(rd x56 x58) then (if (rd x56 x58) < (x5.length:Int) then (if (rdOf false x5 (rd x56 x58) = true) then (Z13.l1 k x0 x1 x5 x6 x7 x56 x57 (wrap64 (x58 + 1))) else (if x6.length < 17592186044416 then (Z13.l1 k x0 x1 (x5.set ((rd x56 x58):Int).toNat true) (x6 ++ [rd x56 x58]) x7 x56 x57 (wrap64 (x58 + 1))) else (none))) else (none)) else (none)) else (none)) else (none)) else (Z13.l0 k x0 x1 x5 x6 (wrap64 (x7 + 1)))
end
def Z13.f (k:Nat) (l0:List Int) (l1:List Int):Option (Bool):=(Z65.f k l0).bind fun t115=>(if t115 = true then ((Z65.f k l1).bind fun t116=>(if t116 = true then (if (l0.length:Int) = (l1.length:Int) then (Z13.j0 k l0 l1 ((l0.length:Int) == 0)) else (Z13.j0 k l0 l1 true)) else (Z13.j0 k l0 l1 true))) else (Z13.j0 k l0 l1 true))
theorem Z13.mono_l:∀ k,(∀ y0 y1 y2,LeO (Z13.j0 k y0 y1 y2) (Z13.j0 (k + 1) y0 y1 y2))∧(∀ y0 y1 y2 y3 y4,LeO (Z13.l0 k y0 y1 y2 y3 y4) (Z13.l0 (k + 1) y0 y1 y2 y3 y4))∧(∀ y0 y1 y2 y3 y4 y5 y6 y7,LeO (Z13.l1 k y0 y1 y2 y3 y4 y5 y6 y7) (Z13.l1 (k + 1) y0 y1 y2 y3 y4 y5 y6 y7))
 | 0=>⟨fun _ _ _ r h=>by simp [Z13.j0] at h,fun _ _ _ _ _ r h=>by simp [Z13.l0] at h,fun _ _ _ _ _ _ _ _ r h=>by simp [Z13.l1] at h⟩
 | k + 1=>by
  obtain ⟨ih0,ih1,ih2⟩:=Z13.mono_l k
  refine ⟨?_,?_,?_⟩
  ·intro y0 y1 y2
   unfold Z13.j0
   repeat' first|exact ih0 _ _ _|exact ih1 _ _ _ _ _|exact ih2 _ _ _ _ _ _ _ _|exact Z65.mono _ _|exact lo_|refine LeO.ite ?_ ?_|refine LeO.bind ?_ (fun _=>?_)
  ·intro y0 y1 y2 y3 y4
   unfold Z13.l0
   repeat' first|exact ih0 _ _ _|exact ih1 _ _ _ _ _|exact ih2 _ _ _ _ _ _ _ _|exact Z65.mono _ _|exact lo_|refine LeO.ite ?_ ?_|refine LeO.bind ?_ (fun _=>?_)
  ·intro y0 y1 y2 y3 y4 y5 y6 y7
   unfold Z13.l1
   repeat' first|exact ih0 _ _ _|exact ih1 _ _ _ _ _|exact ih2 _ _ _ _ _ _ _ _|exact Z65.mono _ _|exact lo_|refine LeO.ite ?_ ?_|refine LeO.bind ?_ (fun _=>?_)
theorem Z13.mono:∀ a0 a1 k,LeO (Z13.f k a0 a1) (Z13.f (k + 1) a0 a1):=by
 intro a0 a1 k
 obtain ⟨ih0,ih1,ih2⟩:=Z13.mono_l k
 unfold Z13.f
 repeat' first|exact ih0 _ _ _|exact ih1 _ _ _ _ _|exact ih2 _ _ _ _ _ _ _ _|exact Z65.mono _ _|exact lo_|refine LeO.ite ?_ ?_|refine LeO.bind ?_ (fun _=>?_)
def Z13.T9:Bool × List (List Nat × List Nat):=(true,[([],[]),([],[]),([],[]),([1,2],[1,2]),([3],[3]),([0,4],[0,4]),([5],[5]),([],[]),([],[]),([],[]),([8,9],[8,9]),([10],[10]),([7,11],[7,11]),([12],[12]),([6,13],[6,13]),([14],[14]),([],[])])
def Z13.B9:List Nat:=[0,0,0,6,14,31,63,0,0,0,768,1792,3968,8064,16383,32767,0]
theorem Z13.tab9:rtab .any (opsOf Try.f61 9) = Z13.T9:=by kernel_rfl
theorem Z13.bits9:waitsOk Z13.T9.2 Z13.B9 = true:=by kernel_rfl
set_option maxHeartbeats 8000000 in
set_option maxRecDepth 100000 in
theorem Z13.calls (k:Nat) (A0:Option Addr) (c0:Nat) (l0:List Int) (A1:Option Addr) (c1:Nat) (l1:List Int) (r:Bool) (w:World) (hr0:Kd.C (Kd.int .i64) w A0 l0.length l0) (hc0:l0.length≤c0) (hr1:Kd.C (Kd.int .i64) w A1 l1.length l1) (hc1:l1.length≤c1) (h:Z13.f k l0 l1 = some r) :
  Calls Try.prog 61 #[.slice A0 l0.length c0,.slice A1 l1.length c1] w fun e w'=>e = .returned (.bool r)∧Below w.heap.size w w':=by
 have HR0:=A_ hr0
 have HC0:=A_ hc0
 clear hr0 hc0
 have HR1:=A_ hr1
 have HC1:=A_ hc1
 clear hr1 hc1
 have HB:=A_ (Below.refl w.heap.size w)
 have H:=h
 unfold Z13.f at H
 clear h
 have HC3:=A_ H
 clear H
 go_enter Try.func61,Try.ntmps61
 go_upto_region 1 with (fail)
 go_cut [29] (fun v29 wc=>∃ (kq:Nat) (x29_2:Bool),v29 = .bool x29_2∧Aside0 (Z13.j0 kq l0 l1 x29_2 = some r)∧Aside0 (kq≤k)∧Aside0 (Below w.heap.size w wc))
 case first =>
  have H:=HC3.out
  clear HC3
  obtain ⟨t115,A4,H⟩:=bi_ H
  by_cases c5:t115 = true
  ·subst c5
   rw [if_pos rfl] at H
   obtain ⟨t116,A6,H⟩:=bi_ H
   by_cases c7:t116 = true
   ·subst c7
    rw [if_pos rfl] at H
    by_cases c8:(l0.length:Int) = (l1.length:Int)
    ·rw [if_pos c8] at H
     have c8b0:((l0.length:Int) == (l1.length:Int)) = true:=beq_iff_eq.mpr c8
     have c8b1:((l0.length:Int) != (l1.length:Int)) = false:=bne_eq_false_iff_eq.mpr c8
     have c8b2:(l0.length == l1.length) = true:=by first | simpa using c8 | (simp at c8 ⊢;omega)
     clear c8
     (first | rw [c8b0] | (simp only [i64_w,i32_w];rw [c8b0]) | skip)
     have H':=A_ H
     clear H
     go_wp2_with (first | ((with_reducible refine gA_ (f:=109) rfl ?_);refine gL_ (some 11) Try.func109 #[.slice A0 l0.length c0] rfl qa_ ?_;(with_reducible refine (Z65.calls k _ _ l0 true _ (cb_ HR0) HC0.out A4.out).mono ?_);rintro e w9 ⟨rfl,hb⟩;refine ⟨_,rfl,?_⟩;replace HB:=b1_ hb;clear hb) | (go_at_call 109;(with_reducible refine (Z65.calls k _ _ l1 true _ (cb_ HR1) HC1.out A6.out).mono ?_);rintro e w10 ⟨rfl,hb⟩;replace HB:=b1_ hb;clear hb))
     go_meet
     case rel=>exact ⟨_,(((l0.length:Int) == 0)),qc_,H',⟨qd_⟩,⟨hB_⟩⟩
    ·rw [if_neg c8] at H
     have c8b0:((l0.length:Int) == (l1.length:Int)) = false:=beq_eq_false_iff_ne.mpr c8
     have c8b1:((l0.length:Int) != (l1.length:Int)) = true:=bne_iff_ne.mpr c8
     have c8b2:(l0.length == l1.length) = false:=by first | simpa using c8 | (simp at c8 ⊢;omega)
     (first | rw [c8b0] | (simp only [i64_w,i32_w];rw [c8b0]) | skip)
     have H':=A_ H
     clear H
     go_wp2_with (first | ((with_reducible refine gA_ (f:=109) rfl ?_);refine gL_ (some 11) Try.func109 #[.slice A0 l0.length c0] rfl qa_ ?_;(with_reducible refine (Z65.calls k _ _ l0 true _ (cb_ HR0) HC0.out A4.out).mono ?_);rintro e w11 ⟨rfl,hb⟩;refine ⟨_,rfl,?_⟩;replace HB:=b1_ hb;clear hb) | (go_at_call 109;(with_reducible refine (Z65.calls k _ _ l1 true _ (cb_ HR1) HC1.out A6.out).mono ?_);rintro e w12 ⟨rfl,hb⟩;replace HB:=b1_ hb;clear hb))
     go_meet
     case rel=>exact ⟨_,(true),qc_,H',⟨qd_⟩,⟨hB_⟩⟩
   ·replace c7:=Bool.eq_false_iff.mpr c7
    subst c7
    have H1:(Z13.j0 k l0 l1 true) = some r:=by rw [if_neg (show ¬ (false = true) by decide)] at H;exact H
    clear H
    have H:=H1
    clear H1
    have H':=A_ H
    clear H
    go_wp2_with (first | ((with_reducible refine gA_ (f:=109) rfl ?_);refine gL_ (some 11) Try.func109 #[.slice A0 l0.length c0] rfl qa_ ?_;(with_reducible refine (Z65.calls k _ _ l0 true _ (cb_ HR0) HC0.out A4.out).mono ?_);rintro e w13 ⟨rfl,hb⟩;refine ⟨_,rfl,?_⟩;replace HB:=b1_ hb;clear hb) | (go_at_call 109;(with_reducible refine (Z65.calls k _ _ l1 false _ (cb_ HR1) HC1.out A6.out).mono ?_);rintro e w14 ⟨rfl,hb⟩;replace HB:=b1_ hb;clear hb))
    go_meet
    case rel=>exact ⟨_,(true),qc_,H',⟨qd_⟩,⟨hB_⟩⟩
  ·replace c5:=Bool.eq_false_iff.mpr c5
   subst c5
   have H1:(Z13.j0 k l0 l1 true) = some r:=by rw [if_neg (show ¬ (false = true) by decide)] at H;exact H
   clear H
   have H:=H1
   clear H1
   have H':=A_ H
   clear H
   go_wp2_with (first | ((with_reducible refine gA_ (f:=109) rfl ?_);refine gL_ (some 11) Try.func109 #[.slice A0 l0.length c0] rfl qa_ ?_;(with_reducible refine (Z65.calls k _ _ l0 false _ (cb_ HR0) HC0.out A4.out).mono ?_);rintro e w15 ⟨rfl,hb⟩;refine ⟨_,rfl,?_⟩;replace HB:=b1_ hb;clear hb))
   go_meet
   case rel=>exact ⟨_,(true),qc_,H',⟨qd_⟩,⟨hB_⟩⟩
 case rest =>
  clear HC3
  obtain ⟨kq,x29_2,rfl,HA,HJ2,HB⟩:=hcut
  cases kq with
  | zero=>exact absurd HA.out (by simp [Z13.j0])
  | succ kj2 =>
   have H:=HA.out
   clear HA
   simp only [Z13.j0] at H
   by_cases c16:x29_2 = true
   ·subst c16
    rw [if_pos rfl] at H
    obtain rfl:=Option.some.inj H
    go_wp2
    go_ret
    exact ⟨qb_,hB_⟩
   ·replace c16:=Bool.eq_false_iff.mpr c16
    subst c16
    have H1:(if 0≤(l0.length:Int) then (if ((l0.length:Int):Int).toNat≤281474976710656 then ((some (List.replicate ((l0.length:Int):Int).toNat false:List Bool)).bind fun y117=>(if 0 < (y117.length:Int) then (Z13.l0 kj2 l0 l1 (y117.set (0:Int).toNat true) (([0]:List Int)) 0) else (none))) else (none)) else (none)) = some r:=by rw [if_neg (show ¬ (false = true) by decide)] at H;exact H
    clear H
    have H:=H1
    clear H1
    have c17:=cp_ H
    replace H:=ca_ H
    have c17b0:=eq_true c17
    have c17b1:=oC_ c17
    clear c17
    have c18:=cp_ H
    replace H:=ca_ H
    have c18b0:=eq_true c18
    have c18b1:=oC_ c18
    clear c18
    obtain ⟨y117,hy117⟩:∃ y_:List Bool,y_ = (List.replicate ((l0.length:Int):Int).toNat false):=⟨_,rfl⟩
    replace H:(if 0 < (y117.length:Int) then (Z13.l0 kj2 l0 l1 (y117.set (0:Int).toNat true) (([0]:List Int)) 0) else (none)) = some r:=by first | (rw [hy117];exact H) | exact H
    have Ny117:=A_ hy117
    clear hy117
    have c19:=cp_ H
    replace H:=ca_ H
    have c19b0:=oC_ c19
    have c19b1:decide (0 < y117.length) = true:=oC_ (by omega)
    clear c19
    obtain ⟨y120,hy120⟩:∃ y_:List Bool,y_ = (y117.set (0:Int).toNat true):=⟨_,rfl⟩
    replace H:(Z13.l0 kj2 l0 l1 y120 (([0]:List Int)) 0) = some r:=by first | (rw [hy120];exact H) | exact H
    have Ny120:=A_ hy120
    clear hy120
    obtain ⟨y121,hy121⟩:∃ y_:List Int,y_ = (([0]:List Int)):=⟨_,rfl⟩
    replace H:(Z13.l0 kj2 l0 l1 y120 y121 0) = some r:=by first | (rw [hy121];exact H) | exact H
    have Ny121:=A_ hy121
    clear hy121
    have H':=A_ H
    clear H
    go_wp2_with (first | ((with_reducible refine gB_ (N:=32) rfl ?_);(try (refine gate_guard (by rfl) ?_;dsimp only));refine Kd.R_make Kd.bool _ 4 rfl (N:=32) rfl 111 _ _ rfl (l0.length:Int) rfl rfl Try.underlying111 (.bool false) 1 info4 rfl (by decide) (by omega) false (ok:=fun _=>True) (okp:=fun _=>True) rfl (fun _ hk=>hk) trivial (oB_ qe_) (Nat.le_trans (Nat.mul_le_mul_right _ (oB_ qe_:(l0.length:Int).toNat≤281474976710656)) (by omega)) (Below.refl _ _) (nA_ _) ?_;intro v118 w21 ho22 hb hg_ hnew_;clear hg_ hnew_;(first | rw [← Ny117.out] at ho22 | (simp only [Int.reduceToNat] at ho22;rw [← Ny117.out] at ho22));have HO119:=rl_ w ho22;replace HB:=b1_ hb;clear hb ho22;have p20:0≤(0:Int):=(by omega);have q20:(0:Int) < ((y117.length:Int):Int):=oB_ qe_;have qi20:(0 < y117.length) = True:=eq_true (by omega);obtain ⟨go20,co20,eo20,gb20,gl20,cl20,HG20⟩:=Kd.R_form HO119.out (by omega);(first | cases eo20 | (injection eo20 with ea_ en_ ec_;(first | subst ea_ | (injection ea_ with ea_;subst ea_));subst ec_;clear en_));have GB20:=A_ gb20;have GG20:=A_ HG20;clear gb20 gl20 HG20;obtain ⟨hx20_0,hf20_0⟩:=Kd.R_celln false HO119.out (0:Int) p20 q20;(try rw [show ((0:Int)).toNat = 0 from rfl] at hx20_0);(try simp only [Nat.reduceMul,Nat.zero_mul,Nat.zero_add,Nat.reduceAdd] at hx20_0);(try rw [show ((0:Int)).toNat = 0 from rfl] at hf20_0);(try simp only [Nat.reduceMul,Nat.zero_mul,Nat.zero_add,Nat.reduceAdd] at hf20_0);replace p20:=eq_true p20;replace q20:=eq_true q20;obtain ⟨hy23_,hz23_⟩:=Kd.R_celln false HO119.out (0:Int) (by omega) (oB_ qe_);(try simp only [Int.reduceToNat,Int.toNat_zero,Int.toNat_ofNat,Nat.reduceMul,Nat.zero_mul,Nat.zero_add] at hy23_ hz23_);(try rw [show ((0:Int)).toNat = 0 from rfl] at hy23_);(try rw [show ((0:Int)).toNat = 0 from rfl] at hz23_);have HP23:=Kd.R_putg HO119.out (0:Int) true) | ((with_reducible refine gate_store (t:=4) (p:=34) rfl ?_);refine store_event (t:=4) (p:=34) (v:=?vo_w24) (w1:=(w21.setCell ⟨go20,(0:Int).toNat,none⟩ (.bool true))) ?hg ?ho ?hn ?hr ?_;(case ho=>rfl);(case hg=>rfl);(case hn=>rfl);(case hr=>first | (go_simp;done) | (go_simp;rfl));intro w24 hw;have hg:w21.grownBy w24 (some go20):=(by rw [hw];exact HP23.2);have hp_:Kd.R Kd.bool 4 w24 w.heap.size (fun _=>True) (.slice (some ⟨go20,0,none⟩) y117.length co20) y120:=(by rw [hw,Ny120.out];exact HP23.1);clear HP23;replace HO119:=A_ (hp_);replace HB:=A_ ((by rw [hw];exact bD_ (HB.out) GB20.out:Below w.heap.size w w24));clear hg hw hp_) | ((with_reducible refine gB_ (N:=35) rfl ?_);(try (refine gate_guard (by rfl) ?_;dsimp only));refine Kd.R_lit (Kd.int .i64) _ 3 ?hg (N:=35) ?hd (xs:=([0]:List Int)) (inner:=[.int .i64 0]) (ok:=fun _=>True) (okp:=fun _=>True) ?hr ?hp (fun _ hk=>hk) trivial (Below.refl _ _) (nA_ _) (by simp) ?_;(case hd=>rfl);(case hg=>rfl);(case hr=>first | (go_simp;done) | (go_simp;rfl));(case hp=>exact (Reps.one (show Kd.M (Kd.int .i64) _ _ _ 0 [.int .i64 0] from rfl) (Reps.none _ _)));intro v122 w25 ho26 hb hg_ hnew_;clear hg_ hnew_;(first | rw [← Ny121.out] at ho26 | (simp only [Int.reduceToNat] at ho26;rw [← Ny121.out] at ho26));replace HO119:=rb_ HO119 hb;have HO123:=rl_ w ho26;replace HB:=b1_ hb;clear hb ho26))
    go_loopg [6,7] kj2 (fun kq v6 v7 w'=>∃ (x5_2:List Bool) (x6_2:List Int) (x7_2:Int),v7 = .int .i64 x7_2∧Aside0 (Z13.l0 kq l0 l1 x5_2 x6_2 x7_2 = some r)∧Aside0 (kq≤kj2)∧Aside0 (Kd.R Kd.bool 4 w' w.heap.size (fun _=>True) (.slice (some ⟨go20,0,none⟩) y117.length co20) x5_2)∧Aside0 (Kd.R (Kd.int .i64) 3 w' w.heap.size (fun _=>True) v6 x6_2)∧Aside0 (Below w.heap.size w w'))
    case atStart=>exact ⟨(y120),(y121),(0),qc_,H',⟨nA_ _⟩,⟨(rr_ HO119)⟩,⟨(rr_ HO123)⟩,⟨hB_⟩⟩
    case round =>
     clear H'
     obtain ⟨x5_2,x6_2,x7_2,rfl,HA,HK2,HO_5,HO_6,HB⟩:=hrel
     have hl5_2:=(Kd.R_reads' HO_5.out).1
     rw [hl5_2] at HO_5
     (try simp only [hl5_2])
     (try simp only [hl5_2] at HO_6)
     cases gk with
     | zero=>exact absurd HA.out (by simp [Z13.l0])
     | succ k2 =>
      have H:=HA.out
      clear HA
      simp only [Z13.l0] at H
      by_cases c27:x7_2 < (x6_2.length:Int)
      ·rw [if_pos c27] at H
       have c27b0:=oC_ c27
       clear c27
       replace H:=cx_ H;obtain ⟨c28b0,H⟩:=H
       replace H:=cx_ H;obtain ⟨c29b0,H⟩:=H
       replace H:=cx_ H;obtain ⟨c30b0,H⟩:=H
       replace H:=cx_ H;obtain ⟨c31b0,H⟩:=H
       obtain ⟨y128,hy128⟩:∃ y_:List Int,y_ = (([rd l0 (rd x6_2 x7_2),rd l1 (rd x6_2 x7_2)]:List Int)):=⟨_,rfl⟩
       replace H:(Z13.l1 k2 l0 l1 x5_2 x6_2 x7_2 y128 (y128.length:Int) 0) = some r:=by first | (rw [hy128];exact H) | exact H
       have Ny128:=A_ hy128
       clear hy128
       have H':=A_ H
       clear H
       obtain ⟨Ao32,co32,eo32⟩:=Kd.R_slice HO_6.out
       subst eo32
       try go_wp2
       replace HO_5:=A_ (rC_ HO_5.out)
       replace HO_6:=A_ (rC_ HO_6.out)
       replace HB:=A_ (bC_ HB.out)
       have p124:0≤(x7_2:Int):=oB_ qe_
       have q124:x7_2 < (x6_2.length:Int):=oB_ qe_
       obtain ⟨ad124,e124,hx124_0⟩:=Kd.at_int (Kd.R_reads' HO_6.out).2.2 x7_2 p124 q124
       cases e124
       replace p124:=eq_true p124
       replace q124:=eq_true q124
       have p125:0≤((rd x6_2 x7_2):Int):=oB_ qe_
       have q125:(rd x6_2 x7_2) < (l0.length:Int):=oB_ qe_
       obtain ⟨ad125,e125,hx125_0⟩:=Kd.at_int HR0.out (rd x6_2 x7_2) p125 q125
       have hw125_0:=hx125_0
       cases e125
       replace hx125_0:=(HB.out.cell (World.block_lt_of_cell? w _ hx125_0)).trans hx125_0
       replace p125:=eq_true p125
       replace q125:=eq_true q125
       have p126:0≤(x7_2:Int):=oB_ qe_
       have q126:x7_2 < (x6_2.length:Int):=oB_ qe_
       obtain ⟨ad126,e126,hx126_0⟩:=Kd.at_int (Kd.R_reads' HO_6.out).2.2 x7_2 p126 q126
       obtain rfl:ad124 = ad126:=(by injection e126)
       replace p126:=eq_true p126
       replace q126:=eq_true q126
       have p127:0≤((rd x6_2 x7_2):Int):=oB_ qe_
       have q127:(rd x6_2 x7_2) < (l1.length:Int):=oB_ qe_
       obtain ⟨ad127,e127,hx127_0⟩:=Kd.at_int HR1.out (rd x6_2 x7_2) p127 q127
       have hw127_0:=hx127_0
       cases e127
       replace hx127_0:=(HB.out.cell (World.block_lt_of_cell? w _ hx127_0)).trans hx127_0
       replace p127:=eq_true p127
       replace q127:=eq_true q127
       refine start_ (n:=17) (S:=fun w'=>w'.cell? (ad124.add (x7_2).toNat) = some (.int .i64 (rd x6_2 x7_2))∧w'.cell? (ad125.add ((rd x6_2 x7_2)).toNat) = some (.int .i64 (rd l0 (rd x6_2 x7_2)))∧w'.cell? (ad124.add (x7_2).toNat) = some (.int .i64 (rd x6_2 x7_2))∧w'.cell? (ad127.add ((rd x6_2 x7_2)).toNat) = some (.int .i64 (rd l1 (rd x6_2 x7_2)))) (ds:=[]) (bl_ 17 0) (by kernel_rfl) rfl (by kernel_rfl) ⟨hx124_0,((HB.out.cell (World.block_lt_of_cell? w _ hw125_0)).trans hw125_0),hx126_0,((HB.out.cell (World.block_lt_of_cell? w _ hw127_0)).trans hw127_0)⟩ (fun hHeld=>?_);refine with_tabW Z13.tab9 Z13.bits9 (fun HT_ HW_=>?_)
       generalize wr.drew = w33 at HO_5 HO_6 HB hx124_0 hx125_0 hx126_0 hx127_0 hHeld ⊢
       refine pu_ 0 (some 42) (bl_ 17 1) HT_ ?_
       refine pu_ 1 (some 43) (bl_ 17 3) HT_ ?_
       refine pu_ 2 (some 44) (bl_ 17 7) HT_ ?_
       refine pu_ 3 (some 45) (bl_ 17 15) HT_ ?_
       refine pu_ 7 (some 49) (bl_ 17 143) HT_ ?_
       refine pu_ 8 (some 50) (bl_ 17 399) HT_ ?_
       refine pu_ 9 (some 51) (bl_ 17 911) HT_ ?_
       refine pu_ 10 (some 52) (bl_ 17 1935) HT_ ?_
       refine pu_ 16 (some 58) (bl_ 17 67471) HT_ ?_
       refine ta_ 4 (some 46) (bl_ 17 67487) HT_ HW_ hHeld ?_
       refine pu_ 5 (some 47) (bl_ 17 67519) HT_ ?_
       refine ta_ 6 (some 48) (bl_ 17 67583) HT_ HW_ hHeld ?_
       refine ta_ 11 (some 53) (bl_ 17 69631) HT_ HW_ hHeld ?_
       refine pu_ 12 (some 54) (bl_ 17 73727) HT_ ?_
       refine ta_ 13 (some 55) (bl_ 17 81919) HT_ HW_ hHeld ?_
       refine on_ 14 (some 56) (bl_ 17 98303) HT_ (fun K hK=>?_)
       refine Kd.R_lit_step (Kd.int .i64) _ 3 ?hg (N:=56) ?hd (xs:=([rd l0 (rd x6_2 x7_2),rd l1 (rd x6_2 x7_2)]:List Int)) (inner:=[.int .i64 (rd l0 (rd x6_2 x7_2)),.int .i64 (rd l1 (rd x6_2 x7_2))]) (ok:=fun _=>True) (okp:=fun _=>True) ?hr ?hp (fun _ hk=>hk) trivial (Below.refl _ _) (nA_ _) (by simp) ?_;(case hd=>rfl);(case hg=>rfl);(case hr=>first | (go_simp;done) | (go_simp;rfl));(case hp=>exact (Reps.one (show Kd.M (Kd.int .i64) _ _ _ (rd l0 (rd x6_2 x7_2)) [.int .i64 (rd l0 (rd x6_2 x7_2))] from rfl) (Reps.one (show Kd.M (Kd.int .i64) _ _ _ (rd l1 (rd x6_2 x7_2)) [.int .i64 (rd l1 (rd x6_2 x7_2))] from rfl) (Reps.none _ _))))
       intro v129 w34 ho35 hb hg_ hnew_
       have HS0_:=(hb.cell (World.block_lt_of_cell? _ _ (hHeld.1))).trans (hHeld.1)
       have HS2_:=(hb.cell (World.block_lt_of_cell? _ _ (hHeld.2.2.1))).trans (hHeld.2.2.1)
       clear hg_ hnew_
       (first | rw [← Ny128.out] at ho35 | (simp only [Int.reduceToNat] at ho35;rw [← Ny128.out] at ho35))
       replace HO_5:=rb_ HO_5 hb
       have HO130:=A_ (rE_ (Kd.R_new' ho35 (Kd.R_lt (rr_ HO_6))) (bF_ hB_))
       replace HO_6:=A_ (Kd.R_elder' (rr_ HO_6) (Kd.R_base ho35) hb)
       replace HB:=b1_ hb
       clear hb ho35
       obtain ⟨Ao36,co36,eo36⟩:=Kd.R_slice HO130.out
       (first|subst eo36|(injection eo36 with a_ b_ c_;have a_:=a_.symm;have c_:=c_.symm;clear b_;subst a_;subst c_))
       refine hK.out _ _ ⟨HS0_,((HB.out.cell (World.block_lt_of_cell? w _ hw125_0)).trans hw125_0),HS2_,((HB.out.cell (World.block_lt_of_cell? w _ hw127_0)).trans hw127_0)⟩ (fun hHeld=>?_)
       clear hK K
       refine no_ (some 56) ?_
       refine pu_ 15 (some 57) (bl_ 17 131071) HT_ ?_
       refine done_ (done_of HT_.out (by kernel_rfl)) ?_
       try go_wp2
       go_loopg [6,58] k2 (fun kq v6 v58 w'=>∃ (x5_3:List Bool) (x6_3:List Int) (x58_3:Int),v58 = .int .i64 x58_3∧Aside0 (Z13.l1 kq l0 l1 x5_3 x6_3 x7_2 y128 (y128.length:Int) x58_3 = some r)∧Aside0 (kq≤k2)∧Aside0 (Kd.R Kd.bool 4 w' w.heap.size (fun _=>True) (.slice (some ⟨go20,0,none⟩) x5_2.length co20) x5_3)∧Aside0 (Kd.R (Kd.int .i64) 3 w' w.heap.size (fun k_=>some k_≠((.slice Ao36 y128.length co36):Value).ownBlock) v6 x6_3)∧Aside0 (Kd.R (Kd.int .i64) 3 w' w.heap.size (fun k_=>some k_≠(v6:Value).ownBlock) (.slice Ao36 y128.length co36) y128)∧Aside0 (Below w.heap.size w w'))
       case atStart=>exact ⟨(x5_2),(x6_2),(0),qc_,H',⟨nA_ _⟩,⟨by (try simp only [hl5_2]);(with_reducible repeat (first | apply rA_ | apply rB_ | apply rC_));exact HO_5.out⟩,⟨by (try simp only [hl5_2]);(with_reducible repeat (first | apply rA_ | apply rB_ | apply rC_));exact Kd.R_mono HO_6.out (fun _ hk=>hk.2)⟩,⟨by (try simp only [hl5_2]);(with_reducible repeat (first | apply rA_ | apply rB_ | apply rC_));exact Kd.R_mono HO130.out (fun _ hk=>hk.2)⟩,⟨hB_⟩⟩
       case round =>
        clear H'
        obtain ⟨x5_3,x6_3,x58_3,rfl,HA,HK3,HO_5,HO_6,HO_56,HB⟩:=hrel
        have hl5_3:=(Kd.R_reads' HO_5.out).1
        rw [hl5_3] at HO_5
        (try simp only [hl5_3])
        (try simp only [hl5_3] at HO_6)
        (try simp only [hl5_3] at HO_56)
        cases gk with
        | zero=>exact absurd HA.out (by simp [Z13.l1])
        | succ k3 =>
         have H:=HA.out
         clear HA
         simp only [Z13.l1] at H
         by_cases c37:x58_3 < (y128.length:Int)
         ·rw [if_pos c37] at H
          have c37b0:=oC_ c37
          clear c37
          replace H:=cx_ H;obtain ⟨c38b0,H⟩:=H
          replace H:=cx_ H;obtain ⟨c39b0,H⟩:=H
          replace H:=cx_ H;obtain ⟨c40b0,H⟩:=H
          replace H:=cx_ H;obtain ⟨c41b0,H⟩:=H
          obtain ⟨bq42,hbq42⟩:∃ b_:Bool,b_ = (rdOf false x5_3 (rd y128 x58_3)):=⟨_,rfl⟩
          replace H:(if (bq42 = true) then (Z13.l1 k3 l0 l1 x5_3 x6_3 x7_2 y128 (y128.length:Int) (wrap64 (x58_3 + 1))) else (if x6_3.length < 17592186044416 then (Z13.l1 k3 l0 l1 (x5_3.set ((rd y128 x58_3):Int).toNat true) (x6_3 ++ [rd y128 x58_3]) x7_2 y128 (y128.length:Int) (wrap64 (x58_3 + 1))) else (none))) = some r:=by rw [← hbq42] at H;exact H
          have Nbq42:=A_ hbq42
          clear hbq42
          by_cases c43:(bq42 = true)
          ·subst c43
           rw [if_pos rfl] at H
           have H':=A_ H
           clear H
           have p131:0≤(x58_3:Int):=oB_ qe_
           have q131:x58_3 < (y128.length:Int):=oB_ qe_
           obtain ⟨ad131,e131,hx131_0⟩:=Kd.at_int (Kd.R_reads' HO_56.out).2.2 x58_3 p131 q131
           cases e131
           replace p131:=eq_true p131
           replace q131:=eq_true q131
           have p132:0≤((rd y128 x58_3):Int):=oB_ qe_
           have q132:(rd y128 x58_3) < (x5_3.length:Int):=oB_ qe_
           obtain ⟨ad132,e132,hx132_0⟩:=Kd.at_bool (Kd.R_reads' HO_5.out).2.2 (rd y128 x58_3) p132 q132
           (try rw [← Nbq42.out] at hx132_0)
           obtain rfl:(⟨go20,0,none⟩:Addr) = ad132:=(by injection e132)
           (first | simp only [add_plain] at hx132_0 | simp only [add_at] at hx132_0 | simp only [Addr.add,Nat.zero_add] at hx132_0 | skip)
           replace p132:=eq_true p132
           replace q132:=eq_true q132
           go_wp2
           (try simp only [← hl5_3])
           go_roundg k3
           case measure=>have:=HJ2.out;have:=HK2.out;have:=HK3.out;omega
           case rel=>exact ⟨(x5_3),(x6_3),(wrap64 (x58_3 + 1)),qc_,H',⟨by have:=HJ2.out;have:=HK2.out;have:=HK3.out;omega⟩,⟨by (try simp only [hl5_2]);(try simp only [hl5_3]);(with_reducible repeat (first | apply rA_ | apply rB_ | apply rC_));exact HO_5.out⟩,⟨by (try simp only [hl5_2]);(try simp only [hl5_3]);(with_reducible repeat (first | apply rA_ | apply rB_ | apply rC_));exact HO_6.out⟩,⟨by (try simp only [hl5_2]);(try simp only [hl5_3]);(with_reducible repeat (first | apply rA_ | apply rB_ | apply rC_));exact HO_56.out⟩,⟨hB_⟩⟩
          ·replace c43:=Bool.eq_false_iff.mpr c43
           subst c43
           have H1:(if x6_3.length < 17592186044416 then (Z13.l1 k3 l0 l1 (x5_3.set ((rd y128 x58_3):Int).toNat true) (x6_3 ++ [rd y128 x58_3]) x7_2 y128 (y128.length:Int) (wrap64 (x58_3 + 1))) else (none)) = some r:=by rw [if_neg (show ¬ (false = true) by decide)] at H;exact H
           clear H
           have H:=H1
           clear H1
           obtain ⟨y133,hy133⟩:∃ y_:List Bool,y_ = (x5_3.set ((rd y128 x58_3):Int).toNat true):=⟨_,rfl⟩
           replace H:(if x6_3.length < 17592186044416 then (Z13.l1 k3 l0 l1 y133 (x6_3 ++ [rd y128 x58_3]) x7_2 y128 (y128.length:Int) (wrap64 (x58_3 + 1))) else (none)) = some r:=by first | (rw [hy133];exact H) | exact H
           have Ny133:=A_ hy133
           clear hy133
           have c45:=cp_ H
           replace H:=ca_ H
           have LMc45:=A_ c45
           clear c45
           obtain ⟨y134,hy134⟩:∃ y_:List Int,y_ = (x6_3 ++ [rd y128 x58_3]):=⟨_,rfl⟩
           replace H:(Z13.l1 k3 l0 l1 y133 y134 x7_2 y128 (y128.length:Int) (wrap64 (x58_3 + 1))) = some r:=by first | (rw [hy134];exact H) | exact H
           have Ny134:=A_ hy134
           clear hy134
           have H':=A_ H
           clear H
           have p131:0≤(x58_3:Int):=oB_ qe_
           have q131:x58_3 < (y128.length:Int):=oB_ qe_
           obtain ⟨ad131,e131,hx131_0⟩:=Kd.at_int (Kd.R_reads' HO_56.out).2.2 x58_3 p131 q131
           cases e131
           replace p131:=eq_true p131
           replace q131:=eq_true q131
           have p132:0≤((rd y128 x58_3):Int):=oB_ qe_
           have q132:(rd y128 x58_3) < (x5_3.length:Int):=oB_ qe_
           obtain ⟨ad132,e132,hx132_0⟩:=Kd.at_bool (Kd.R_reads' HO_5.out).2.2 (rd y128 x58_3) p132 q132
           (try rw [← Nbq42.out] at hx132_0)
           obtain rfl:(⟨go20,0,none⟩:Addr) = ad132:=(by injection e132)
           (first | simp only [add_plain] at hx132_0 | simp only [add_at] at hx132_0 | simp only [Addr.add,Nat.zero_add] at hx132_0 | skip)
           replace p132:=eq_true p132
           replace q132:=eq_true q132
           have p44:0≤((rd y128 x58_3):Int):=oB_ qe_
           have q44:((rd y128 x58_3):Int) < ((x5_3.length:Int):Int):=oB_ qe_
           obtain ⟨hx44_0,hf44_0⟩:=Kd.R_celln false HO_5.out ((rd y128 x58_3):Int) p44 q44
           replace p44:=eq_true p44
           replace q44:=eq_true q44
           have HP46:=Kd.R_putg HO_5.out ((rd y128 x58_3):Int) true
           go_wp2_with (first | ((with_reducible refine gate_store (t:=4) (p:=69) rfl ?_);refine store_event (t:=4) (p:=69) (v:=?vo_w47) (w1:=(wr.setCell ⟨go20,((rd y128 x58_3):Int).toNat,none⟩ (.bool true))) ?hg ?ho ?hn ?hr ?_;(case ho=>rfl);(case hg=>rfl);(case hn=>rfl);(case hr=>first | (go_simp;done) | (go_simp;rfl));intro w47 hw;have hg:wr.grownBy w47 (some go20):=(by rw [hw];exact HP46.2);have hp_:Kd.R Kd.bool 4 w47 w.heap.size (fun _=>True) (.slice (some ⟨go20,0,none⟩) x5_3.length co20) y133:=(by rw [hw,Ny133.out];exact HP46.1);clear HP46;replace HO_6:=A_ (Kd.R_over' (v:=(.slice (some ⟨go20,0,none⟩) x5_3.length co20)) (rr_ HO_6) (Kd.R_typed HO_5.out) (by decide) hg);replace HO_56:=A_ (Kd.R_over' (v:=(.slice (some ⟨go20,0,none⟩) x5_3.length co20)) (rr_ HO_56) (Kd.R_typed HO_5.out) (by decide) hg);replace HO_5:=A_ (hp_);replace HB:=A_ ((by rw [hw];exact bD_ (HB.out) GB20.out:Below w.heap.size w w47));clear hg hw hp_) | ((with_reducible refine gate_builtin (b:=.append) (xs:=#[.tmp 70,.tmp 72]) rfl ?_);(try (refine gate_guard (by rfl) ?_;dsimp only));at_builtin;refine Kd.R_append (Kd.int .i64) (w0:=w) w.heap.size rfl (.tmp 70) (.tmp 72) 23 3 (.int .i64 0) 8 rfl Try.underlying23 info3 rfl (by decide) (by omega) u6 x6_3 (rd y128 x58_3) [.int .i64 (rd y128 x58_3)] (fun k_=>some k_≠(.slice (some ad131) y128.length co36:Value).ownBlock) (fun _=>False) rfl rfl ?aP (fun _ hk=>hk.elim) ?aF ?aO ?aB ?aS ?aL ?_;(case aP=>exact rfl);(case aB=>exact hB_);(case aF=>exact (fun k_ hk=>Kd.fresh' (Kd.R_lt (rr_ HO_56)) k_ hk));(case aO=>exact (rr_ HO_6));(case aS=>exact (bF_ hB_));(case aL=>have:=LMc45.out;omega);intro v135 w48 ho hb hg hat;rw [← Ny134.out] at ho;replace HO_5:=A_ (Kd.R_over' (rr_ HO_5) (Kd.R_typed (rr_ HO_6)) (by decide) hg);replace HO_56:=A_ (Kd.R_after (ok:=(fun _=>True)) (rw_ (Kd.R_mono HO_56.out (fun _ hk=>⟨trivial,hk⟩))) hg hat);replace HB:=A_ hb;have HO136:=A_ ho;clear HO_6;clear ho hb hg hat))
           (try simp only [← hl5_3])
           go_roundg k3
           case measure=>have:=HJ2.out;have:=HK2.out;have:=HK3.out;omega
           case rel=>exact ⟨(y133),(y134),(wrap64 (x58_3 + 1)),qc_,H',⟨by have:=HJ2.out;have:=HK2.out;have:=HK3.out;omega⟩,⟨by (try simp only [hl5_2]);(try simp only [hl5_3]);(with_reducible repeat (first | apply rA_ | apply rB_ | apply rC_));exact HO_5.out⟩,⟨by (try simp only [hl5_2]);(try simp only [hl5_3]);(with_reducible repeat (first | apply rA_ | apply rB_ | apply rC_));exact HO136.out⟩,⟨by (try simp only [hl5_2]);(try simp only [hl5_3]);(with_reducible repeat (first | apply rA_ | apply rB_ | apply rC_));exact Kd.R_mono HO_56.out (fun _ hk=>hk.2)⟩,⟨hB_⟩⟩
         ·rw [if_neg c37] at H
          have c37b0:=oD_ c37
          clear c37
          have H':=A_ H
          clear H
          go_wp2
          (try simp only [← hl5_2,← hl5_3])
          go_roundg k3
          case measure=>have:=HJ2.out;have:=HK2.out;have:=HK3.out;omega
          case rel=>exact ⟨(x5_3),(x6_3),(wrap64 (x7_2 + 1)),qc_,H',⟨by have:=HJ2.out;have:=HK2.out;have:=HK3.out;omega⟩,⟨by (try simp only [hl5_2]);(try simp only [hl5_3]);(with_reducible repeat (first | apply rA_ | apply rB_ | apply rC_));exact HO_5.out⟩,⟨by (try simp only [hl5_2]);(try simp only [hl5_3]);(with_reducible repeat (first | apply rA_ | apply rB_ | apply rC_));exact Kd.R_mono HO_6.out (fun _ hk=>trivial)⟩,⟨hB_⟩⟩
      ·rw [if_neg c27] at H
       have c27b0:=oD_ c27
       clear c27
       obtain rfl:=Option.some.inj H
       obtain ⟨Ao49,co49,eo49⟩:=Kd.R_slice HO_6.out
       subst eo49
       go_wp2
       go_ret
       exact ⟨qb_,hB_⟩
end Go.Proofs.Ytoijcallajegfaa.A
end
section
namespace Go.Proofs.Ytoijcallajegfaa.A
open Go.RowKit Go.Proofs.YtoijcallajegfaaW.PrintWords Go.Proofs.YtoijcallajegfaaW.PrintLast Go.Proofs.YtoijcallajegfaaW.PrintMore
attribute [local go_sem] max2_int min2_int max_two min_two max_three min_three max_four min_four
set_option linter.unusedVariables false
set_option linter.unusedSimpArgs false
def Z35.f (k:Nat) (l0_0:List Int) (l0_1:List Int):Option (Bool):=(Z13.f k l0_0 l0_1).bind fun t138=>(some t138)
theorem Z35.mono:∀ a0 a1 k,LeO (Z35.f k a0 a1) (Z35.f (k + 1) a0 a1):=by
 intro a0 a1 k
 unfold Z35.f
 repeat' first|exact Z13.mono _ _ _|exact lo_|refine LeO.ite ?_ ?_|refine LeO.bind ?_ (fun _=>?_)
set_option maxHeartbeats 8000000 in
set_option maxRecDepth 100000 in
theorem Z35.calls (k:Nat) (A0_0:Option Addr) (c0_0:Nat) (l0_0:List Int) (A0_1:Option Addr) (c0_1:Nat) (l0_1:List Int) (r:Bool) (w:World) (hr0_0:Kd.C (Kd.int .i64) w A0_0 l0_0.length l0_0) (hc0_0:l0_0.length≤c0_0) (hr0_1:Kd.C (Kd.int .i64) w A0_1 l0_1.length l0_1) (hc0_1:l0_1.length≤c0_1) (h:Z35.f k l0_0 l0_1 = some r) :
  Calls Try.prog 19 #[.agg #[.slice A0_0 l0_0.length c0_0,.slice A0_1 l0_1.length c0_1]] w fun e w'=>e = .returned (.bool r)∧Below w.heap.size w w':=by
 have hu33:=Try.underlying33
 have HR0_0:=A_ hr0_0
 have HC0_0:=A_ hc0_0
 clear hr0_0 hc0_0
 have HR0_1:=A_ hr0_1
 have HC0_1:=A_ hc0_1
 clear hr0_1 hc0_1
 have HB:=A_ (Below.refl w.heap.size w)
 have H:=h
 unfold Z35.f at H
 clear h
 obtain ⟨t138,A2,H⟩:=bi_ H
 obtain rfl:=Option.some.inj H
 go_enter Try.func19,Try.ntmps19
 go_wp2_with (first | ((with_reducible refine gB_ (N:=1) rfl ?_);refine bx_ 1 #[.slice A0_0 l0_0.length c0_0,.slice A0_1 l0_1.length c0_1] 33 ?_;intro gb137 hg w3 hbox hb;have BK137:=A_ hbox;have GW137:=gw_ w hg;have GE137:=GW137;replace HB:=b1_ hb;clear hb hbox hg;obtain ⟨hcz4_0,hcz4_1,hfz4_0,hfz4_1⟩:=c2_ BK137) | ((with_reducible refine gA_ (f:=61) rfl ?_);refine gL_ (some 7) Try.func61 #[.slice A0_0 l0_0.length c0_0,.slice A0_1 l0_1.length c0_1] rfl qa_ ?_;(with_reducible refine (Z13.calls k _ _ l0_0 _ _ l0_1 t138 _ (cb_ HR0_0) HC0_0.out (cb_ HR0_1) HC0_1.out A2.out).mono ?_);rintro e w5 ⟨rfl,hb⟩;refine ⟨_,rfl,?_⟩;replace BK137:=bb_ BK137 hb;replace HB:=b1_ hb;clear hb))
 go_ret
 exact ⟨qb_,hB_⟩
def Z12.f (k:Nat) (l0_0:List Int) (l0_1:List Int):Option (Int):=(Z35.f k l0_0 l0_1).bind fun t140=>(if t140 = true then (some (l0_0.length:Int)) else (some 0))
theorem Z12.mono:∀ a0 a1 k,LeO (Z12.f k a0 a1) (Z12.f (k + 1) a0 a1):=by
 intro a0 a1 k
 unfold Z12.f
 repeat' first|exact Z35.mono _ _ _|exact lo_|refine LeO.ite ?_ ?_|refine LeO.bind ?_ (fun _=>?_)
set_option maxHeartbeats 8000000 in
set_option maxRecDepth 100000 in
theorem Z12.calls (k:Nat) (A0_0:Option Addr) (c0_0:Nat) (l0_0:List Int) (A0_1:Option Addr) (c0_1:Nat) (l0_1:List Int) (r:Int) (w:World) (hr0_0:Kd.C (Kd.int .i64) w A0_0 l0_0.length l0_0) (hc0_0:l0_0.length≤c0_0) (hr0_1:Kd.C (Kd.int .i64) w A0_1 l0_1.length l0_1) (hc0_1:l0_1.length≤c0_1) (h:Z12.f k l0_0 l0_1 = some r) :
  Calls Try.prog 23 #[.agg #[.slice A0_0 l0_0.length c0_0,.slice A0_1 l0_1.length c0_1]] w fun e w'=>e = .returned (.int .i64 r)∧Below w.heap.size w w':=by
 have hu33:=Try.underlying33
 have HR0_0:=A_ hr0_0
 have HC0_0:=A_ hc0_0
 clear hr0_0 hc0_0
 have HR0_1:=A_ hr0_1
 have HC0_1:=A_ hc0_1
 clear hr0_1 hc0_1
 have HB:=A_ (Below.refl w.heap.size w)
 have H:=h
 unfold Z12.f at H
 clear h
 obtain ⟨t140,A2,H⟩:=bi_ H
 by_cases c3:t140 = true
 ·subst c3
  rw [if_pos rfl] at H
  obtain rfl:=Option.some.inj H
  go_enter Try.func23,Try.ntmps23
  go_wp2_with (first | ((with_reducible refine gB_ (N:=1) rfl ?_);refine bx_ 1 #[.slice A0_0 l0_0.length c0_0,.slice A0_1 l0_1.length c0_1] 33 ?_;intro gb139 hg w4 hbox hb;have BK139:=A_ hbox;have GW139:=gw_ w hg;have GE139:=GW139;replace HB:=b1_ hb;clear hb hbox hg;obtain ⟨hcz5_0,hcz5_1,hfz5_0,hfz5_1⟩:=c2_ BK139) | ((with_reducible refine gA_ (f:=19) rfl ?_);refine gL_ (some 4) Try.func19 #[.agg #[.slice A0_0 l0_0.length c0_0,.slice A0_1 l0_1.length c0_1]] rfl qa_ ?_;(with_reducible refine (Z35.calls k _ _ l0_0 _ _ l0_1 true _ (cb_ HR0_0) HC0_0.out (cb_ HR0_1) HC0_1.out A2.out).mono ?_);rintro e w6 ⟨rfl,hb⟩;refine ⟨_,rfl,?_⟩;replace BK139:=bb_ BK139 hb;replace HB:=b1_ hb;clear hb;obtain ⟨hcz7_0,hcz7_1,hfz7_0,hfz7_1⟩:=c2_ BK139))
  go_ret
  exact ⟨qb_,hB_⟩
 ·replace c3:=Bool.eq_false_iff.mpr c3
  subst c3
  have H1:(some 0) = some r:=by rw [if_neg (show ¬ (false = true) by decide)] at H;exact H
  clear H
  have H:=H1
  clear H1
  obtain rfl:=Option.some.inj H
  go_enter Try.func23,Try.ntmps23
  go_wp2_with (first | ((with_reducible refine gB_ (N:=1) rfl ?_);refine bx_ 1 #[.slice A0_0 l0_0.length c0_0,.slice A0_1 l0_1.length c0_1] 33 ?_;intro gb139 hg w8 hbox hb;have BK139:=A_ hbox;have GW139:=gw_ w hg;have GE139:=GW139;replace HB:=b1_ hb;clear hb hbox hg;obtain ⟨hcz9_0,hcz9_1,hfz9_0,hfz9_1⟩:=c2_ BK139) | ((with_reducible refine gA_ (f:=19) rfl ?_);refine gL_ (some 4) Try.func19 #[.agg #[.slice A0_0 l0_0.length c0_0,.slice A0_1 l0_1.length c0_1]] rfl qa_ ?_;(with_reducible refine (Z35.calls k _ _ l0_0 _ _ l0_1 false _ (cb_ HR0_0) HC0_0.out (cb_ HR0_1) HC0_1.out A2.out).mono ?_);rintro e w10 ⟨rfl,hb⟩;refine ⟨_,rfl,?_⟩;replace BK139:=bb_ BK139 hb;replace HB:=b1_ hb;clear hb))
  go_ret
  exact ⟨qb_,hB_⟩
end Go.Proofs.Ytoijcallajegfaa.A
end
section
namespace Go.Proofs.Ytoijcallajegfaa.A
open Go.RowKit Go.Proofs.YtoijcallajegfaaW.PrintWords Go.Proofs.YtoijcallajegfaaW.PrintLast Go.Proofs.YtoijcallajegfaaW.PrintMore
attribute [local go_sem] max2_int min2_int max_two min_two max_three min_three max_four min_four
set_option linter.unusedVariables false
set_option linter.unusedSimpArgs false
mutual
def Z28.j0:Nat→List Int→List Int→Bool→Option (List Int)
 | 0,_,_,_=>none
 | k + 1,x0,x1,x22=>if x22 = true then (some ([]:List Int)) else (if 0≤(x0.length:Int) then (if ((x0.length:Int):Int).toNat≤35184372088832 then (Z28.l0 k x1 (List.replicate ((x0.length:Int):Int).toNat 0) x0 (x0.length:Int) 0) else (none)) else (none))
def Z28.l0:Nat→List Int→List Int→List Int→Int→Int→Option (List Int)
 | 0,_,_,_,_,_=>none
 | k + 1,x1,x5,x26,x27,x28=>if x28 < x27 then (if 0≤x28 then (if x28 < (x26.length:Int) then (if x28 < (x1.length:Int) then (if 0≤(rd x26 x28) then (if (rd x26 x28) < (x1.length:Int) then (if 0≤(rd x1 x28) then (if (rd x1 x28) < (x5.length:Int) then (Z28.l0 k x1 (x5.set ((rd x1 x28):Int).toNat (rd x1 (rd x26 x28))) x26 x27 (wrap64 (x28 + 1))) else (none)) else (none)) else (none)) else (none)) else (none)) else (none)) else (none)) else (some x5)
end
def Z28.f (k:Nat) (l0:List Int) (l1:List Int):Option (List Int):=(Z65.f k l0).bind fun t141=>(if t141 = true then ((Z65.f k l1).bind fun t142=>(if t142 = true then (Z28.j0 k l0 l1 ((l0.length:Int) != (l1.length:Int))) else (Z28.j0 k l0 l1 true))) else (Z28.j0 k l0 l1 true))
theorem Z28.mono_l:∀ k,(∀ y0 y1 y2,LeO (Z28.j0 k y0 y1 y2) (Z28.j0 (k + 1) y0 y1 y2))∧(∀ y0 y1 y2 y3 y4,LeO (Z28.l0 k y0 y1 y2 y3 y4) (Z28.l0 (k + 1) y0 y1 y2 y3 y4))
 | 0=>⟨fun _ _ _ r h=>by simp [Z28.j0] at h,fun _ _ _ _ _ r h=>by simp [Z28.l0] at h⟩
 | k + 1=>by
  obtain ⟨ih0,ih1⟩:=Z28.mono_l k
  refine ⟨?_,?_⟩
  ·intro y0 y1 y2
   unfold Z28.j0
   repeat' first|exact ih0 _ _ _|exact ih1 _ _ _ _ _|exact Z65.mono _ _|exact lo_|refine LeO.ite ?_ ?_|refine LeO.bind ?_ (fun _=>?_)
  ·intro y0 y1 y2 y3 y4
   unfold Z28.l0
   repeat' first|exact ih0 _ _ _|exact ih1 _ _ _ _ _|exact Z65.mono _ _|exact lo_|refine LeO.ite ?_ ?_|refine LeO.bind ?_ (fun _=>?_)
theorem Z28.mono:∀ a0 a1 k,LeO (Z28.f k a0 a1) (Z28.f (k + 1) a0 a1):=by
 intro a0 a1 k
 obtain ⟨ih0,ih1⟩:=Z28.mono_l k
 unfold Z28.f
 repeat' first|exact ih0 _ _ _|exact ih1 _ _ _ _ _|exact Z65.mono _ _|exact lo_|refine LeO.ite ?_ ?_|refine LeO.bind ?_ (fun _=>?_)
def Z28.T7:Bool × List (List Nat × List Nat):=(true,[([],[]),([],[]),([],[]),([1,2],[1,2]),([3],[3]),([],[]),([],[]),([5,6],[5,6]),([7],[7]),([0,4,0,1,2,3,4,5,6,7,8],[0,4]),([9,8,0,1,2,3,4,5,6,7,8],[8,9])])
def Z28.B7:List Nat:=[0,0,0,6,14,0,0,96,224,511,1023]
theorem Z28.tab7:rtab .any (opsOf Try.f150 7) = Z28.T7:=by kernel_rfl
theorem Z28.bits7:waitsOk Z28.T7.2 Z28.B7 = true:=by kernel_rfl
set_option maxHeartbeats 8000000 in
set_option maxRecDepth 100000 in
theorem Z28.calls (k:Nat) (A0:Option Addr) (c0:Nat) (l0:List Int) (A1:Option Addr) (c1:Nat) (l1:List Int) (r:List Int) (w:World) (hr0:Kd.C (Kd.int .i64) w A0 l0.length l0) (hc0:l0.length≤c0) (hr1:Kd.C (Kd.int .i64) w A1 l1.length l1) (hc1:l1.length≤c1) (h:Z28.f k l0 l1 = some r) :
  Calls Try.prog 150 #[.slice A0 l0.length c0,.slice A1 l1.length c1] w fun e w'=>∃ v0_:Value,e = .returned (v0_)∧Kd.R (Kd.int .i64) 3 w' w.heap.size (fun _=>True) v0_ r∧Below w.heap.size w w':=by
 have HR0:=A_ hr0
 have HC0:=A_ hc0
 clear hr0 hc0
 have HR1:=A_ hr1
 have HC1:=A_ hc1
 clear hr1 hc1
 have HB:=A_ (Below.refl w.heap.size w)
 have H:=h
 unfold Z28.f at H
 clear h
 have HC3:=A_ H
 clear H
 go_enter Try.func150,Try.ntmps150
 go_upto_region 1 with (fail)
 go_cut [22] (fun v22 wc=>∃ (kq:Nat) (x22_2:Bool),v22 = .bool x22_2∧Aside0 (Z28.j0 kq l0 l1 x22_2 = some r)∧Aside0 (kq≤k)∧Aside0 (Below w.heap.size w wc))
 case first =>
  have H:=HC3.out
  clear HC3
  obtain ⟨t141,A4,H⟩:=bi_ H
  by_cases c5:t141 = true
  ·subst c5
   rw [if_pos rfl] at H
   obtain ⟨t142,A6,H⟩:=bi_ H
   by_cases c7:t142 = true
   ·subst c7
    rw [if_pos rfl] at H
    have H':=A_ H
    clear H
    go_wp2_with (first | ((with_reducible refine gA_ (f:=109) rfl ?_);refine gL_ (some 9) Try.func109 #[.slice A0 l0.length c0] rfl qa_ ?_;(with_reducible refine (Z65.calls k _ _ l0 true _ (cb_ HR0) HC0.out A4.out).mono ?_);rintro e w8 ⟨rfl,hb⟩;refine ⟨_,rfl,?_⟩;replace HB:=b1_ hb;clear hb) | (go_at_call 109;(with_reducible refine (Z65.calls k _ _ l1 true _ (cb_ HR1) HC1.out A6.out).mono ?_);rintro e w9 ⟨rfl,hb⟩;replace HB:=b1_ hb;clear hb))
    go_meet
    case rel=>exact ⟨_,(((l0.length:Int) != (l1.length:Int))),qc_,H',⟨qd_⟩,⟨hB_⟩⟩
   ·replace c7:=Bool.eq_false_iff.mpr c7
    subst c7
    have H1:(Z28.j0 k l0 l1 true) = some r:=by rw [if_neg (show ¬ (false = true) by decide)] at H;exact H
    clear H
    have H:=H1
    clear H1
    have H':=A_ H
    clear H
    go_wp2_with (first | ((with_reducible refine gA_ (f:=109) rfl ?_);refine gL_ (some 9) Try.func109 #[.slice A0 l0.length c0] rfl qa_ ?_;(with_reducible refine (Z65.calls k _ _ l0 true _ (cb_ HR0) HC0.out A4.out).mono ?_);rintro e w10 ⟨rfl,hb⟩;refine ⟨_,rfl,?_⟩;replace HB:=b1_ hb;clear hb) | (go_at_call 109;(with_reducible refine (Z65.calls k _ _ l1 false _ (cb_ HR1) HC1.out A6.out).mono ?_);rintro e w11 ⟨rfl,hb⟩;replace HB:=b1_ hb;clear hb))
    go_meet
    case rel=>exact ⟨_,(true),qc_,H',⟨qd_⟩,⟨hB_⟩⟩
  ·replace c5:=Bool.eq_false_iff.mpr c5
   subst c5
   have H1:(Z28.j0 k l0 l1 true) = some r:=by rw [if_neg (show ¬ (false = true) by decide)] at H;exact H
   clear H
   have H:=H1
   clear H1
   have H':=A_ H
   clear H
   go_wp2_with (first | ((with_reducible refine gA_ (f:=109) rfl ?_);refine gL_ (some 9) Try.func109 #[.slice A0 l0.length c0] rfl qa_ ?_;(with_reducible refine (Z65.calls k _ _ l0 false _ (cb_ HR0) HC0.out A4.out).mono ?_);rintro e w12 ⟨rfl,hb⟩;refine ⟨_,rfl,?_⟩;replace HB:=b1_ hb;clear hb))
   go_meet
   case rel=>exact ⟨_,(true),qc_,H',⟨qd_⟩,⟨hB_⟩⟩
 case rest =>
  clear HC3
  obtain ⟨kq,x22_2,rfl,HA,HJ2,HB⟩:=hcut
  cases kq with
  | zero=>exact absurd HA.out (by simp [Z28.j0])
  | succ kj2 =>
   have H:=HA.out
   clear HA
   simp only [Z28.j0] at H
   by_cases c13:x22_2 = true
   ·subst c13
    rw [if_pos rfl] at H
    obtain rfl:=Option.some.inj H
    go_wp2
    go_ret
    exact ⟨_,qb_,by first | exact Kd.R_nil _ _ _ _ _ | exact Kd.N_nil _ _ _ _ _ | exact Kd.V_nil _ _ _ _ _ | exact Kd.Q_nil _ _ _ _ _ | exact Kd.S_nil _ _ _ _ _,hB_⟩
   ·replace c13:=Bool.eq_false_iff.mpr c13
    subst c13
    have H1:(if 0≤(l0.length:Int) then (if ((l0.length:Int):Int).toNat≤35184372088832 then (Z28.l0 kj2 l1 (List.replicate ((l0.length:Int):Int).toNat 0) l0 (l0.length:Int) 0) else (none)) else (none)) = some r:=by rw [if_neg (show ¬ (false = true) by decide)] at H;exact H
    clear H
    have H:=H1
    clear H1
    have c14:=cp_ H
    replace H:=ca_ H
    have c14b0:=eq_true c14
    have c14b1:=oC_ c14
    clear c14
    have c15:=cp_ H
    replace H:=ca_ H
    have c15b0:=eq_true c15
    have c15b1:=oC_ c15
    clear c15
    obtain ⟨y143,hy143⟩:∃ y_:List Int,y_ = (List.replicate ((l0.length:Int):Int).toNat 0):=⟨_,rfl⟩
    replace H:(Z28.l0 kj2 l1 y143 l0 (l0.length:Int) 0) = some r:=by first | (rw [hy143];exact H) | exact H
    have Ny143:=A_ hy143
    clear hy143
    have H':=A_ H
    clear H
    go_wp2_with (first | ((with_reducible refine gB_ (N:=25) rfl ?_);(try (refine gate_guard (by rfl) ?_;dsimp only));refine Kd.R_make (Kd.int .i64) _ 3 rfl (N:=25) rfl 23 _ _ rfl (l0.length:Int) rfl rfl Try.underlying23 (.int .i64 0) 8 info3 rfl (by decide) (by omega) 0 (ok:=fun _=>True) (okp:=fun _=>True) rfl (fun _ hk=>hk) trivial (oB_ qe_) (Nat.le_trans (Nat.mul_le_mul_right _ (oB_ qe_:(l0.length:Int).toNat≤35184372088832)) (by omega)) (Below.refl _ _) (nA_ _) ?_;intro v144 w16 ho17 hb hg_ hnew_;clear hg_ hnew_;(first | rw [← Ny143.out] at ho17 | (simp only [Int.reduceToNat] at ho17;rw [← Ny143.out] at ho17));have HO145:=rl_ w ho17;replace HB:=b1_ hb;clear hb ho17))
    go_loopg [28] kj2 (fun kq v28 w'=>∃ (x5_2:List Int) (x28_2:Int),v28 = .int .i64 x28_2∧Aside0 (Z28.l0 kq l1 x5_2 l0 (l0.length:Int) x28_2 = some r)∧Aside0 (kq≤kj2)∧Aside0 (Kd.R (Kd.int .i64) 3 w' w.heap.size (fun _=>True) v144 x5_2)∧Aside0 (Below w.heap.size w w'))
    case atStart=>exact ⟨(y143),(0),qc_,H',⟨nA_ _⟩,⟨(rr_ HO145)⟩,⟨hB_⟩⟩
    case round =>
     clear H'
     obtain ⟨x5_2,x28_2,rfl,HA,HK2,HO_5,HB⟩:=hrel
     cases gk with
     | zero=>exact absurd HA.out (by simp [Z28.l0])
     | succ k2 =>
      have H:=HA.out
      clear HA
      simp only [Z28.l0] at H
      by_cases c18:x28_2 < (l0.length:Int)
      ·rw [if_pos c18] at H
       have c18b0:=oC_ c18
       clear c18
       replace H:=cx_ H;obtain ⟨c19b0,H⟩:=H
       replace H:=cx_ H;obtain ⟨c20b0,H⟩:=H
       replace H:=cx_ H;obtain ⟨c21b0,H⟩:=H
       replace H:=cx_ H;obtain ⟨c22b0,H⟩:=H
       replace H:=cx_ H;obtain ⟨c23b0,H⟩:=H
       replace H:=cx_ H;obtain ⟨c24b0,H⟩:=H
       replace H:=cx_ H;obtain ⟨c25b0,H⟩:=H
       obtain ⟨y149,hy149⟩:∃ y_:List Int,y_ = (x5_2.set ((rd l1 x28_2):Int).toNat (rd l1 (rd l0 x28_2))):=⟨_,rfl⟩
       replace H:(Z28.l0 k2 l1 y149 l0 (l0.length:Int) (wrap64 (x28_2 + 1))) = some r:=by first | (rw [hy149];exact H) | exact H
       have Ny149:=A_ hy149
       clear hy149
       have H':=A_ H
       clear H
       have p146:0≤(x28_2:Int):=oB_ qe_
       have q146:x28_2 < (l0.length:Int):=oB_ qe_
       obtain ⟨ad146,e146,hx146_0⟩:=Kd.at_int HR0.out x28_2 p146 q146
       cases e146
       replace hx146_0:=(HB.out.cell (World.block_lt_of_cell? w _ hx146_0)).trans hx146_0
       replace p146:=eq_true p146
       replace q146:=eq_true q146
       try go_wp2
       replace HO_5:=A_ (rC_ HO_5.out)
       replace HB:=A_ (bC_ HB.out)
       have p147:0≤(x28_2:Int):=oB_ qe_
       have q147:x28_2 < (l1.length:Int):=oB_ qe_
       obtain ⟨ad147,e147,hx147_0⟩:=Kd.at_int HR1.out x28_2 p147 q147
       have hw147_0:=hx147_0
       cases e147
       replace hx147_0:=(HB.out.cell (World.block_lt_of_cell? w _ hx147_0)).trans hx147_0
       replace p147:=eq_true p147
       replace q147:=eq_true q147
       have p148:0≤((rd l0 x28_2):Int):=oB_ qe_
       have q148:(rd l0 x28_2) < (l1.length:Int):=oB_ qe_
       obtain ⟨ad148,e148,hx148_0⟩:=Kd.at_int HR1.out (rd l0 x28_2) p148 q148
       have hw148_0:=hx148_0
       obtain rfl:ad147 = ad148:=(by injection e148)
       replace hx148_0:=(HB.out.cell (World.block_lt_of_cell? w _ hx148_0)).trans hx148_0
       replace p148:=eq_true p148
       replace q148:=eq_true q148
       have p26:0≤((rd l1 x28_2):Int):=oB_ qe_
       have q26:((rd l1 x28_2):Int) < ((x5_2.length:Int):Int):=oB_ qe_
       obtain ⟨go26,co26,eo26,gb26,gl26,cl26,HG26⟩:=Kd.R_form HO_5.out (by omega)
       (first | cases eo26 | (injection eo26 with ea_ en_ ec_;(first | subst ea_ | (injection ea_ with ea_;subst ea_));subst ec_;clear en_))
       have GB26:=A_ gb26
       have GG26:=A_ HG26
       clear gb26 gl26 HG26
       obtain ⟨hx26_0,hf26_0⟩:=Kd.R_celln 0 HO_5.out ((rd l1 x28_2):Int) p26 q26
       replace p26:=eq_true p26
       replace q26:=eq_true q26
       have HP28:=Kd.R_putn HO_5.out ((rd l1 x28_2):Int) (rd l1 (rd l0 x28_2))
       rw [← Ny149.out] at HP28
       have HQ28:=A_ HP28
       clear HP28
       refine start_ (n:=11) (S:=fun w'=>w'.cell? (ad147.add (x28_2).toNat) = some (.int .i64 (rd l1 x28_2))∧w'.cell? (ad147.add ((rd l0 x28_2)).toNat) = some (.int .i64 (rd l1 (rd l0 x28_2)))) (ds:=[10]) (bl_ 11 0) (by kernel_rfl) rfl (by kernel_rfl) ⟨((HB.out.cell (World.block_lt_of_cell? w _ hw147_0)).trans hw147_0),((HB.out.cell (World.block_lt_of_cell? w _ hw148_0)).trans hw148_0)⟩ (fun hHeld=>?_);refine with_tabW Z28.tab7 Z28.bits7 (fun HT_ HW_=>?_)
       generalize wr.drew = w27 at HO_5 HB GG26 HQ28 hf26_0 hx147_0 hx148_0 hx26_0 hHeld ⊢
       refine pu_ 0 (some 33) (bl_ 11 1) HT_ ?_
       refine pu_ 1 (some 34) (bl_ 11 3) HT_ ?_
       refine pu_ 2 (some 35) (bl_ 11 7) HT_ ?_
       refine pu_ 3 (some 36) (bl_ 11 15) HT_ ?_
       refine pu_ 5 (some 38) (bl_ 11 47) HT_ ?_
       refine pu_ 6 (some 39) (bl_ 11 111) HT_ ?_
       refine pu_ 7 (some 40) (bl_ 11 239) HT_ ?_
       refine ta_ 4 (some 37) (bl_ 11 255) HT_ HW_ hHeld ?_
       refine ta_ 8 (some 41) (bl_ 11 511) HT_ HW_ hHeld ?_
       refine pu_ 9 (some 42) (bl_ 11 1023) HT_ ?_
       refine last_ (i:=10) (N:=none) (bl_ 11 2047) rfl rfl (one_of HT_.out (by kernel_rfl)) (by decide) (fun K hK=>?_)
       refine skip_ (w1:=?_) (by rfl) rfl ?_ ?_
       rotate_left
       ·go_simp
        rfl
       refine hK.out _ _ ?_
       clear hK K
       refine done_ (done_of HT_.out (by kernel_rfl)) ?_
       try go_wp2
       go_roundg k2
       case measure=>have:=HJ2.out;have:=HK2.out;omega
       case rel=>exact ⟨(y149),(wrap64 (x28_2 + 1)),qc_,H',⟨by have:=HJ2.out;have:=HK2.out;omega⟩,⟨(rr_ HQ28)⟩,⟨by repeat (first | (with_reducible first | exact HB.out | apply bA_ | apply bB_ | apply bC_ | refine bD_ ?_ GB26.out) | exact HB.out)⟩⟩
      ·rw [if_neg c18] at H
       have c18b0:=oD_ c18
       clear c18
       obtain rfl:=Option.some.inj H
       go_wp2
       go_ret
       exact ⟨_,qb_,(rr_ HO_5),hB_⟩
end Go.Proofs.Ytoijcallajegfaa.A
end
section
namespace Go.Proofs.Ytoijcallajegfaa.A
open Go.RowKit Go.Proofs.YtoijcallajegfaaW.PrintWords Go.Proofs.YtoijcallajegfaaW.PrintLast Go.Proofs.YtoijcallajegfaaW.PrintMore
attribute [local go_sem] max2_int min2_int max_two min_two max_three min_three max_four min_four
set_option linter.unusedVariables false
set_option linter.unusedSimpArgs false
def Z7.j0:Nat→List Int→Bool→List Int→List Int→Option (List Int × List Int × Bool)
 | 0,_,_,_,_=>none
 | k + 1,x1,x21,x151000,x151001=>if x21 = true then (some (([]:List Int),([]:List Int),false)) else ((Z28.f k x151000 x1).bind fun t154=>((Z28.f k x151001 x1).bind fun t157=>(some (t154,t157,true))))
def Z7.f (k:Nat) (l0_0:List Int) (l0_1:List Int) (l1:List Int):Option (List Int × List Int × Bool):=(Z35.f k l0_0 l0_1).bind fun t152=>(if t152 = true then ((Z65.f k l1).bind fun t153=>(if t153 = true then (Z7.j0 k l1 ((l1.length:Int) != (l0_0.length:Int)) l0_0 l0_1) else (Z7.j0 k l1 true l0_0 l0_1))) else (Z7.j0 k l1 true l0_0 l0_1))
theorem Z7.mono_l:∀ k,(∀ y0 y1 y2 y3,LeO (Z7.j0 k y0 y1 y2 y3) (Z7.j0 (k + 1) y0 y1 y2 y3))
 | 0=>fun _ _ _ _ r h=>by simp [Z7.j0] at h
 | k + 1=>by
  have ih0:=Z7.mono_l k
  ·intro y0 y1 y2 y3
   unfold Z7.j0
   repeat' first|exact ih0 _ _ _ _|exact Z65.mono _ _|exact Z28.mono _ _ _|exact Z35.mono _ _ _|exact lo_|refine LeO.ite ?_ ?_|refine LeO.bind ?_ (fun _=>?_)
theorem Z7.mono:∀ a0 a1 a2 k,LeO (Z7.f k a0 a1 a2) (Z7.f (k + 1) a0 a1 a2):=by
 intro a0 a1 a2 k
 have ih0:=Z7.mono_l k
 unfold Z7.f
 repeat' first|exact ih0 _ _ _ _|exact Z65.mono _ _|exact Z28.mono _ _ _|exact Z35.mono _ _ _|exact lo_|refine LeO.ite ?_ ?_|refine LeO.bind ?_ (fun _=>?_)
def Z7.T3:Bool × List (List Nat × List Nat):=(true,[([],[]),([0],[0]),([],[]),([1,2],[1,2]),([],[]),([4],[4]),([],[]),([5,6,3],[5,6]),([3,7],[3,7]),([8,7,0,1,2,3,4,5,6,7,8],[8]),([9,0,1,2,3,4,5,6,7,8,9],[])])
def Z7.B3:List Nat:=[0,1,0,7,0,16,0,127,255,511,1023]
theorem Z7.tab3:rtab .any (opsOf Try.f107 3) = Z7.T3:=by kernel_rfl
theorem Z7.bits3:waitsOk Z7.T3.2 Z7.B3 = true:=by kernel_rfl
set_option maxHeartbeats 8000000 in
set_option maxRecDepth 100000 in
theorem Z7.calls (k:Nat) (A0_0:Option Addr) (c0_0:Nat) (l0_0:List Int) (A0_1:Option Addr) (c0_1:Nat) (l0_1:List Int) (A1:Option Addr) (c1:Nat) (l1:List Int) (r1:List Int) (r2:List Int) (r3:Bool) (w:World) (hr0_0:Kd.C (Kd.int .i64) w A0_0 l0_0.length l0_0) (hc0_0:l0_0.length≤c0_0) (hr0_1:Kd.C (Kd.int .i64) w A0_1 l0_1.length l0_1) (hc0_1:l0_1.length≤c0_1) (hr1:Kd.C (Kd.int .i64) w A1 l1.length l1) (hc1:l1.length≤c1) (h:Z7.f k l0_0 l0_1 l1 = some (r1,r2,r3)) :
  Calls Try.prog 107 #[.agg #[.slice A0_0 l0_0.length c0_0,.slice A0_1 l0_1.length c0_1],.slice A1 l1.length c1] w fun e w'=>∃ v0_ v1_:Value,e = .returned (.tuple #[.agg #[v0_,v1_],.bool r3])∧Kd.R (Kd.int .i64) 3 w' w.heap.size (fun k_=>some k_≠(v1_:Value).ownBlock) v0_ r1∧Kd.R (Kd.int .i64) 3 w' w.heap.size (fun k_=>some k_≠(v0_:Value).ownBlock) v1_ r2∧Below w.heap.size w w':=by
 have hu33:=Try.underlying33
 have HR0_0:=A_ hr0_0
 have HC0_0:=A_ hc0_0
 clear hr0_0 hc0_0
 have HR0_1:=A_ hr0_1
 have HC0_1:=A_ hc0_1
 clear hr0_1 hc0_1
 have HR1:=A_ hr1
 have HC1:=A_ hc1
 clear hr1 hc1
 have HB:=A_ (Below.refl w.heap.size w)
 have H:=h
 unfold Z7.f at H
 clear h
 have HC3:=A_ H
 clear H
 go_enter Try.func107,Try.ntmps107
 go_upto_region 1 with (first | ((with_reducible refine gB_ (N:=2) rfl ?_);(try (refine gate_guard (by rfl) ?_;dsimp only));refine bx_ 2 #[.slice A0_0 l0_0.length c0_0,.slice A0_1 l0_1.length c0_1] 33 ?_;intro gb150 hg w4 hbox hb;have BK150:=A_ hbox;have GW150:=gw_ w hg;have GE150:=GW150;replace HB:=b1_ hb;clear hb hbox hg) | ((with_reducible refine gB_ (N:=4) rfl ?_);(try (refine gate_guard (by rfl) ?_;dsimp only));refine bx_ 4 #[.slice none 0 0,.slice none 0 0] 33 ?_;intro gb151 hg w5 hbox hb;have BK151:=A_ hbox;have GW151:=gw_ w hg;have GE151:=GW151;replace HB:=b1_ hb;have NB150_151:=gN_ BK150 hg;have NB151_150:=gP_ BK150 hg;replace BK150:=bb_ BK150 hb;clear hb hbox hg))
 (try simp only [Act.put,sA_,sB_,sC_])
 go_cut [21] (fun v21 wc=>∃ (kq:Nat) (x21_2:Bool),v21 = .bool x21_2∧Aside0 (Z7.j0 kq l1 x21_2 l0_0 l0_1 = some (r1,r2,r3))∧Aside0 (kq≤k)∧Aside0 (wc.heap[gb150]? = some (.cells #[(.slice A0_0 l0_0.length c0_0),(.slice A0_1 l0_1.length c0_1)] 33 (0,0)))∧Aside0 (wc.heap[gb151]? = some (.cells #[(.slice none 0 0),(.slice none 0 0)] 33 (0,0)))∧Aside0 (Below w.heap.size w wc))
 case first =>
  have H:=HC3.out
  clear HC3
  obtain ⟨t152,A6,H⟩:=bi_ H
  by_cases c7:t152 = true
  ·subst c7
   rw [if_pos rfl] at H
   obtain ⟨t153,A8,H⟩:=bi_ H
   by_cases c9:t153 = true
   ·subst c9
    rw [if_pos rfl] at H
    have H':=A_ H
    clear H
    have hnb10:=NB150_151.out
    have hnc10:=NB151_150.out
    obtain ⟨hcz11_0,hcz11_1,hfz11_0,hfz11_1⟩:=c2_ BK150
    go_wp2_with (first | ((with_reducible refine gA_ (f:=19) rfl ?_);refine gL_ (some 7) Try.func19 #[.agg #[.slice A0_0 l0_0.length c0_0,.slice A0_1 l0_1.length c0_1]] rfl qa_ ?_;(with_reducible refine (Z35.calls k _ _ l0_0 _ _ l0_1 true _ (cb_ HR0_0) HC0_0.out (cb_ HR0_1) HC0_1.out A6.out).mono ?_);rintro e w12 ⟨rfl,hb⟩;refine ⟨_,rfl,?_⟩;replace BK150:=bb_ BK150 hb;replace BK151:=bb_ BK151 hb;replace HB:=b1_ hb;clear hb) | (go_at_call 109;(with_reducible refine (Z65.calls k _ _ l1 true _ (cb_ HR1) HC1.out A8.out).mono ?_);rintro e w13 ⟨rfl,hb⟩;replace BK150:=bb_ BK150 hb;replace BK151:=bb_ BK151 hb;replace HB:=b1_ hb;clear hb;obtain ⟨hcz14_0,hcz14_1,hfz14_0,hfz14_1⟩:=c2_ BK150))
    go_meet
    case rel=>exact ⟨_,(((l1.length:Int) != (l0_0.length:Int))),qc_,H',⟨qd_⟩,⟨(kk_ BK150)⟩,⟨(kk_ BK151)⟩,⟨hB_⟩⟩
   ·replace c9:=Bool.eq_false_iff.mpr c9
    subst c9
    have H1:(Z7.j0 k l1 true l0_0 l0_1) = some (r1,r2,r3):=by rw [if_neg (show ¬ (false = true) by decide)] at H;exact H
    clear H
    have H:=H1
    clear H1
    have H':=A_ H
    clear H
    have hnb15:=NB150_151.out
    have hnc15:=NB151_150.out
    obtain ⟨hcz16_0,hcz16_1,hfz16_0,hfz16_1⟩:=c2_ BK150
    go_wp2_with (first | ((with_reducible refine gA_ (f:=19) rfl ?_);refine gL_ (some 7) Try.func19 #[.agg #[.slice A0_0 l0_0.length c0_0,.slice A0_1 l0_1.length c0_1]] rfl qa_ ?_;(with_reducible refine (Z35.calls k _ _ l0_0 _ _ l0_1 true _ (cb_ HR0_0) HC0_0.out (cb_ HR0_1) HC0_1.out A6.out).mono ?_);rintro e w17 ⟨rfl,hb⟩;refine ⟨_,rfl,?_⟩;replace BK150:=bb_ BK150 hb;replace BK151:=bb_ BK151 hb;replace HB:=b1_ hb;clear hb) | (go_at_call 109;(with_reducible refine (Z65.calls k _ _ l1 false _ (cb_ HR1) HC1.out A8.out).mono ?_);rintro e w18 ⟨rfl,hb⟩;replace BK150:=bb_ BK150 hb;replace BK151:=bb_ BK151 hb;replace HB:=b1_ hb;clear hb))
    go_meet
    case rel=>exact ⟨_,(true),qc_,H',⟨qd_⟩,⟨(kk_ BK150)⟩,⟨(kk_ BK151)⟩,⟨hB_⟩⟩
  ·replace c7:=Bool.eq_false_iff.mpr c7
   subst c7
   have H1:(Z7.j0 k l1 true l0_0 l0_1) = some (r1,r2,r3):=by rw [if_neg (show ¬ (false = true) by decide)] at H;exact H
   clear H
   have H:=H1
   clear H1
   have H':=A_ H
   clear H
   have hnb19:=NB150_151.out
   have hnc19:=NB151_150.out
   obtain ⟨hcz20_0,hcz20_1,hfz20_0,hfz20_1⟩:=c2_ BK150
   go_wp2_with (first | ((with_reducible refine gA_ (f:=19) rfl ?_);refine gL_ (some 7) Try.func19 #[.agg #[.slice A0_0 l0_0.length c0_0,.slice A0_1 l0_1.length c0_1]] rfl qa_ ?_;(with_reducible refine (Z35.calls k _ _ l0_0 _ _ l0_1 false _ (cb_ HR0_0) HC0_0.out (cb_ HR0_1) HC0_1.out A6.out).mono ?_);rintro e w21 ⟨rfl,hb⟩;refine ⟨_,rfl,?_⟩;replace BK150:=bb_ BK150 hb;replace BK151:=bb_ BK151 hb;replace HB:=b1_ hb;clear hb))
   go_meet
   case rel=>exact ⟨_,(true),qc_,H',⟨qd_⟩,⟨(kk_ BK150)⟩,⟨(kk_ BK151)⟩,⟨hB_⟩⟩
 case rest =>
  clear HC3
  obtain ⟨kq,x21_2,rfl,HA,HJ2,BK150,BK151,HB⟩:=hcut
  cases kq with
  | zero=>exact absurd HA.out (by simp [Z7.j0])
  | succ kj2 =>
   have H:=HA.out
   clear HA
   simp only [Z7.j0] at H
   by_cases c22:x21_2 = true
   ·subst c22
    rw [if_pos rfl] at H
    simp only [Option.some.injEq,Prod.mk.injEq] at H
    obtain ⟨rfl,rfl,rfl⟩:=H
    have hnb23:=NB151_150.out
    have hnc23:=NB150_151.out
    obtain ⟨hcz24_0,hcz24_1,hfz24_0,hfz24_1⟩:=c2_ BK151
    go_wp2
    refine bodyPost_ret (results_ct rfl _ _ gb151 33 #[.slice none 0 0,.slice none 0 0] (0,0) _ rfl qp_ Try.underlying33 rfl (by kernel_rfl)) rfl ?_
    exact ⟨_,_,qb_,by first | exact Kd.R_nil _ _ _ _ _ | exact Kd.N_nil _ _ _ _ _ | exact Kd.V_nil _ _ _ _ _ | exact Kd.Q_nil _ _ _ _ _ | exact Kd.S_nil _ _ _ _ _,by first | exact Kd.R_nil _ _ _ _ _ | exact Kd.N_nil _ _ _ _ _ | exact Kd.V_nil _ _ _ _ _ | exact Kd.Q_nil _ _ _ _ _ | exact Kd.S_nil _ _ _ _ _,hB_⟩
   ·replace c22:=Bool.eq_false_iff.mpr c22
    subst c22
    have H1:((Z28.f kj2 l0_0 l1).bind fun t154=>((Z28.f kj2 l0_1 l1).bind fun t157=>(some (t154,t157,true)))) = some (r1,r2,r3):=by rw [if_neg (show ¬ (false = true) by decide)] at H;exact H
    clear H
    have H:=H1
    clear H1
    obtain ⟨t154,A25,H⟩:=bi_ H
    obtain ⟨t157,A26,H⟩:=bi_ H
    simp only [Option.some.injEq,Prod.mk.injEq] at H
    obtain ⟨rfl,rfl,rfl⟩:=H
    try go_wp2
    replace BK150:=A_ (kB_ BK150.out)
    replace BK151:=A_ (kB_ BK151.out)
    replace HB:=A_ (bC_ HB.out)
    refine start_ (n:=11) (S:=fun w'=>w'.cell? ⟨gb150,0,none⟩ = some (.slice A0_0 l0_0.length c0_0)∧w'.cell? ⟨gb150,1,none⟩ = some (.slice A0_1 l0_1.length c0_1)) (ds:=[]) (bl_ 11 0) (by kernel_rfl) rfl (by kernel_rfl) ⟨cz0_ BK150,cz1_ BK150⟩ (fun hHeld=>?_);refine with_tabW Z7.tab3 Z7.bits3 (fun HT_ HW_=>?_)
    generalize wc.drew = w27 at BK150 BK151 HB hHeld ⊢
    refine pu_ 0 (some 23) (bl_ 11 1) HT_ ?_
    refine pu_ 2 (some 25) (bl_ 11 5) HT_ ?_
    refine pu_ 4 (some 27) (bl_ 11 21) HT_ ?_
    refine pu_ 6 (some 29) (bl_ 11 85) HT_ ?_
    refine ta_ 1 (some 24) (bl_ 11 87) HT_ HW_ hHeld ?_
    refine ta_ 5 (some 28) (bl_ 11 119) HT_ HW_ hHeld ?_
    refine on_ 3 (some 26) (bl_ 11 127) HT_ (fun K hK=>?_)
    refine gO_ Try.func150 #[.slice A0_0 l0_0.length c0_0,.slice A1 l1.length c1] (by rfl) rfl rfl qa_ ?_
    with_reducible refine (Z28.calls kj2 _ _ l0_0 _ _ l1 t154 _ (cb_ HR0_0) HC0_0.out (cb_ HR1) HC1.out A25.out).mono ?_
    rintro e w28 ⟨v155,rfl,ho0,hb⟩
    refine ⟨_,rfl,?_⟩
    have HO156:=rl_ w ho0
    replace BK150:=bb_ BK150 hb
    replace BK151:=bb_ BK151 hb
    replace HB:=b1_ hb
    clear hb ho0
    refine hK.out _ _ ⟨cz0_ BK150,cz1_ BK150⟩ (fun hHeld=>?_)
    clear hK K
    refine no_ (some 26) ?_
    refine on_ 7 (some 30) (bl_ 11 255) HT_ (fun K hK=>?_)
    refine gO_ Try.func150 #[.slice A0_1 l0_1.length c0_1,.slice A1 l1.length c1] (by rfl) rfl rfl qa_ ?_
    with_reducible refine (Z28.calls kj2 _ _ l0_1 _ _ l1 t157 _ (cb_ HR0_1) HC0_1.out (cb_ HR1) HC1.out A26.out).mono ?_
    rintro e w29 ⟨v158,rfl,ho0,hb⟩
    refine ⟨_,rfl,?_⟩
    have HO159:=A_ (rE_ (Kd.R_new' ho0 (Kd.R_lt (rr_ HO156))) (bF_ hB_))
    replace HO156:=A_ (Kd.R_elder' (rr_ HO156) (Kd.R_base ho0) hb)
    replace BK150:=bb_ BK150 hb
    replace BK151:=bb_ BK151 hb
    replace HB:=b1_ hb
    clear hb ho0
    obtain ⟨Ao30,co30,eo30⟩:=Kd.R_slice HO159.out
    (first|subst eo30|(injection eo30 with a_ b_ c_;have a_:=a_.symm;have c_:=c_.symm;clear b_;subst a_;subst c_))
    obtain ⟨Ao31,co31,eo31⟩:=Kd.R_slice HO156.out
    (first|subst eo31|(injection eo31 with a_ b_ c_;have a_:=a_.symm;have c_:=c_.symm;clear b_;subst a_;subst c_))
    refine hK.out _ _ ⟨cz0_ BK150,cz1_ BK150⟩ (fun hHeld=>?_)
    clear hK K
    refine no_ (some 30) ?_
    refine pu_ 8 (some 31) (bl_ 11 511) HT_ ?_
    refine on_ 9 (none) (bl_ 11 1023) HT_ (fun K hK=>?_)
    have hs32:w29.cell? ⟨gb151,0,none⟩ = some (.slice none 0 0):=cz0_ BK151
    have hfs32:=kD_ BK151.out 0
    have hns32_0:=NB150_151.out
    have hms32_0:=NB151_150.out
    have hs33:w29.cell? ⟨gb151,1,none⟩ = some (.slice none 0 0):=cz1_ BK151
    have hfs33:=kD_ BK151.out 1
    have hns33_0:=NB150_151.out
    have hms33_0:=NB151_150.out
    refine skip_ (w1:=?_) (by rfl) rfl ?_ ?_
    rotate_left
    ·go_simp
     rfl
    refine hK.out _ _ ⟨((cell_far (p:=⟨gb151,_,none⟩) NB150_151.out _).trans (((cell_far (p:=⟨gb151,_,none⟩) NB150_151.out _).trans (hHeld.1)))),((cell_far (p:=⟨gb151,_,none⟩) NB150_151.out _).trans (((cell_far (p:=⟨gb151,_,none⟩) NB150_151.out _).trans (hHeld.2))))⟩ (fun hHeld=>?_)
    clear hK K
    refine pu_ 10 (some 5) (bl_ 11 2047) HT_ ?_
    refine done_ (done_of HT_.out (by kernel_rfl)) ?_
    try go_wp2
    refine bodyPost_ret (results_ct rfl _ _ gb151 33 #[.slice Ao31 t154.length co31,.slice Ao30 t157.length co30] (0,0) _ rfl qp_ Try.underlying33 rfl (by kernel_rfl)) rfl ?_
    exact ⟨_,_,qb_,(rw_ (Kd.R_mono (fa_ HO156 BK151) (fun _ hk=>hk.2))),(rw_ (Kd.R_mono (fa_ HO159 BK151) (fun _ hk=>hk.2))),hB_⟩
end Go.Proofs.Ytoijcallajegfaa.A
end
section
namespace Go.Proofs.Ytoijcallajegfaa.A
open Go.RowKit Go.Proofs.YtoijcallajegfaaW.PrintWords Go.Proofs.YtoijcallajegfaaW.PrintLast Go.Proofs.YtoijcallajegfaaW.PrintMore
attribute [local go_sem] max2_int min2_int max_two min_two max_three min_three max_four min_four
set_option linter.unusedVariables false
set_option linter.unusedSimpArgs false
mutual
def Z34.j0:Nat→Int→Bool→List Int→List Int→Option (List Int)
 | 0,_,_,_,_=>none
 | k + 1,x1,x24,x161000,x161001=>if x24 = true then (some ([]:List Int)) else (if 0≤(x161000.length:Int) then (if ((x161000.length:Int):Int).toNat≤35184372088832 then ((some (List.replicate ((x161000.length:Int):Int).toNat 0:List Int)).bind fun y162=>(Z34.l0 k x1 y162 (y162.length:Int) 0 x161000 x161001)) else (none)) else (none))
def Z34.l0:Nat→Int→List Int→Int→Int→List Int→List Int→Option (List Int)
 | 0,_,_,_,_,_,_=>none
 | k + 1,x1,x5,x30,x31,x161000,x161001=>if x31 < x30 then (if 0≤x31 then (if x31 < (x5.length:Int) then (Z34.l0 k x1 (x5.set (x31:Int).toNat (-1)) x30 (wrap64 (x31 + 1)) x161000 x161001) else (none)) else (none)) else (if 0≤x1 then (if x1 < (x5.length:Int) then (Z34.l1 k (x5.set (x1:Int).toNat 0) (([x1]:List Int)) 0 x161000 x161001) else (none)) else (none))
def Z34.l1:Nat→List Int→List Int→Int→List Int→List Int→Option (List Int)
 | 0,_,_,_,_,_=>none
 | k + 1,x5,x7,x8,x161000,x161001=>if x8 < (x7.length:Int) then (if 0≤x8 then (if 0≤(rd x7 x8) then (if (rd x7 x8) < (x161000.length:Int) then (if (rd x7 x8) < (x161001.length:Int) then ((some (([rd x161000 (rd x7 x8),rd x161001 (rd x7 x8)]:List Int):List Int)).bind fun y174=>(Z34.l2 k x5 x7 x8 y174 (y174.length:Int) 0 x161000 x161001)) else (none)) else (none)) else (none)) else (none)) else (some x5)
def Z34.l2:Nat→List Int→List Int→Int→List Int→Int→Int→List Int→List Int→Option (List Int)
 | 0,_,_,_,_,_,_,_,_=>none
 | k + 1,x5,x7,x8,x65,x66,x67,x161000,x161001=>if x67 < x66 then (if 0≤x67 then (if x67 < (x65.length:Int) then (if 0≤(rd x65 x67) then (if (rd x65 x67) < (x5.length:Int) then (if (rd x5 (rd x65 x67)) < 0 then (if x7.length < 17592186044416 then (Z34.l2 k (x5.set ((rd x65 x67):Int).toNat (x7.length:Int)) (x7 ++ [rd x65 x67]) x8 x65 x66 (wrap64 (x67 + 1)) x161000 x161001) else (none)) else (Z34.l2 k x5 x7 x8 x65 x66 (wrap64 (x67 + 1)) x161000 x161001)) else (none)) else (none)) else (none)) else (none)) else (Z34.l1 k x5 x7 (wrap64 (x8 + 1)) x161000 x161001)
end
def Z34.f (k:Nat) (l0_0:List Int) (l0_1:List Int) (a1:Int):Option (List Int):=(Z35.f k l0_0 l0_1).bind fun t161=>(if t161 = true then (if a1 < 0 then (Z34.j0 k a1 true l0_0 l0_1) else (Z34.j0 k a1 (decide (a1 ≥ (l0_0.length:Int))) l0_0 l0_1)) else (Z34.j0 k a1 true l0_0 l0_1))
theorem Z34.mono_l:∀ k,(∀ y0 y1 y2 y3,LeO (Z34.j0 k y0 y1 y2 y3) (Z34.j0 (k + 1) y0 y1 y2 y3))∧(∀ y0 y1 y2 y3 y4 y5,LeO (Z34.l0 k y0 y1 y2 y3 y4 y5) (Z34.l0 (k + 1) y0 y1 y2 y3 y4 y5))∧(∀ y0 y1 y2 y3 y4,LeO (Z34.l1 k y0 y1 y2 y3 y4) (Z34.l1 (k + 1) y0 y1 y2 y3 y4))∧(∀ y0 y1 y2 y3 y4 y5 y6 y7,LeO (Z34.l2 k y0 y1 y2 y3 y4 y5 y6 y7) (Z34.l2 (k + 1) y0 y1 y2 y3 y4 y5 y6 y7))
 | 0=>⟨fun _ _ _ _ r h=>by simp [Z34.j0] at h,fun _ _ _ _ _ _ r h=>by simp [Z34.l0] at h,fun _ _ _ _ _ r h=>by simp [Z34.l1] at h,fun _ _ _ _ _ _ _ _ r h=>by simp [Z34.l2] at h⟩
 | k + 1=>by
  obtain ⟨ih0,ih1,ih2,ih3⟩:=Z34.mono_l k
  refine ⟨?_,?_,?_,?_⟩
  ·intro y0 y1 y2 y3
   unfold Z34.j0
   repeat' first|exact ih0 _ _ _ _|exact ih1 _ _ _ _ _ _|exact ih2 _ _ _ _ _|exact ih3 _ _ _ _ _ _ _ _|exact Z35.mono _ _ _|exact lo_|refine LeO.ite ?_ ?_|refine LeO.bind ?_ (fun _=>?_)
  ·intro y0 y1 y2 y3 y4 y5
   unfold Z34.l0
   repeat' first|exact ih0 _ _ _ _|exact ih1 _ _ _ _ _ _|exact ih2 _ _ _ _ _|exact ih3 _ _ _ _ _ _ _ _|exact Z35.mono _ _ _|exact lo_|refine LeO.ite ?_ ?_|refine LeO.bind ?_ (fun _=>?_)
  ·intro y0 y1 y2 y3 y4
   unfold Z34.l1
   repeat' first|exact ih0 _ _ _ _|exact ih1 _ _ _ _ _ _|exact ih2 _ _ _ _ _|exact ih3 _ _ _ _ _ _ _ _|exact Z35.mono _ _ _|exact lo_|refine LeO.ite ?_ ?_|refine LeO.bind ?_ (fun _=>?_)
  ·intro y0 y1 y2 y3 y4 y5 y6 y7
   unfold Z34.l2
   repeat' first|exact ih0 _ _ _ _|exact ih1 _ _ _ _ _ _|exact ih2 _ _ _ _ _|exact ih3 _ _ _ _ _ _ _ _|exact Z35.mono _ _ _|exact lo_|refine LeO.ite ?_ ?_|refine LeO.bind ?_ (fun _=>?_)
theorem Z34.mono:∀ a0 a1 a2 k,LeO (Z34.f k a0 a1 a2) (Z34.f (k + 1) a0 a1 a2):=by
 intro a0 a1 a2 k
 obtain ⟨ih0,ih1,ih2,ih3⟩:=Z34.mono_l k
 unfold Z34.f
 repeat' first|exact ih0 _ _ _ _|exact ih1 _ _ _ _ _ _|exact ih2 _ _ _ _ _|exact ih3 _ _ _ _ _ _ _ _|exact Z35.mono _ _ _|exact lo_|refine LeO.ite ?_ ?_|refine LeO.bind ?_ (fun _=>?_)
def Z34.T14:Bool × List (List Nat × List Nat):=(true,[([],[]),([0],[0]),([],[]),([],[]),([2,3],[2,3]),([4],[4]),([1,5],[1,5]),([6],[6]),([],[]),([8],[8]),([],[]),([],[]),([10,11],[10,11]),([12],[12]),([9,13],[9,13]),([14],[14]),([7,15],[7,15]),([16],[16]),([],[])])
def Z34.B14:List Nat:=[0,1,0,0,12,28,63,127,0,256,0,0,3072,7168,16128,32512,65535,131071,0]
theorem Z34.tab14:rtab .any (opsOf Try.f108 14) = Z34.T14:=by kernel_rfl
theorem Z34.bits14:waitsOk Z34.T14.2 Z34.B14 = true:=by kernel_rfl
set_option maxHeartbeats 8000000 in
set_option maxRecDepth 100000 in
theorem Z34.calls (k:Nat) (A0_0:Option Addr) (c0_0:Nat) (l0_0:List Int) (A0_1:Option Addr) (c0_1:Nat) (l0_1:List Int) (a1:Int) (r:List Int) (w:World) (hr0_0:Kd.C (Kd.int .i64) w A0_0 l0_0.length l0_0) (hc0_0:l0_0.length≤c0_0) (hr0_1:Kd.C (Kd.int .i64) w A0_1 l0_1.length l0_1) (hc0_1:l0_1.length≤c0_1) (h:Z34.f k l0_0 l0_1 a1 = some r) :
  Calls Try.prog 108 #[.agg #[.slice A0_0 l0_0.length c0_0,.slice A0_1 l0_1.length c0_1],.int .i64 a1] w fun e w'=>∃ v0_:Value,e = .returned (v0_)∧Kd.R (Kd.int .i64) 3 w' w.heap.size (fun _=>True) v0_ r∧Below w.heap.size w w':=by
 have hu33:=Try.underlying33
 have HR0_0:=A_ hr0_0
 have HC0_0:=A_ hc0_0
 clear hr0_0 hc0_0
 have HR0_1:=A_ hr0_1
 have HC0_1:=A_ hc0_1
 clear hr0_1 hc0_1
 have HB:=A_ (Below.refl w.heap.size w)
 have H:=h
 unfold Z34.f at H
 clear h
 have HC3:=A_ H
 clear H
 go_enter Try.func108,Try.ntmps108
 go_upto_region 1 with (first | ((with_reducible refine gB_ (N:=2) rfl ?_);(try (refine gate_guard (by rfl) ?_;dsimp only));refine bx_ 2 #[.slice A0_0 l0_0.length c0_0,.slice A0_1 l0_1.length c0_1] 33 ?_;intro gb160 hg w4 hbox hb;have BK160:=A_ hbox;have GW160:=gw_ w hg;have GE160:=GW160;replace HB:=b1_ hb;clear hb hbox hg))
 (try simp only [Act.put,sA_,sB_,sC_])
 go_cut [24] (fun v24 wc=>∃ (kq:Nat) (x24_2:Bool),v24 = .bool x24_2∧Aside0 (Z34.j0 kq a1 x24_2 l0_0 l0_1 = some r)∧Aside0 (kq≤k)∧Aside0 (wc.heap[gb160]? = some (.cells #[(.slice A0_0 l0_0.length c0_0),(.slice A0_1 l0_1.length c0_1)] 33 (0,0)))∧Aside0 (Below w.heap.size w wc))
 case first =>
  have H:=HC3.out
  clear HC3
  obtain ⟨t161,A5,H⟩:=bi_ H
  by_cases c6:t161 = true
  ·subst c6
   rw [if_pos rfl] at H
   by_cases c7:a1 < 0
   ·rw [if_pos c7] at H
    have c7b0:=oC_ c7
    clear c7
    (first | rw [c7b0] | (simp only [i64_w,i32_w];rw [c7b0]) | skip)
    have H':=A_ H
    clear H
    obtain ⟨hcz8_0,hcz8_1,hfz8_0,hfz8_1⟩:=c2_ BK160
    go_wp2_with (first | ((with_reducible refine gA_ (f:=19) rfl ?_);refine gL_ (some 12) Try.func19 #[.agg #[.slice A0_0 l0_0.length c0_0,.slice A0_1 l0_1.length c0_1]] rfl qa_ ?_;(with_reducible refine (Z35.calls k _ _ l0_0 _ _ l0_1 true _ (cb_ HR0_0) HC0_0.out (cb_ HR0_1) HC0_1.out A5.out).mono ?_);rintro e w9 ⟨rfl,hb⟩;refine ⟨_,rfl,?_⟩;replace BK160:=bb_ BK160 hb;replace HB:=b1_ hb;clear hb))
    go_meet
    case rel=>exact ⟨_,(true),qc_,H',⟨qd_⟩,⟨(kk_ BK160)⟩,⟨hB_⟩⟩
   ·rw [if_neg c7] at H
    have c7b0:=oD_ c7
    clear c7
    (first | rw [c7b0] | (simp only [i64_w,i32_w];rw [c7b0]) | skip)
    have H':=A_ H
    clear H
    obtain ⟨hcz10_0,hcz10_1,hfz10_0,hfz10_1⟩:=c2_ BK160
    go_wp2_with (first | ((with_reducible refine gA_ (f:=19) rfl ?_);refine gL_ (some 12) Try.func19 #[.agg #[.slice A0_0 l0_0.length c0_0,.slice A0_1 l0_1.length c0_1]] rfl qa_ ?_;(with_reducible refine (Z35.calls k _ _ l0_0 _ _ l0_1 true _ (cb_ HR0_0) HC0_0.out (cb_ HR0_1) HC0_1.out A5.out).mono ?_);rintro e w11 ⟨rfl,hb⟩;refine ⟨_,rfl,?_⟩;replace BK160:=bb_ BK160 hb;replace HB:=b1_ hb;clear hb;obtain ⟨hcz12_0,hcz12_1,hfz12_0,hfz12_1⟩:=c2_ BK160))
    go_meet
    case rel=>exact ⟨_,(decide (a1 ≥ (l0_0.length:Int))),qc_,H',⟨qd_⟩,⟨(kk_ BK160)⟩,⟨hB_⟩⟩
  ·replace c6:=Bool.eq_false_iff.mpr c6
   subst c6
   have H1:(Z34.j0 k a1 true l0_0 l0_1) = some r:=by rw [if_neg (show ¬ (false = true) by decide)] at H;exact H
   clear H
   have H:=H1
   clear H1
   have H':=A_ H
   clear H
   obtain ⟨hcz13_0,hcz13_1,hfz13_0,hfz13_1⟩:=c2_ BK160
   go_wp2_with (first | ((with_reducible refine gA_ (f:=19) rfl ?_);refine gL_ (some 12) Try.func19 #[.agg #[.slice A0_0 l0_0.length c0_0,.slice A0_1 l0_1.length c0_1]] rfl qa_ ?_;(with_reducible refine (Z35.calls k _ _ l0_0 _ _ l0_1 false _ (cb_ HR0_0) HC0_0.out (cb_ HR0_1) HC0_1.out A5.out).mono ?_);rintro e w14 ⟨rfl,hb⟩;refine ⟨_,rfl,?_⟩;replace BK160:=bb_ BK160 hb;replace HB:=b1_ hb;clear hb))
   go_meet
   case rel=>exact ⟨_,(true),qc_,H',⟨qd_⟩,⟨(kk_ BK160)⟩,⟨hB_⟩⟩
 case rest =>
  clear HC3
  obtain ⟨kq,x24_2,rfl,HA,HJ2,BK160,HB⟩:=hcut
  cases kq with
  | zero=>exact absurd HA.out (by simp [Z34.j0])
  | succ kj2 =>
   have H:=HA.out
   clear HA
   simp only [Z34.j0] at H
   by_cases c15:x24_2 = true
   ·subst c15
    rw [if_pos rfl] at H
    obtain rfl:=Option.some.inj H
    go_wp2
    go_ret
    exact ⟨_,qb_,by first | exact Kd.R_nil _ _ _ _ _ | exact Kd.N_nil _ _ _ _ _ | exact Kd.V_nil _ _ _ _ _ | exact Kd.Q_nil _ _ _ _ _ | exact Kd.S_nil _ _ _ _ _,hB_⟩
   ·replace c15:=Bool.eq_false_iff.mpr c15
    subst c15
    have H1:(if 0≤(l0_0.length:Int) then (if ((l0_0.length:Int):Int).toNat≤35184372088832 then ((some (List.replicate ((l0_0.length:Int):Int).toNat 0:List Int)).bind fun y162=>(Z34.l0 kj2 a1 y162 (y162.length:Int) 0 l0_0 l0_1)) else (none)) else (none)) = some r:=by rw [if_neg (show ¬ (false = true) by decide)] at H;exact H
    clear H
    have H:=H1
    clear H1
    have c16:=cp_ H
    replace H:=ca_ H
    have c16b0:=eq_true c16
    have c16b1:=oC_ c16
    clear c16
    have c17:=cp_ H
    replace H:=ca_ H
    have c17b0:=eq_true c17
    have c17b1:=oC_ c17
    clear c17
    obtain ⟨y162,hy162⟩:∃ y_:List Int,y_ = (List.replicate ((l0_0.length:Int):Int).toNat 0):=⟨_,rfl⟩
    replace H:(Z34.l0 kj2 a1 y162 (y162.length:Int) 0 l0_0 l0_1) = some r:=by first | (rw [hy162];exact H) | exact H
    have Ny162:=A_ hy162
    clear hy162
    have H':=A_ H
    clear H
    obtain ⟨hcz18_0,hcz18_1,hfz18_0,hfz18_1⟩:=c2_ BK160
    go_wp2_with (first | ((with_reducible refine gB_ (N:=28) rfl ?_);(try (refine gate_guard (by rfl) ?_;dsimp only));refine Kd.R_make (Kd.int .i64) _ 3 rfl (N:=28) rfl 23 _ _ rfl (l0_0.length:Int) rfl rfl Try.underlying23 (.int .i64 0) 8 info3 rfl (by decide) (by omega) 0 (ok:=fun _=>True) (okp:=fun _=>True) rfl (fun _ hk=>hk) trivial (oB_ qe_) (Nat.le_trans (Nat.mul_le_mul_right _ (oB_ qe_:(l0_0.length:Int).toNat≤35184372088832)) (by omega)) (Below.refl _ _) (nA_ _) ?_;intro v163 w19 ho20 hb hg_ hnew_;clear hg_ hnew_;(first | rw [← Ny162.out] at ho20 | (simp only [Int.reduceToNat] at ho20;rw [← Ny162.out] at ho20));have HO164:=rl_ w ho20;replace BK160:=bb_ BK160 hb;replace HB:=b1_ hb;clear hb ho20;obtain ⟨Ao21,co21,eo21⟩:=Kd.R_slice HO164.out;subst eo21))
    go_loopg [31] kj2 (fun kq v31 w'=>∃ (x5_2:List Int) (x31_2:Int),v31 = .int .i64 x31_2∧Aside0 (Z34.l0 kq a1 x5_2 (y162.length:Int) x31_2 l0_0 l0_1 = some r)∧Aside0 (kq≤kj2)∧Aside0 (Kd.R (Kd.int .i64) 3 w' w.heap.size (fun _=>True) (.slice Ao21 y162.length co21) x5_2)∧Aside0 (w'.heap[gb160]? = some (.cells #[(.slice A0_0 l0_0.length c0_0),(.slice A0_1 l0_1.length c0_1)] 33 (0,0)))∧Aside0 (Below w.heap.size w w'))
    case atStart=>exact ⟨(y162),(0),qc_,H',⟨nA_ _⟩,⟨(rr_ HO164)⟩,⟨(kk_ BK160)⟩,⟨hB_⟩⟩
    case round =>
     clear H'
     obtain ⟨x5_2,x31_2,rfl,HA,HK2,HO_5,BK160,HB⟩:=hrel
     have hl5_2:=(Kd.R_reads' HO_5.out).1
     rw [hl5_2] at HO_5
     (try simp only [hl5_2])
     (try simp only [hl5_2] at BK160)
     cases gk with
     | zero=>exact absurd HA.out (by simp [Z34.l0])
     | succ k2 =>
      have H:=HA.out
      clear HA
      simp only [Z34.l0] at H
      by_cases c22:x31_2 < (y162.length:Int)
      ·rw [if_pos c22] at H
       have c22b0:=oC_ c22
       clear c22
       replace H:=cx_ H;obtain ⟨c23b0,H⟩:=H
       replace H:=cx_ H;obtain ⟨c24b0,H⟩:=H
       obtain ⟨y165,hy165⟩:∃ y_:List Int,y_ = (x5_2.set (x31_2:Int).toNat (-1)):=⟨_,rfl⟩
       replace H:(Z34.l0 k2 a1 y165 (y162.length:Int) (wrap64 (x31_2 + 1)) l0_0 l0_1) = some r:=by first | (rw [hy165];exact H) | exact H
       have Ny165:=A_ hy165
       clear hy165
       have H':=A_ H
       clear H
       have p25:0≤(x31_2:Int):=oB_ qe_
       have q25:(x31_2:Int) < ((x5_2.length:Int):Int):=oB_ qe_
       obtain ⟨go25,co25,eo25,gb25,gl25,cl25,HG25⟩:=Kd.R_form HO_5.out (by omega)
       (first | cases eo25 | (injection eo25 with ea_ en_ ec_;(first | subst ea_ | (injection ea_ with ea_;subst ea_));subst ec_;clear en_))
       have GB25:=A_ gb25
       have GG25:=A_ HG25
       clear gb25 gl25 HG25
       obtain ⟨hx25_0,hf25_0⟩:=Kd.R_celln 0 HO_5.out (x31_2:Int) p25 q25
       replace p25:=eq_true p25
       replace q25:=eq_true q25
       have HP26:=Kd.R_putg HO_5.out (x31_2:Int) (-1)
       go_wp2_with (first | ((with_reducible refine gate_store (t:=3) (p:=36) rfl ?_);refine store_event (t:=3) (p:=36) (v:=?vo_w27) (w1:=(wr.setCell ⟨go25,(x31_2:Int).toNat,none⟩ (.int .i64 (-1)))) ?hg ?ho ?hn ?hr ?_;(case ho=>rfl);(case hg=>rfl);(case hn=>rfl);(case hr=>first | (go_simp;done) | (go_simp;rfl));intro w27 hw;have hg:wr.grownBy w27 (some go25):=(by rw [hw];exact HP26.2);have hp_:Kd.R (Kd.int .i64) 3 w27 w.heap.size (fun _=>True) (.slice (some ⟨go25,0,none⟩) x5_2.length co21) y165:=(by rw [hw,Ny165.out];exact HP26.1);clear HP26;replace BK160:=A_ (blk_grown (kk_ BK160) hg (Kd.R_ne HO_5.out BK160.out (by decide)));replace HO_5:=A_ (hp_);replace HB:=A_ ((by rw [hw];exact bD_ (HB.out) GB25.out:Below w.heap.size w w27));clear hg hw hp_))
       (try simp only [← hl5_2])
       go_roundg k2
       case measure=>have:=HJ2.out;have:=HK2.out;omega
       case rel=>exact ⟨(y165),(wrap64 (x31_2 + 1)),qc_,H',⟨by have:=HJ2.out;have:=HK2.out;omega⟩,⟨by (try simp only [hl5_2]);(with_reducible repeat (first | apply rA_ | apply rB_ | apply rC_));exact HO_5.out⟩,⟨by (try simp only [hl5_2]);(with_reducible repeat (first | refine kA_ ?_ _ | refine kB_ ?_ | refine kC_ ?_ _));exact BK160.out⟩,⟨hB_⟩⟩
      ·rw [if_neg c22] at H
       have c22b0:=oD_ c22
       (try simp only [hl5_2] at c22b0)
       clear c22
       replace H:=cx_ H;obtain ⟨c28b0,H⟩:=H
       replace H:=cx_ H;obtain ⟨c29b0,H⟩:=H
       obtain ⟨y166,hy166⟩:∃ y_:List Int,y_ = (x5_2.set (a1:Int).toNat 0):=⟨_,rfl⟩
       replace H:(Z34.l1 k2 y166 (([a1]:List Int)) 0 l0_0 l0_1) = some r:=by first | (rw [hy166];exact H) | exact H
       have Ny166:=A_ hy166
       clear hy166
       obtain ⟨y167,hy167⟩:∃ y_:List Int,y_ = (([a1]:List Int)):=⟨_,rfl⟩
       replace H:(Z34.l1 k2 y166 y167 0 l0_0 l0_1) = some r:=by first | (rw [hy167];exact H) | exact H
       have Ny167:=A_ hy167
       clear hy167
       have H':=A_ H
       clear H
       have p30:0≤(a1:Int):=oB_ qe_
       have q30:(a1:Int) < ((x5_2.length:Int):Int):=oB_ qe_
       obtain ⟨go30,co30,eo30,gb30,gl30,cl30,HG30⟩:=Kd.R_form HO_5.out (by omega)
       (first | cases eo30 | (injection eo30 with ea_ en_ ec_;(first | subst ea_ | (injection ea_ with ea_;subst ea_));subst ec_;clear en_))
       have GB30:=A_ gb30
       have GG30:=A_ HG30
       clear gb30 gl30 HG30
       obtain ⟨hx30_0,hf30_0⟩:=Kd.R_celln 0 HO_5.out (a1:Int) p30 q30
       replace p30:=eq_true p30
       replace q30:=eq_true q30
       have HP31:=Kd.R_putg HO_5.out (a1:Int) 0
       go_wp2_with (first | ((with_reducible refine gate_store (t:=3) (p:=40) rfl ?_);refine store_event (t:=3) (p:=40) (v:=?vo_w32) (w1:=(wr.setCell ⟨go30,(a1:Int).toNat,none⟩ (.int .i64 0))) ?hg ?ho ?hn ?hr ?_;(case ho=>rfl);(case hg=>rfl);(case hn=>rfl);(case hr=>first | (go_simp;done) | (go_simp;rfl));intro w32 hw;have hg:wr.grownBy w32 (some go30):=(by rw [hw];exact HP31.2);have hp_:Kd.R (Kd.int .i64) 3 w32 w.heap.size (fun _=>True) (.slice (some ⟨go30,0,none⟩) x5_2.length co21) y166:=(by rw [hw,Ny166.out];exact HP31.1);clear HP31;replace BK160:=A_ (blk_grown (kk_ BK160) hg (Kd.R_ne HO_5.out BK160.out (by decide)));replace HO_5:=A_ (hp_);replace HB:=A_ ((by rw [hw];exact bD_ (HB.out) GB30.out:Below w.heap.size w w32));clear hg hw hp_) | ((with_reducible refine gB_ (N:=42) rfl ?_);(try (refine gate_guard (by rfl) ?_;dsimp only));refine Kd.R_lit (Kd.int .i64) _ 3 ?hg (N:=42) ?hd (xs:=([a1]:List Int)) (inner:=[.int .i64 a1]) (ok:=fun _=>True) (okp:=fun _=>True) ?hr ?hp (fun _ hk=>hk) trivial (Below.refl _ _) (nA_ _) (by simp) ?_;(case hd=>rfl);(case hg=>rfl);(case hr=>first | (go_simp;done) | (go_simp;rfl));(case hp=>exact (Reps.one (show Kd.M (Kd.int .i64) _ _ _ a1 [.int .i64 a1] from rfl) (Reps.none _ _)));intro v168 w33 ho34 hb hg_ hnew_;clear hg_ hnew_;(first | rw [← Ny167.out] at ho34 | (simp only [Int.reduceToNat] at ho34;rw [← Ny167.out] at ho34));have HO169:=A_ (rE_ (Kd.R_new' ho34 (Kd.R_lt (rr_ HO_5))) (bF_ hB_));replace HO_5:=A_ (Kd.R_elder' (rr_ HO_5) (Kd.R_base ho34) hb);replace BK160:=bb_ BK160 hb;replace HB:=b1_ hb;clear hb ho34))
       go_loopg [7,8] k2 (fun kq v7 v8 w'=>∃ (x5_3:List Int) (x7_3:List Int) (x8_3:Int),v8 = .int .i64 x8_3∧Aside0 (Z34.l1 kq x5_3 x7_3 x8_3 l0_0 l0_1 = some r)∧Aside0 (kq≤k2)∧Aside0 (Kd.R (Kd.int .i64) 3 w' w.heap.size (fun k_=>some k_≠(v7:Value).ownBlock) (.slice (some ⟨go30,0,none⟩) x5_2.length co21) x5_3)∧Aside0 (Kd.R (Kd.int .i64) 3 w' w.heap.size (fun k_=>some k_≠((.slice (some ⟨go30,0,none⟩) x5_2.length co21):Value).ownBlock) v7 x7_3)∧Aside0 (w'.heap[gb160]? = some (.cells #[(.slice A0_0 l0_0.length c0_0),(.slice A0_1 l0_1.length c0_1)] 33 (0,0)))∧Aside0 (Below w.heap.size w w'))
       case atStart=>exact ⟨(y166),(y167),(0),qc_,H',⟨nA_ _⟩,⟨by (try simp only [hl5_2]);(with_reducible repeat (first | apply rA_ | apply rB_ | apply rC_));exact Kd.R_mono HO_5.out (fun _ hk=>hk.2)⟩,⟨by (try simp only [hl5_2]);(with_reducible repeat (first | apply rA_ | apply rB_ | apply rC_));exact Kd.R_mono HO169.out (fun _ hk=>hk.2)⟩,⟨by (try simp only [hl5_2]);(with_reducible repeat (first | refine kA_ ?_ _ | refine kB_ ?_ | refine kC_ ?_ _));exact BK160.out⟩,⟨hB_⟩⟩
       case round =>
        clear H'
        obtain ⟨x5_3,x7_3,x8_3,rfl,HA,HK3,HO_5,HO_7,BK160,HB⟩:=hrel
        have hl5_3:=(Kd.R_reads' HO_5.out).1
        rw [hl5_3] at HO_5
        (try simp only [hl5_3])
        (try simp only [hl5_3] at BK160)
        (try simp only [hl5_3] at HO_7)
        cases gk with
        | zero=>exact absurd HA.out (by simp [Z34.l1])
        | succ k3 =>
         have H:=HA.out
         clear HA
         simp only [Z34.l1] at H
         by_cases c35:x8_3 < (x7_3.length:Int)
         ·rw [if_pos c35] at H
          have c35b0:=oC_ c35
          clear c35
          replace H:=cx_ H;obtain ⟨c36b0,H⟩:=H
          replace H:=cx_ H;obtain ⟨c37b0,H⟩:=H
          replace H:=cx_ H;obtain ⟨c38b0,H⟩:=H
          replace H:=cx_ H;obtain ⟨c39b0,H⟩:=H
          obtain ⟨y174,hy174⟩:∃ y_:List Int,y_ = (([rd l0_0 (rd x7_3 x8_3),rd l0_1 (rd x7_3 x8_3)]:List Int)):=⟨_,rfl⟩
          replace H:(Z34.l2 k3 x5_3 x7_3 x8_3 y174 (y174.length:Int) 0 l0_0 l0_1) = some r:=by first | (rw [hy174];exact H) | exact H
          have Ny174:=A_ hy174
          clear hy174
          have H':=A_ H
          clear H
          obtain ⟨Ao40,co40,eo40⟩:=Kd.R_slice HO_7.out
          subst eo40
          try go_wp2
          replace HO_5:=A_ (rC_ HO_5.out)
          replace HO_7:=A_ (rC_ HO_7.out)
          replace BK160:=A_ (kB_ BK160.out)
          replace HB:=A_ (bC_ HB.out)
          have p170:0≤(x8_3:Int):=oB_ qe_
          have q170:x8_3 < (x7_3.length:Int):=oB_ qe_
          obtain ⟨ad170,e170,hx170_0⟩:=Kd.at_int (Kd.R_reads' HO_7.out).2.2 x8_3 p170 q170
          cases e170
          replace p170:=eq_true p170
          replace q170:=eq_true q170
          have p171:0≤((rd x7_3 x8_3):Int):=oB_ qe_
          have q171:(rd x7_3 x8_3) < (l0_0.length:Int):=oB_ qe_
          obtain ⟨ad171,e171,hx171_0⟩:=Kd.at_int HR0_0.out (rd x7_3 x8_3) p171 q171
          have hw171_0:=hx171_0
          cases e171
          replace hx171_0:=(HB.out.cell (World.block_lt_of_cell? w _ hx171_0)).trans hx171_0
          replace p171:=eq_true p171
          replace q171:=eq_true q171
          have p172:0≤(x8_3:Int):=oB_ qe_
          have q172:x8_3 < (x7_3.length:Int):=oB_ qe_
          obtain ⟨ad172,e172,hx172_0⟩:=Kd.at_int (Kd.R_reads' HO_7.out).2.2 x8_3 p172 q172
          obtain rfl:ad170 = ad172:=(by injection e172)
          replace p172:=eq_true p172
          replace q172:=eq_true q172
          have p173:0≤((rd x7_3 x8_3):Int):=oB_ qe_
          have q173:(rd x7_3 x8_3) < (l0_1.length:Int):=oB_ qe_
          obtain ⟨ad173,e173,hx173_0⟩:=Kd.at_int HR0_1.out (rd x7_3 x8_3) p173 q173
          have hw173_0:=hx173_0
          cases e173
          replace hx173_0:=(HB.out.cell (World.block_lt_of_cell? w _ hx173_0)).trans hx173_0
          replace p173:=eq_true p173
          replace q173:=eq_true q173
          refine start_ (n:=19) (S:=fun w'=>w'.cell? ⟨gb160,0,none⟩ = some (.slice (some ad171) l0_0.length c0_0)∧w'.cell? ⟨gb160,1,none⟩ = some (.slice (some ad173) l0_1.length c0_1)∧w'.cell? (ad170.add (x8_3).toNat) = some (.int .i64 (rd x7_3 x8_3))∧w'.cell? (ad171.add ((rd x7_3 x8_3)).toNat) = some (.int .i64 (rd l0_0 (rd x7_3 x8_3)))∧w'.cell? (ad170.add (x8_3).toNat) = some (.int .i64 (rd x7_3 x8_3))∧w'.cell? (ad173.add ((rd x7_3 x8_3)).toNat) = some (.int .i64 (rd l0_1 (rd x7_3 x8_3)))) (ds:=[]) (bl_ 19 0) (by kernel_rfl) rfl (by kernel_rfl) ⟨cz0_ BK160,cz1_ BK160,hx170_0,((HB.out.cell (World.block_lt_of_cell? w _ hw171_0)).trans hw171_0),hx172_0,((HB.out.cell (World.block_lt_of_cell? w _ hw173_0)).trans hw173_0)⟩ (fun hHeld=>?_);refine with_tabW Z34.tab14 Z34.bits14 (fun HT_ HW_=>?_)
          generalize wr.drew = w41 at HO_5 HO_7 BK160 HB hx170_0 hx171_0 hx172_0 hx173_0 hHeld ⊢
          refine pu_ 0 (some 49) (bl_ 19 1) HT_ ?_
          refine pu_ 2 (some 51) (bl_ 19 5) HT_ ?_
          refine pu_ 3 (some 52) (bl_ 19 13) HT_ ?_
          refine pu_ 4 (some 53) (bl_ 19 29) HT_ ?_
          refine pu_ 8 (some 57) (bl_ 19 285) HT_ ?_
          refine pu_ 10 (some 59) (bl_ 19 1309) HT_ ?_
          refine pu_ 11 (some 60) (bl_ 19 3357) HT_ ?_
          refine pu_ 12 (some 61) (bl_ 19 7453) HT_ ?_
          refine pu_ 18 (some 67) (bl_ 19 269597) HT_ ?_
          refine ta_ 1 (some 50) (bl_ 19 269599) HT_ HW_ hHeld ?_
          refine ta_ 5 (some 54) (bl_ 19 269631) HT_ HW_ hHeld ?_
          refine pu_ 6 (some 55) (bl_ 19 269695) HT_ ?_
          refine ta_ 7 (some 56) (bl_ 19 269823) HT_ HW_ hHeld ?_
          refine ta_ 9 (some 58) (bl_ 19 270335) HT_ HW_ hHeld ?_
          refine ta_ 13 (some 62) (bl_ 19 278527) HT_ HW_ hHeld ?_
          refine pu_ 14 (some 63) (bl_ 19 294911) HT_ ?_
          refine ta_ 15 (some 64) (bl_ 19 327679) HT_ HW_ hHeld ?_
          refine on_ 16 (some 65) (bl_ 19 393215) HT_ (fun K hK=>?_)
          refine Kd.R_lit_step (Kd.int .i64) _ 3 ?hg (N:=65) ?hd (xs:=([rd l0_0 (rd x7_3 x8_3),rd l0_1 (rd x7_3 x8_3)]:List Int)) (inner:=[.int .i64 (rd l0_0 (rd x7_3 x8_3)),.int .i64 (rd l0_1 (rd x7_3 x8_3))]) (ok:=fun _=>True) (okp:=fun _=>True) ?hr ?hp (fun _ hk=>hk) trivial (Below.refl _ _) (nA_ _) (by simp) ?_;(case hd=>rfl);(case hg=>rfl);(case hr=>first | (go_simp;done) | (go_simp;rfl));(case hp=>exact (Reps.one (show Kd.M (Kd.int .i64) _ _ _ (rd l0_0 (rd x7_3 x8_3)) [.int .i64 (rd l0_0 (rd x7_3 x8_3))] from rfl) (Reps.one (show Kd.M (Kd.int .i64) _ _ _ (rd l0_1 (rd x7_3 x8_3)) [.int .i64 (rd l0_1 (rd x7_3 x8_3))] from rfl) (Reps.none _ _))))
          intro v175 w42 ho43 hb hg_ hnew_
          have HS2_:=(hb.cell (World.block_lt_of_cell? _ _ (hHeld.2.2.1))).trans (hHeld.2.2.1)
          have HS4_:=(hb.cell (World.block_lt_of_cell? _ _ (hHeld.2.2.2.2.1))).trans (hHeld.2.2.2.2.1)
          clear hg_ hnew_
          (first | rw [← Ny174.out] at ho43 | (simp only [Int.reduceToNat] at ho43;rw [← Ny174.out] at ho43))
          have HO176:=A_ (rE_ (Kd.R_new' (Kd.R_new' ho43 (Kd.R_lt (rr_ HO_5))) (Kd.R_lt (rr_ HO_7))) (bF_ hB_))
          replace HO_5:=A_ (Kd.R_elder' (rr_ HO_5) (Kd.R_base ho43) hb)
          replace HO_7:=A_ (Kd.R_elder' (rr_ HO_7) (Kd.R_base ho43) hb)
          replace BK160:=bb_ BK160 hb
          replace HB:=b1_ hb
          clear hb ho43
          obtain ⟨Ao44,co44,eo44⟩:=Kd.R_slice HO176.out
          (first|subst eo44|(injection eo44 with a_ b_ c_;have a_:=a_.symm;have c_:=c_.symm;clear b_;subst a_;subst c_))
          refine hK.out _ _ ⟨cz0_ BK160,cz1_ BK160,HS2_,((HB.out.cell (World.block_lt_of_cell? w _ hw171_0)).trans hw171_0),HS4_,((HB.out.cell (World.block_lt_of_cell? w _ hw173_0)).trans hw173_0)⟩ (fun hHeld=>?_)
          clear hK K
          refine no_ (some 65) ?_
          refine pu_ 17 (some 66) (bl_ 19 524287) HT_ ?_
          refine done_ (done_of HT_.out (by kernel_rfl)) ?_
          try go_wp2
          go_loopg [7,67] k3 (fun kq v7 v67 w'=>∃ (x5_4:List Int) (x7_4:List Int) (x67_4:Int),v67 = .int .i64 x67_4∧Aside0 (Z34.l2 kq x5_4 x7_4 x8_3 y174 (y174.length:Int) x67_4 l0_0 l0_1 = some r)∧Aside0 (kq≤k3)∧Aside0 (Kd.R (Kd.int .i64) 3 w' w.heap.size (fun k_=>some k_≠(v7:Value).ownBlock∧some k_≠((.slice Ao44 y174.length co44):Value).ownBlock) (.slice (some ⟨go30,0,none⟩) x5_3.length co21) x5_4)∧Aside0 (Kd.R (Kd.int .i64) 3 w' w.heap.size (fun k_=>some k_≠((.slice (some ⟨go30,0,none⟩) x5_3.length co21):Value).ownBlock∧some k_≠((.slice Ao44 y174.length co44):Value).ownBlock) v7 x7_4)∧Aside0 (Kd.R (Kd.int .i64) 3 w' w.heap.size (fun k_=>some k_≠((.slice (some ⟨go30,0,none⟩) x5_3.length co21):Value).ownBlock∧some k_≠(v7:Value).ownBlock) (.slice Ao44 y174.length co44) y174)∧Aside0 (w'.heap[gb160]? = some (.cells #[(.slice (some ad171) l0_0.length c0_0),(.slice (some ad173) l0_1.length c0_1)] 33 (0,0)))∧Aside0 (Below w.heap.size w w'))
          case atStart=>exact ⟨(x5_3),(x7_3),(0),qc_,H',⟨nA_ _⟩,⟨by (try simp only [hl5_2]);(try simp only [hl5_3]);(with_reducible repeat (first | apply rA_ | apply rB_ | apply rC_));exact HO_5.out⟩,⟨by (try simp only [hl5_2]);(try simp only [hl5_3]);(with_reducible repeat (first | apply rA_ | apply rB_ | apply rC_));exact HO_7.out⟩,⟨by (try simp only [hl5_2]);(try simp only [hl5_3]);(with_reducible repeat (first | apply rA_ | apply rB_ | apply rC_));exact Kd.R_mono HO176.out (fun _ hk=>⟨hk.1.2,hk.2⟩)⟩,⟨by (try simp only [hl5_2]);(try simp only [hl5_3]);(with_reducible repeat (first | refine kA_ ?_ _ | refine kB_ ?_ | refine kC_ ?_ _));exact BK160.out⟩,⟨hB_⟩⟩
          case round =>
           clear H'
           obtain ⟨x5_4,x7_4,x67_4,rfl,HA,HK4,HO_5,HO_7,HO_65,BK160,HB⟩:=hrel
           have hl5_4:=(Kd.R_reads' HO_5.out).1
           rw [hl5_4] at HO_5
           (try simp only [hl5_4])
           (try simp only [hl5_4] at BK160)
           (try simp only [hl5_4] at HO_7)
           (try simp only [hl5_4] at HO_65)
           cases gk with
           | zero=>exact absurd HA.out (by simp [Z34.l2])
           | succ k4 =>
            have H:=HA.out
            clear HA
            simp only [Z34.l2] at H
            by_cases c45:x67_4 < (y174.length:Int)
            ·rw [if_pos c45] at H
             have c45b0:=oC_ c45
             clear c45
             replace H:=cx_ H;obtain ⟨c46b0,H⟩:=H
             replace H:=cx_ H;obtain ⟨c47b0,H⟩:=H
             replace H:=cx_ H;obtain ⟨c48b0,H⟩:=H
             replace H:=cx_ H;obtain ⟨c49b0,H⟩:=H
             by_cases c50:(rd x5_4 (rd y174 x67_4)) < 0
             ·rw [if_pos c50] at H
              have c50b0:=oC_ c50
              clear c50
              obtain ⟨y179,hy179⟩:∃ y_:List Int,y_ = (x5_4.set ((rd y174 x67_4):Int).toNat (x7_4.length:Int)):=⟨_,rfl⟩
              replace H:(if x7_4.length < 17592186044416 then (Z34.l2 k4 y179 (x7_4 ++ [rd y174 x67_4]) x8_3 y174 (y174.length:Int) (wrap64 (x67_4 + 1)) l0_0 l0_1) else (none)) = some r:=by first | (rw [hy179];exact H) | exact H
              have Ny179:=A_ hy179
              clear hy179
              have c52:=cp_ H
              replace H:=ca_ H
              have LMc52:=A_ c52
              clear c52
              obtain ⟨y180,hy180⟩:∃ y_:List Int,y_ = (x7_4 ++ [rd y174 x67_4]):=⟨_,rfl⟩
              replace H:(Z34.l2 k4 y179 y180 x8_3 y174 (y174.length:Int) (wrap64 (x67_4 + 1)) l0_0 l0_1) = some r:=by first | (rw [hy180];exact H) | exact H
              have Ny180:=A_ hy180
              clear hy180
              have H':=A_ H
              clear H
              have p177:0≤(x67_4:Int):=oB_ qe_
              have q177:x67_4 < (y174.length:Int):=oB_ qe_
              obtain ⟨ad177,e177,hx177_0⟩:=Kd.at_int (Kd.R_reads' HO_65.out).2.2 x67_4 p177 q177
              cases e177
              replace p177:=eq_true p177
              replace q177:=eq_true q177
              have p178:0≤((rd y174 x67_4):Int):=oB_ qe_
              have q178:(rd y174 x67_4) < (x5_4.length:Int):=oB_ qe_
              obtain ⟨ad178,e178,hx178_0⟩:=Kd.at_int (Kd.R_reads' HO_5.out).2.2 (rd y174 x67_4) p178 q178
              obtain rfl:(⟨go30,0,none⟩:Addr) = ad178:=(by injection e178)
              (first | simp only [add_plain] at hx178_0 | simp only [add_at] at hx178_0 | simp only [Addr.add,Nat.zero_add] at hx178_0 | skip)
              replace p178:=eq_true p178
              replace q178:=eq_true q178
              obtain ⟨Ao53,co53,eo53⟩:=Kd.R_slice HO_7.out
              subst eo53
              have p51:0≤((rd y174 x67_4):Int):=oB_ qe_
              have q51:((rd y174 x67_4):Int) < ((x5_4.length:Int):Int):=oB_ qe_
              obtain ⟨hx51_0,hf51_0⟩:=Kd.R_celln 0 HO_5.out ((rd y174 x67_4):Int) p51 q51
              replace p51:=eq_true p51
              replace q51:=eq_true q51
              have HP54:=Kd.R_putg HO_5.out ((rd y174 x67_4):Int) (x7_4.length:Int)
              go_wp2_with (first | ((with_reducible refine gate_store (t:=3) (p:=80) rfl ?_);refine store_event (t:=3) (p:=80) (v:=?vo_w55) (w1:=(wr.setCell ⟨go30,((rd y174 x67_4):Int).toNat,none⟩ (.int .i64 (x7_4.length:Int)))) ?hg ?ho ?hn ?hr ?_;(case ho=>rfl);(case hg=>rfl);(case hn=>rfl);(case hr=>first | (go_simp;done) | (go_simp;rfl));intro w55 hw;have hg:wr.grownBy w55 (some go30):=(by rw [hw];exact HP54.2);have hp_:Kd.R (Kd.int .i64) 3 w55 w.heap.size (fun k_=>some k_≠(.slice Ao53 x7_4.length co53:Value).ownBlock∧some k_≠(.slice (some ad177) y174.length co44:Value).ownBlock) (.slice (some ⟨go30,0,none⟩) x5_4.length co21) y179:=(by rw [hw,Ny179.out];exact HP54.1);clear HP54;replace HO_7:=A_ (Kd.R_after (v:=(.slice (some ⟨go30,0,none⟩) x5_4.length co21)) (v1:=(.slice (some ⟨go30,0,none⟩) x5_4.length co21)) (ok:=(fun k_=>some k_≠(.slice (some ad177) y174.length co44:Value).ownBlock)) (rw_ (Kd.R_mono HO_7.out (fun _ hk=>⟨hk.2,hk.1⟩))) hg (.inl rfl));replace HO_65:=A_ (Kd.R_after (v:=(.slice (some ⟨go30,0,none⟩) x5_4.length co21)) (v1:=(.slice (some ⟨go30,0,none⟩) x5_4.length co21)) (ok:=(fun k_=>some k_≠(.slice Ao53 x7_4.length co53:Value).ownBlock)) (rw_ (Kd.R_mono HO_65.out (fun _ hk=>⟨hk.2,hk.1⟩))) hg (.inl rfl));replace BK160:=A_ (blk_grown (kk_ BK160) hg (Kd.R_ne HO_5.out BK160.out (by decide)));replace HO_5:=A_ (hp_);replace HB:=A_ ((by rw [hw];exact bD_ (HB.out) GB30.out:Below w.heap.size w w55));clear hg hw hp_) | ((with_reducible refine gate_builtin (b:=.append) (xs:=#[.tmp 81,.tmp 83]) rfl ?_);(try (refine gate_guard (by rfl) ?_;dsimp only));at_builtin;refine Kd.R_append (Kd.int .i64) (w0:=w) w.heap.size rfl (.tmp 81) (.tmp 83) 23 3 (.int .i64 0) 8 rfl Try.underlying23 info3 rfl (by decide) (by omega) (.slice Ao53 x7_4.length co53) x7_4 (rd y174 x67_4) [.int .i64 (rd y174 x67_4)] (fun k_=>some k_≠(.slice (some ⟨go30,0,none⟩) x5_4.length co21:Value).ownBlock∧some k_≠(.slice (some ad177) y174.length co44:Value).ownBlock) (fun _=>False) rfl rfl ?aP (fun _ hk=>hk.elim) ?aF ?aO ?aB ?aS ?aL ?_;(case aP=>exact rfl);(case aB=>exact hB_);(case aF=>exact (fun k_ hk=>⟨Kd.fresh' (Kd.R_lt (rr_ HO_5)) k_ hk,Kd.fresh' (Kd.R_lt (rr_ HO_65)) k_ hk⟩));(case aO=>exact (rw_ (Kd.R_mono HO_7.out (fun _ hk=>⟨hk.2,hk.1⟩))));(case aS=>exact (bF_ hB_));(case aL=>have:=LMc52.out;omega);intro v181 w56 ho hb hg hat;rw [← Ny180.out] at ho;replace HO_5:=A_ (Kd.R_after (ok:=(fun k_=>some k_≠(.slice (some ad177) y174.length co44:Value).ownBlock)) (rw_ (Kd.R_mono HO_5.out (fun _ hk=>⟨hk.2,hk.1⟩))) hg hat);replace HO_65:=A_ (Kd.R_after (ok:=(fun k_=>some k_≠(.slice (some ⟨go30,0,none⟩) x5_4.length co21:Value).ownBlock)) (rw_ (Kd.R_mono HO_65.out (fun _ hk=>⟨hk.2,hk.1⟩))) hg hat);replace BK160:=A_ (blk_grown (kk_ BK160) hg (Kd.R_ne HO_7.out BK160.out (by decide)));replace HB:=A_ hb;have HO182:=A_ ho;clear HO_7;clear ho hb hg hat))
              (try simp only [← hl5_4])
              go_roundg k4
              case measure=>have:=HJ2.out;have:=HK2.out;have:=HK3.out;have:=HK4.out;omega
              case rel=>exact ⟨(y179),(y180),(wrap64 (x67_4 + 1)),qc_,H',⟨by have:=HJ2.out;have:=HK2.out;have:=HK3.out;have:=HK4.out;omega⟩,⟨by (try simp only [hl5_2]);(try simp only [hl5_3]);(try simp only [hl5_4]);(with_reducible repeat (first | apply rA_ | apply rB_ | apply rC_));exact Kd.R_mono HO_5.out (fun _ hk=>⟨hk.2,hk.1⟩)⟩,⟨by (try simp only [hl5_2]);(try simp only [hl5_3]);(try simp only [hl5_4]);(with_reducible repeat (first | apply rA_ | apply rB_ | apply rC_));exact HO182.out⟩,⟨by (try simp only [hl5_2]);(try simp only [hl5_3]);(try simp only [hl5_4]);(with_reducible repeat (first | apply rA_ | apply rB_ | apply rC_));exact HO_65.out⟩,⟨by (try simp only [hl5_2]);(try simp only [hl5_3]);(try simp only [hl5_4]);(with_reducible repeat (first | refine kA_ ?_ _ | refine kB_ ?_ | refine kC_ ?_ _));exact BK160.out⟩,⟨hB_⟩⟩
             ·rw [if_neg c50] at H
              have c50b0:=oD_ c50
              clear c50
              have H':=A_ H
              clear H
              have p177:0≤(x67_4:Int):=oB_ qe_
              have q177:x67_4 < (y174.length:Int):=oB_ qe_
              obtain ⟨ad177,e177,hx177_0⟩:=Kd.at_int (Kd.R_reads' HO_65.out).2.2 x67_4 p177 q177
              cases e177
              replace p177:=eq_true p177
              replace q177:=eq_true q177
              have p178:0≤((rd y174 x67_4):Int):=oB_ qe_
              have q178:(rd y174 x67_4) < (x5_4.length:Int):=oB_ qe_
              obtain ⟨ad178,e178,hx178_0⟩:=Kd.at_int (Kd.R_reads' HO_5.out).2.2 (rd y174 x67_4) p178 q178
              obtain rfl:(⟨go30,0,none⟩:Addr) = ad178:=(by injection e178)
              (first | simp only [add_plain] at hx178_0 | simp only [add_at] at hx178_0 | simp only [Addr.add,Nat.zero_add] at hx178_0 | skip)
              replace p178:=eq_true p178
              replace q178:=eq_true q178
              go_wp2
              (try simp only [← hl5_4])
              go_roundg k4
              case measure=>have:=HJ2.out;have:=HK2.out;have:=HK3.out;have:=HK4.out;omega
              case rel=>exact ⟨(x5_4),(x7_4),(wrap64 (x67_4 + 1)),qc_,H',⟨by have:=HJ2.out;have:=HK2.out;have:=HK3.out;have:=HK4.out;omega⟩,⟨by (try simp only [hl5_2]);(try simp only [hl5_3]);(try simp only [hl5_4]);(with_reducible repeat (first | apply rA_ | apply rB_ | apply rC_));exact HO_5.out⟩,⟨by (try simp only [hl5_2]);(try simp only [hl5_3]);(try simp only [hl5_4]);(with_reducible repeat (first | apply rA_ | apply rB_ | apply rC_));exact HO_7.out⟩,⟨by (try simp only [hl5_2]);(try simp only [hl5_3]);(try simp only [hl5_4]);(with_reducible repeat (first | apply rA_ | apply rB_ | apply rC_));exact HO_65.out⟩,⟨by (try simp only [hl5_2]);(try simp only [hl5_3]);(try simp only [hl5_4]);(with_reducible repeat (first | refine kA_ ?_ _ | refine kB_ ?_ | refine kC_ ?_ _));exact BK160.out⟩,⟨hB_⟩⟩
            ·rw [if_neg c45] at H
             have c45b0:=oD_ c45
             (try simp only [hl5_4] at c45b0)
             clear c45
             have H':=A_ H
             clear H
             go_wp2
             (try simp only [← hl5_3,← hl5_4])
             go_roundg k4
             case measure=>have:=HJ2.out;have:=HK2.out;have:=HK3.out;have:=HK4.out;omega
             case rel=>exact ⟨(x5_4),(x7_4),(wrap64 (x8_3 + 1)),qc_,H',⟨by have:=HJ2.out;have:=HK2.out;have:=HK3.out;have:=HK4.out;omega⟩,⟨by (try simp only [hl5_2]);(try simp only [hl5_3]);(try simp only [hl5_4]);(with_reducible repeat (first | apply rA_ | apply rB_ | apply rC_));exact Kd.R_mono HO_5.out (fun _ hk=>hk.1)⟩,⟨by (try simp only [hl5_2]);(try simp only [hl5_3]);(try simp only [hl5_4]);(with_reducible repeat (first | apply rA_ | apply rB_ | apply rC_));exact Kd.R_mono HO_7.out (fun _ hk=>hk.1)⟩,⟨by (try simp only [hl5_2]);(try simp only [hl5_3]);(try simp only [hl5_4]);(with_reducible repeat (first | refine kA_ ?_ _ | refine kB_ ?_ | refine kC_ ?_ _));exact BK160.out⟩,⟨hB_⟩⟩
         ·rw [if_neg c35] at H
          have c35b0:=oD_ c35
          clear c35
          obtain rfl:=Option.some.inj H
          obtain ⟨Ao57,co57,eo57⟩:=Kd.R_slice HO_7.out
          subst eo57
          go_wp2
          go_ret
          exact ⟨_,qb_,(rw_ (Kd.R_mono HO_5.out (fun _ hk=>trivial))),hB_⟩
end Go.Proofs.Ytoijcallajegfaa.A
end
section
namespace Go.Proofs.Ytoijcallajegfaa.A
open Go.RowKit Go.Proofs.YtoijcallajegfaaW.PrintWords Go.Proofs.YtoijcallajegfaaW.PrintLast Go.Proofs.YtoijcallajegfaaW.PrintMore
attribute [local go_sem] max2_int min2_int max_two min_two max_three min_three max_four min_four
set_option linter.unusedVariables false
set_option linter.unusedSimpArgs false
def Z36.l0:Nat→List (S33)→Int→List Int→List Int→Option ((List (S33)))
 | 0,_,_,_,_=>none
 | k + 1,x3,x4,x184000,x184001=>(Z12.f k x184000 x184001).bind fun t187=>(if x4 < t187 then ((Z34.f k x184000 x184001 x4).bind fun t188=>((Z7.f k x184000 x184001 t188).bind fun bt191=>(if x3.length < 2932031007402 then (Z36.l0 k (x3 ++ [(⟨bt191.1,bt191.2.1⟩:S33)]) (wrap64 (x4 + 1)) x184000 x184001) else (none)))) else (some x3))
def Z36.f (k:Nat) (l0_0:List Int) (l0_1:List Int):Option ((List (S33))):=Z36.l0 k (([]:List (S33))) 0 l0_0 l0_1
theorem Z36.mono_l:∀ k,(∀ y0 y1 y2 y3,LeO (Z36.l0 k y0 y1 y2 y3) (Z36.l0 (k + 1) y0 y1 y2 y3))
 | 0=>fun _ _ _ _ r h=>by simp [Z36.l0] at h
 | k + 1=>by
  have ih0:=Z36.mono_l k
  ·intro y0 y1 y2 y3
   unfold Z36.l0
   repeat' first|exact ih0 _ _ _ _|exact Z12.mono _ _ _|exact Z34.mono _ _ _ _|exact Z7.mono _ _ _ _|exact lo_|refine LeO.ite ?_ ?_|refine LeO.bind ?_ (fun _=>?_)
theorem Z36.mono:∀ a0 a1 k,LeO (Z36.f k a0 a1) (Z36.f (k + 1) a0 a1):=by
 intro a0 a1 k
 have ih0:=Z36.mono_l k
 unfold Z36.f
 repeat' first|exact ih0 _ _ _ _|exact Z12.mono _ _ _|exact Z34.mono _ _ _ _|exact Z7.mono _ _ _ _|exact lo_|refine LeO.ite ?_ ?_|refine LeO.bind ?_ (fun _=>?_)
def Z36.T5:Bool × List (List Nat × List Nat):=(true,[([],[]),([],[]),([],[]),([1,2],[1,2]),([0,3,3],[0,3]),([4],[4]),([5],[5]),([5],[5]),([],[]),([8,6,4,0,1,2,3,4,5,6,8],[6,8]),([7,9,0,1,2,3,4,5,6,7,8,9],[7])])
def Z36.B5:List Nat:=[0,0,0,6,15,31,63,63,0,383,1023]
theorem Z36.tab5:rtab .any (opsOf Try.f58 5) = Z36.T5:=by kernel_rfl
theorem Z36.bits5:waitsOk Z36.T5.2 Z36.B5 = true:=by kernel_rfl
set_option maxHeartbeats 8000000 in
set_option maxRecDepth 100000 in
theorem Z36.calls (k:Nat) (A0_0:Option Addr) (c0_0:Nat) (l0_0:List Int) (A0_1:Option Addr) (c0_1:Nat) (l0_1:List Int) (r:List (S33)) (w:World) (hr0_0:Kd.C (Kd.int .i64) w A0_0 l0_0.length l0_0) (hc0_0:l0_0.length≤c0_0) (hr0_1:Kd.C (Kd.int .i64) w A0_1 l0_1.length l0_1) (hc0_1:l0_1.length≤c0_1) (h:Z36.f k l0_0 l0_1 = some r) :
  Calls Try.prog 58 #[.agg #[.slice A0_0 l0_0.length c0_0,.slice A0_1 l0_1.length c0_1]] w fun e w'=>∃ v0_:Value,e = .returned (v0_)∧Kd.S k33 33 w' w.heap.size (fun _=>True) v0_ r∧Below w.heap.size w w':=by
 have hu33:=Try.underlying33
 have HR0_0:=A_ hr0_0
 have HC0_0:=A_ hc0_0
 clear hr0_0 hc0_0
 have HR0_1:=A_ hr0_1
 have HC0_1:=A_ hc0_1
 clear hr0_1 hc0_1
 have HB:=A_ (Below.refl w.heap.size w)
 have H:=h
 unfold Z36.f at H
 clear h
 obtain ⟨y184,hy184⟩:∃ y_:List (S33),y_ = (([]:List (S33))):=⟨_,rfl⟩
 replace H:(Z36.l0 k y184 0 l0_0 l0_1) = some r:=by first | (rw [hy184];exact H) | exact H
 have Ny184:=A_ hy184
 clear hy184
 have H':=A_ H
 clear H
 go_enter Try.func58,Try.ntmps58
 go_wp2_with (first | ((with_reducible refine gB_ (N:=1) rfl ?_);refine bx_ 1 #[.slice A0_0 l0_0.length c0_0,.slice A0_1 l0_1.length c0_1] 33 ?_;intro gb183 hg w2 hbox hb;have BK183:=A_ hbox;have GW183:=gw_ w hg;have GE183:=GW183;replace HB:=b1_ hb;clear hb hbox hg) | ((with_reducible refine gB_ (N:=7) rfl ?_);refine Kd.S_lit k33 _ 33 ?hg (N:=7) ?hd (xs:=([]:List (S33))) (inner:=[]) (ok:=fun _=>True) (okp:=fun _=>True) ?hr ?hp (fun _ hk=>hk) trivial (Below.refl _ _) (nA_ _) (by simp) ?_;(case hd=>rfl);(case hg=>rfl);(case hr=>first | (go_simp;done) | (go_simp;rfl));(case hp=>exact (Reps.none _ _));intro v185 w3 ho4 hb hg_ hnew_;clear hg_ hnew_;(first | rw [← Ny184.out] at ho4 | (simp only [Int.reduceToNat] at ho4;rw [← Ny184.out] at ho4));have HO186:=A_ (Kd.S_lower (Kd.S_newB ho4 (kk_ BK183)) (bF_ hB_));replace BK183:=bb_ BK183 hb;replace HB:=b1_ hb;clear hb ho4))
 go_loopg [3,4] k (fun kq v3 v4 w'=>∃ (x3_1:List (S33)) (x4_1:Int),v4 = .int .i64 x4_1∧Aside0 (Z36.l0 kq x3_1 x4_1 l0_0 l0_1 = some r)∧Aside0 (kq≤k)∧Aside0 (Kd.S k33 33 w' w.heap.size (fun k_=>k_≠gb183) v3 x3_1)∧Aside0 (w'.heap[gb183]? = some (.cells #[(.slice A0_0 l0_0.length c0_0),(.slice A0_1 l0_1.length c0_1)] 33 (0,0)))∧Aside0 (Below w.heap.size w w'))
 case atStart=>exact ⟨(y184),(0),qc_,H',⟨nA_ _⟩,⟨(sw_ (Kd.S_mono HO186.out (fun _ hk=>hk.2)))⟩,⟨(kk_ BK183)⟩,⟨hB_⟩⟩
 case round =>
  clear H'
  obtain ⟨x3_1,x4_1,rfl,HA,HK1,HO_3,BK183,HB⟩:=hrel
  cases gk with
  | zero=>exact absurd HA.out (by simp [Z36.l0])
  | succ k1 =>
   have H:=HA.out
   clear HA
   simp only [Z36.l0] at H
   obtain ⟨t187,A5,H⟩:=bi_ H
   by_cases c6:x4_1 < t187
   ·rw [if_pos c6] at H
    have c6b0:=oC_ c6
    clear c6
    obtain ⟨t188,A7,H⟩:=bi_ H
    obtain ⟨⟨t191,t194,t197⟩,A8,H⟩:=bi_ H
    try dsimp only at H
    have c9:=cp_ H
    replace H:=ca_ H
    have LMc9:=A_ c9
    clear c9
    obtain ⟨y199,hy199⟩:∃ y_:List (S33),y_ = (x3_1 ++ [(⟨t191,t194⟩:S33)]):=⟨_,rfl⟩
    replace H:(Z36.l0 k1 y199 (wrap64 (x4_1 + 1)) l0_0 l0_1) = some r:=by first | (rw [hy199];exact H) | exact H
    have Ny199:=A_ hy199
    clear hy199
    have H':=A_ H
    clear H
    obtain ⟨hcz10_0,hcz10_1,hfz10_0,hfz10_1⟩:=c2_ BK183
    try go_wp2_with (first | ((with_reducible refine gA_ (f:=23) rfl ?_);refine gL_ (some 10) Try.func23 #[.agg #[.slice A0_0 l0_0.length c0_0,.slice A0_1 l0_1.length c0_1]] rfl qa_ ?_;(with_reducible refine (Z12.calls k1 _ _ l0_0 _ _ l0_1 t187 _ (cb_ HR0_0) HC0_0.out (cb_ HR0_1) HC0_1.out A5.out).mono ?_);rintro e w11 ⟨rfl,hb⟩;refine ⟨_,rfl,?_⟩;replace HO_3:=sb_ HO_3 hb;replace BK183:=bb_ BK183 hb;replace HB:=b1_ hb;clear hb))
    replace HO_3:=A_ (Kd.S_drew HO_3.out)
    replace BK183:=A_ (kB_ BK183.out)
    replace HB:=A_ (bC_ HB.out)
    refine start_ (n:=11) (S:=fun w'=>w'.cell? ⟨gb183,0,none⟩ = some (.slice A0_0 l0_0.length c0_0)∧w'.cell? ⟨gb183,1,none⟩ = some (.slice A0_1 l0_1.length c0_1)) (ds:=[]) (bl_ 11 0) (by kernel_rfl) rfl (by kernel_rfl) ⟨cz0_ BK183,cz1_ BK183⟩ (fun hHeld=>?_);refine with_tabW Z36.tab5 Z36.bits5 (fun HT_ HW_=>?_)
    generalize w11.drew = w12 at HO_3 BK183 HB hHeld ⊢
    refine pu_ 2 (some 17) (bl_ 11 4) HT_ ?_
    refine ta_ 0 (some 15) (bl_ 11 5) HT_ HW_ hHeld ?_
    refine ta_ 1 (some 16) (bl_ 11 7) HT_ HW_ hHeld ?_
    refine join_ (σ:=Value × Value × Value × Nat) 2 (bl_ 11 511) (fun s_=>[(18,s_.1),(19,.tuple #[.agg #[s_.2.1,s_.2.2.1],.bool t197]),(5,.pointer (some ⟨s_.2.2.2,0,none⟩)),(14,.tuple #[.agg #[s_.2.1,s_.2.2.1],.bool t197]),(20,.agg #[s_.2.1,s_.2.2.1]),(21,.bool t197)]) (fun s_ w'=>(w'.cell? ⟨gb183,0,none⟩ = some (.slice A0_0 l0_0.length c0_0)∧w'.cell? ⟨gb183,1,none⟩ = some (.slice A0_1 l0_1.length c0_1))∧(Kd.R (Kd.int .i64) 3 w' w.heap.size (fun k_=>some k_≠(s_.2.1:Value).ownBlock∧some k_≠(s_.2.2.1:Value).ownBlock) s_.1 t188)∧(Kd.R (Kd.int .i64) 3 w' w.heap.size (fun k_=>some k_≠(s_.1:Value).ownBlock∧some k_≠(s_.2.2.1:Value).ownBlock) s_.2.1 t191)∧(Kd.R (Kd.int .i64) 3 w' w.heap.size (fun k_=>some k_≠(s_.1:Value).ownBlock∧some k_≠(s_.2.1:Value).ownBlock) s_.2.2.1 t194)∧(Kd.S k33 33 w' w.heap.size (fun k_=>some k_≠(s_.1:Value).ownBlock∧some k_≠(s_.2.1:Value).ownBlock∧some k_≠(s_.2.2.1:Value).ownBlock∧k_≠gb183∧k_≠s_.2.2.2) u3 x3_1)∧(w'.heap[gb183]? = some (.cells #[.slice A0_0 l0_0.length c0_0,.slice A0_1 l0_1.length c0_1] 33 (0,0)))∧(w'.heap[s_.2.2.2]? = some (.cells #[.slice none 0 0,.slice none 0 0] 33 (0,0)))∧(w.heap.size≤s_.2.2.2)∧(w.heap.size≤s_.2.2.2)∧(gb183≠s_.2.2.2)∧(s_.2.2.2≠gb183)∧(Below w.heap.size w w')) ?_ ?_
    rotate_left
    ·intro hCont
     refine two_ (i:=3) (j:=8) (Ni:=some 18) (Nj:=some 5) (bl_ 11 15) (bl_ 11 263) rfl rfl rfl rfl (two_of HT_.out (by kernel_rfl)) (by decide) (by decide) (fun K hK=>?_) (fun K hK=>?_)
     ·skip
      refine gO_ Try.func108 #[.agg #[.slice A0_0 l0_0.length c0_0,.slice A0_1 l0_1.length c0_1],.int .i64 x4_1] (by rfl) rfl rfl qa_ ?_
      with_reducible refine (Z34.calls k1 _ _ l0_0 _ _ l0_1 x4_1 t188 _ (cb_ HR0_0) HC0_0.out (cb_ HR0_1) HC0_1.out A7.out).mono ?_
      rintro e w13 ⟨v189,rfl,ho0,hb⟩
      refine ⟨_,rfl,?_⟩
      replace HO_3:=A_ (Kd.S_elder' (ss_ HO_3) (Kd.R_base ho0) hb)
      have HO190:=rl_ w ho0
      replace BK183:=bb_ BK183 hb
      replace HB:=b1_ hb
      clear hb ho0
      obtain ⟨Ao14,co14,eo14⟩:=Kd.R_slice HO190.out
      (first|subst eo14|(injection eo14 with a_ b_ c_;have a_:=a_.symm;have c_:=c_.symm;clear b_;subst a_;subst c_))
      refine hK.out _ _ ⟨cz0_ BK183,cz1_ BK183⟩ (fun hHeld=>?_)
      clear hK K
      refine no_ (some 18) ?_
      refine two_ (i:=4) (j:=8) (Ni:=some 19) (Nj:=some 5) (bl_ 11 31) (bl_ 11 271) rfl rfl rfl rfl (two_of HT_.out (by kernel_rfl)) (by decide) (by decide) (fun K hK=>?_) (fun K hK=>?_)
      ·skip
       refine gO_ Try.func107 #[.agg #[.slice A0_0 l0_0.length c0_0,.slice A0_1 l0_1.length c0_1],.slice Ao14 t188.length co14] (by rfl) rfl rfl qa_ ?_
       with_reducible refine (Z7.calls k1 _ _ l0_0 _ _ l0_1 _ _ t188 t191 t194 t197 _ (cb_ HR0_0) HC0_0.out (cb_ HR0_1) HC0_1.out (cr_ HO190) ((Kd.R_reads' HO190.out).2.1) A8.out).mono ?_
       rintro e w15 ⟨v192,v195,rfl,ho0,ho1,hb⟩
       refine ⟨_,rfl,?_⟩
       replace HO_3:=A_ (Kd.S_mono (Kd.S_told (Kd.S_told (Kd.S_old (ss_ HO_3) hb) (Kd.R_base ho0)) (Kd.R_base ho1)) (fun _ h_=>h_.1))
       have HO193:=A_ (rE_ (Kd.R_new' ho0 (Kd.R_lt (rr_ HO190))) (bF_ hB_))
       have HO196:=A_ (rE_ (Kd.R_new' ho1 (Kd.R_lt (rr_ HO190))) (bF_ hB_))
       replace HO190:=A_ (Kd.R_mono (Kd.R_told (Kd.R_told (Kd.R_old (rr_ HO190) hb) (Kd.R_base ho0)) (Kd.R_base ho1)) (fun _ h_=>h_.1))
       replace BK183:=bb_ BK183 hb
       replace HB:=b1_ hb
       clear hb ho0 ho1
       refine hK.out _ _ ⟨cz0_ BK183,cz1_ BK183⟩ (fun hHeld=>?_)
       clear hK K
       refine no_ (some 19) ?_
       refine pu_ 5 (some 14) (bl_ 11 63) HT_ ?_
       refine pu_ 6 (some 20) (bl_ 11 127) HT_ ?_
       refine pu_ 7 (some 21) (bl_ 11 255) HT_ ?_
       refine on_ 8 (some 5) (bl_ 11 511) HT_ (fun K hK=>?_)
       refine box_step ?hg (N:=5) ?hd (cs:=#[.slice none 0 0,.slice none 0 0]) (t:=33) ?hr ?_;(case hd=>rfl);(case hg=>rfl);(case hr=>first | (go_simp;done) | (go_simp;rfl))
       intro gb198 hg w16 hbox hb
       replace HO_3:=A_ (Kd.S_below (Kd.S_elderB (ss_ HO_3) gb198 (Nat.le_of_eq hg.symm)) hb)
       replace HO190:=rb_ HO190 hb
       replace HO193:=rb_ HO193 hb
       replace HO196:=rb_ HO196 hb
       have BK198:=A_ hbox
       have GW198:=gw_ w hg
       have GE198:=GW198
       replace HB:=b1_ hb
       have NB183_198:=gN_ BK183 hg
       have NB198_183:=gP_ BK183 hg
       replace BK183:=bb_ BK183 hb
       clear hb hbox hg
       refine hK.out _ _ ⟨cz0_ BK183,cz1_ BK183⟩ (fun hHeld=>?_)
       clear hK K
       refine no_ (some 5) ?_
       exact norm_ (by simp only [putAll,Act.put,sA_,sB_,sC_]) (hCont (.slice Ao14 t188.length co14,v192,v195,gb198) _ ⟨hHeld,(rw_ (Kd.R_mono HO190.out (fun _ hk=>⟨hk.1.2,hk.2⟩))),(rw_ (Kd.R_mono HO193.out (fun _ hk=>⟨hk.2,hk.1⟩))),(rw_ (Kd.R_mono HO196.out (fun _ hk=>⟨hk.2,hk.1⟩))),(sw_ (Kd.S_mono HO_3.out (fun _ hk=>⟨hk.1.1.1.2,⟨hk.1.1.2,⟨hk.1.2,⟨hk.1.1.1.1,hk.2⟩⟩⟩⟩))),(kk_ BK183),(kk_ BK198),GW198.out,GE198.out,NB183_198.out,NB198_183.out,hB_⟩)
      ·skip
       refine box_step ?hg (N:=5) ?hd (cs:=#[.slice none 0 0,.slice none 0 0]) (t:=33) ?hr ?_;(case hd=>rfl);(case hg=>rfl);(case hr=>first | (go_simp;done) | (go_simp;rfl))
       intro gb198 hg w14 hbox hb
       replace HO_3:=A_ (Kd.S_below (Kd.S_elderB (ss_ HO_3) gb198 (Nat.le_of_eq hg.symm)) hb)
       replace HO190:=rb_ HO190 hb
       have BK198:=A_ hbox
       have GW198:=gw_ w hg
       have GE198:=GW198
       replace HB:=b1_ hb
       have NB183_198:=gN_ BK183 hg
       have NB198_183:=gP_ BK183 hg
       replace BK183:=bb_ BK183 hb
       clear hb hbox hg
       obtain ⟨Ao15,co15,eo15⟩:=Kd.R_slice HO190.out
       (first|subst eo15|(injection eo15 with a_ b_ c_;have a_:=a_.symm;have c_:=c_.symm;clear b_;subst a_;subst c_))
       refine hK.out _ _ ⟨cz0_ BK183,cz1_ BK183⟩ (fun hHeld=>?_)
       clear hK K
       refine no_ (some 5) ?_
       refine on_ 4 (some 19) (bl_ 11 287) HT_ (fun K hK=>?_)
       refine gO_ Try.func107 #[.agg #[.slice A0_0 l0_0.length c0_0,.slice A0_1 l0_1.length c0_1],.slice Ao15 t188.length co15] (by rfl) rfl rfl qa_ ?_
       with_reducible refine (Z7.calls k1 _ _ l0_0 _ _ l0_1 _ _ t188 t191 t194 t197 _ (cb_ HR0_0) HC0_0.out (cb_ HR0_1) HC0_1.out (cr_ HO190) ((Kd.R_reads' HO190.out).2.1) A8.out).mono ?_
       rintro e w16 ⟨v192,v195,rfl,ho0,ho1,hb⟩
       refine ⟨_,rfl,?_⟩
       replace HO_3:=A_ (Kd.S_mono (Kd.S_told (Kd.S_told (Kd.S_old (ss_ HO_3) hb) (Kd.R_base ho0)) (Kd.R_base ho1)) (fun _ h_=>h_.1))
       have HO193:=A_ (rE_ (Kd.R_new' ho0 (Kd.R_lt (rr_ HO190))) (bF_ hB_))
       have HO196:=A_ (rE_ (Kd.R_new' ho1 (Kd.R_lt (rr_ HO190))) (bF_ hB_))
       replace HO190:=A_ (Kd.R_mono (Kd.R_told (Kd.R_told (Kd.R_old (rr_ HO190) hb) (Kd.R_base ho0)) (Kd.R_base ho1)) (fun _ h_=>h_.1))
       replace BK183:=bb_ BK183 hb
       replace BK198:=bb_ BK198 hb
       replace HB:=b1_ hb
       clear hb ho0 ho1
       refine hK.out _ _ ⟨cz0_ BK183,cz1_ BK183⟩ (fun hHeld=>?_)
       clear hK K
       refine no_ (some 19) ?_
       refine pu_ 5 (some 14) (bl_ 11 319) HT_ ?_
       refine pu_ 6 (some 20) (bl_ 11 383) HT_ ?_
       refine pu_ 7 (some 21) (bl_ 11 511) HT_ ?_
       exact norm_ (by simp only [putAll,Act.put,sA_,sB_,sC_]) (hCont (.slice Ao15 t188.length co15,v192,v195,gb198) _ ⟨hHeld,(rw_ (Kd.R_mono HO190.out (fun _ hk=>⟨hk.1.2,hk.2⟩))),(rw_ (Kd.R_mono HO193.out (fun _ hk=>⟨hk.2,hk.1⟩))),(rw_ (Kd.R_mono HO196.out (fun _ hk=>⟨hk.2,hk.1⟩))),(sw_ (Kd.S_mono HO_3.out (fun _ hk=>⟨hk.1.1.1.2,⟨hk.1.2,⟨hk.2,⟨hk.1.1.1.1,hk.1.1.2⟩⟩⟩⟩))),(kk_ BK183),(kk_ BK198),GW198.out,GE198.out,NB183_198.out,NB198_183.out,hB_⟩)
     ·skip
      refine box_step ?hg (N:=5) ?hd (cs:=#[.slice none 0 0,.slice none 0 0]) (t:=33) ?hr ?_;(case hd=>rfl);(case hg=>rfl);(case hr=>first | (go_simp;done) | (go_simp;rfl))
      intro gb198 hg w13 hbox hb
      replace HO_3:=A_ (Kd.S_below (Kd.S_elderB (ss_ HO_3) gb198 (Nat.le_of_eq hg.symm)) hb)
      have BK198:=A_ hbox
      have GW198:=gw_ w hg
      have GE198:=GW198
      replace HB:=b1_ hb
      have NB183_198:=gN_ BK183 hg
      have NB198_183:=gP_ BK183 hg
      replace BK183:=bb_ BK183 hb
      clear hb hbox hg
      refine hK.out _ _ ⟨cz0_ BK183,cz1_ BK183⟩ (fun hHeld=>?_)
      clear hK K
      refine no_ (some 5) ?_
      refine on_ 3 (some 18) (bl_ 11 271) HT_ (fun K hK=>?_)
      refine gO_ Try.func108 #[.agg #[.slice A0_0 l0_0.length c0_0,.slice A0_1 l0_1.length c0_1],.int .i64 x4_1] (by rfl) rfl rfl qa_ ?_
      with_reducible refine (Z34.calls k1 _ _ l0_0 _ _ l0_1 x4_1 t188 _ (cb_ HR0_0) HC0_0.out (cb_ HR0_1) HC0_1.out A7.out).mono ?_
      rintro e w14 ⟨v189,rfl,ho0,hb⟩
      refine ⟨_,rfl,?_⟩
      replace HO_3:=A_ (Kd.S_elder' (ss_ HO_3) (Kd.R_base ho0) hb)
      have HO190:=rl_ w ho0
      replace BK183:=bb_ BK183 hb
      replace BK198:=bb_ BK198 hb
      replace HB:=b1_ hb
      clear hb ho0
      obtain ⟨Ao15,co15,eo15⟩:=Kd.R_slice HO190.out
      (first|subst eo15|(injection eo15 with a_ b_ c_;have a_:=a_.symm;have c_:=c_.symm;clear b_;subst a_;subst c_))
      refine hK.out _ _ ⟨cz0_ BK183,cz1_ BK183⟩ (fun hHeld=>?_)
      clear hK K
      refine no_ (some 18) ?_
      refine on_ 4 (some 19) (bl_ 11 287) HT_ (fun K hK=>?_)
      refine gO_ Try.func107 #[.agg #[.slice A0_0 l0_0.length c0_0,.slice A0_1 l0_1.length c0_1],.slice Ao15 t188.length co15] (by rfl) rfl rfl qa_ ?_
      with_reducible refine (Z7.calls k1 _ _ l0_0 _ _ l0_1 _ _ t188 t191 t194 t197 _ (cb_ HR0_0) HC0_0.out (cb_ HR0_1) HC0_1.out (cr_ HO190) ((Kd.R_reads' HO190.out).2.1) A8.out).mono ?_
      rintro e w16 ⟨v192,v195,rfl,ho0,ho1,hb⟩
      refine ⟨_,rfl,?_⟩
      replace HO_3:=A_ (Kd.S_mono (Kd.S_told (Kd.S_told (Kd.S_old (ss_ HO_3) hb) (Kd.R_base ho0)) (Kd.R_base ho1)) (fun _ h_=>h_.1))
      have HO193:=A_ (rE_ (Kd.R_new' ho0 (Kd.R_lt (rr_ HO190))) (bF_ hB_))
      have HO196:=A_ (rE_ (Kd.R_new' ho1 (Kd.R_lt (rr_ HO190))) (bF_ hB_))
      replace HO190:=A_ (Kd.R_mono (Kd.R_told (Kd.R_told (Kd.R_old (rr_ HO190) hb) (Kd.R_base ho0)) (Kd.R_base ho1)) (fun _ h_=>h_.1))
      replace BK183:=bb_ BK183 hb
      replace BK198:=bb_ BK198 hb
      replace HB:=b1_ hb
      clear hb ho0 ho1
      refine hK.out _ _ ⟨cz0_ BK183,cz1_ BK183⟩ (fun hHeld=>?_)
      clear hK K
      refine no_ (some 19) ?_
      refine pu_ 5 (some 14) (bl_ 11 319) HT_ ?_
      refine pu_ 6 (some 20) (bl_ 11 383) HT_ ?_
      refine pu_ 7 (some 21) (bl_ 11 511) HT_ ?_
      exact norm_ (by simp only [putAll,Act.put,sA_,sB_,sC_]) (hCont (.slice Ao15 t188.length co15,v192,v195,gb198) _ ⟨hHeld,(rw_ (Kd.R_mono HO190.out (fun _ hk=>⟨hk.1.2,hk.2⟩))),(rw_ (Kd.R_mono HO193.out (fun _ hk=>⟨hk.2,hk.1⟩))),(rw_ (Kd.R_mono HO196.out (fun _ hk=>⟨hk.2,hk.1⟩))),(sw_ (Kd.S_mono HO_3.out (fun _ hk=>⟨hk.1.1.2,⟨hk.1.2,⟨hk.2,⟨hk.1.1.1.1,hk.1.1.1.2⟩⟩⟩⟩))),(kk_ BK183),(kk_ BK198),GW198.out,GE198.out,NB183_198.out,NB198_183.out,hB_⟩)
    rintro ⟨v189,v192,v195,gb198⟩ w17 ⟨hS_,h0_,h1_,h2_,h3_,h4_,h5_,h6_,h7_,h8_,h9_,h10_⟩
    have n0_:Aside0 (Kd.R (Kd.int .i64) 3 w17 w.heap.size (fun k_=>some k_≠(v192:Value).ownBlock∧some k_≠(v195:Value).ownBlock) v189 t188):=⟨h0_⟩
    have n1_:Aside0 (Kd.R (Kd.int .i64) 3 w17 w.heap.size (fun k_=>some k_≠(v189:Value).ownBlock∧some k_≠(v195:Value).ownBlock) v192 t191):=⟨h1_⟩
    have n2_:Aside0 (Kd.R (Kd.int .i64) 3 w17 w.heap.size (fun k_=>some k_≠(v189:Value).ownBlock∧some k_≠(v192:Value).ownBlock) v195 t194):=⟨h2_⟩
    have n3_:Aside0 (Kd.S k33 33 w17 w.heap.size (fun k_=>some k_≠(v189:Value).ownBlock∧some k_≠(v192:Value).ownBlock∧some k_≠(v195:Value).ownBlock∧k_≠gb183∧k_≠gb198) u3 x3_1):=⟨h3_⟩
    have n4_:Aside0 (w17.heap[gb183]? = some (.cells #[.slice A0_0 l0_0.length c0_0,.slice A0_1 l0_1.length c0_1] 33 (0,0))):=⟨h4_⟩
    have n5_:Aside0 (w17.heap[gb198]? = some (.cells #[.slice none 0 0,.slice none 0 0] 33 (0,0))):=⟨h5_⟩
    have n6_:Aside0 (w.heap.size≤gb198):=⟨h6_⟩
    have n7_:Aside0 (w.heap.size≤gb198):=⟨h7_⟩
    have n8_:Aside0 (gb183≠gb198):=⟨h8_⟩
    have n9_:Aside0 (gb198≠gb183):=⟨h9_⟩
    have n10_:Aside0 (Below w.heap.size w w17):=⟨h10_⟩
    clear HO_3
    clear BK183
    clear HB
    clear h0_ h1_ h2_ h3_ h4_ h5_ h6_ h7_ h8_ h9_ h10_
    have HO190:=n0_
    have HO193:=n1_
    have HO196:=n2_
    have HO_3:=n3_
    have BK183:=n4_
    have BK198:=n5_
    have GW198:=n6_
    have GE198:=n7_
    have NB183_198:=n8_
    have NB198_183:=n9_
    have HB:=n10_
    clear n0_ n1_ n2_ n3_ n4_ n5_ n6_ n7_ n8_ n9_ n10_
    have hHeld:w17.cell? ⟨gb183,0,none⟩ = some (.slice A0_0 l0_0.length c0_0)∧w17.cell? ⟨gb183,1,none⟩ = some (.slice A0_1 l0_1.length c0_1):=hS_
    obtain ⟨Ao18,co18,eo18⟩:=Kd.R_slice HO193.out
    (first|subst eo18|(injection eo18 with a_ b_ c_;have a_:=a_.symm;have c_:=c_.symm;clear b_;subst a_;subst c_))
    obtain ⟨Ao20,co20,eo20⟩:=Kd.R_slice HO196.out
    (first|subst eo20|(injection eo20 with a_ b_ c_;have a_:=a_.symm;have c_:=c_.symm;clear b_;subst a_;subst c_))
    refine norm_ (a':=?_) ?_ ?_
    rotate_left
    ·simp only [putAll,Act.put,sA_,sB_,sC_]
     rfl
    refine on_ 9 (none) (bl_ 11 1023) HT_ (fun K hK=>?_)
    have hs19:w17.cell? ⟨gb198,0,none⟩ = some (.slice none 0 0):=cz0_ BK198
    have hfs19:=kD_ BK198.out 0
    have hns19_0:=NB183_198.out
    have hms19_0:=NB198_183.out
    have hs21:w17.cell? ⟨gb198,1,none⟩ = some (.slice none 0 0):=cz1_ BK198
    have hfs21:=kD_ BK198.out 1
    have hns21_0:=NB183_198.out
    have hms21_0:=NB198_183.out
    refine skip_ (w1:=?_) (by rfl) rfl ?_ ?_
    rotate_left
    ·go_simp
     rfl
    refine hK.out _ _ ⟨((cell_far (p:=⟨gb198,_,none⟩) NB183_198.out _).trans (((cell_far (p:=⟨gb198,_,none⟩) NB183_198.out _).trans (hHeld.1)))),((cell_far (p:=⟨gb198,_,none⟩) NB183_198.out _).trans (((cell_far (p:=⟨gb198,_,none⟩) NB183_198.out _).trans (hHeld.2))))⟩ (fun hHeld=>?_)
    clear hK K
    refine pu_ 10 (some 6) (bl_ 11 2047) HT_ ?_
    refine done_ (done_of HT_.out (by kernel_rfl)) ?_
    have n0_:Aside0 (Kd.S k33 33 ((w17.setCell ⟨gb198,0,none⟩ (.slice Ao18 t191.length co18)).setCell ⟨gb198,1,none⟩ (.slice Ao20 t194.length co20)) w.heap.size (fun k_=>some k_≠(v189:Value).ownBlock∧some k_≠(.slice Ao18 t191.length co18:Value).ownBlock∧some k_≠(.slice Ao20 t194.length co20:Value).ownBlock∧k_≠gb183∧k_≠gb198) u3 x3_1):=⟨(sw_ (Kd.S_mono (Kd.S_far (p:=⟨gb198,1,none⟩) (Kd.S_far (p:=⟨gb198,0,none⟩) (Kd.S_mono HO_3.out (fun k_ hk=>(⟨hk,hk.2.2.2.2⟩:_∧k_≠gb198))) (fun _ hk=>hk.2) (.slice Ao18 t191.length co18)) (fun _ hk=>hk.2) (.slice Ao20 t194.length co20)) (fun _ hk=>⟨hk.1.1,⟨hk.1.2.1,⟨hk.1.2.2.1,⟨hk.1.2.2.2.1,hk.1.2.2.2.2⟩⟩⟩⟩)))⟩
    have n1_:Aside0 (Kd.R (Kd.int .i64) 3 ((w17.setCell ⟨gb198,0,none⟩ (.slice Ao18 t191.length co18)).setCell ⟨gb198,1,none⟩ (.slice Ao20 t194.length co20)) w.heap.size (fun k_=>some k_≠(.slice Ao18 t191.length co18:Value).ownBlock∧some k_≠(.slice Ao20 t194.length co20:Value).ownBlock) v189 t188):=⟨(rw_ (Kd.R_mono (Kd.R_far (p:=⟨gb198,1,none⟩) (Kd.R_far (p:=⟨gb198,0,none⟩) (Kd.R_types HO190.out BK198.out (by decide)) (fun _ hk=>hk.2) (.slice Ao18 t191.length co18)) (fun _ hk=>hk.2) (.slice Ao20 t194.length co20)) (fun _ hk=>⟨hk.1.1,hk.1.2⟩)))⟩
    have n2_:Aside0 (Kd.R (Kd.int .i64) 3 ((w17.setCell ⟨gb198,0,none⟩ (.slice Ao18 t191.length co18)).setCell ⟨gb198,1,none⟩ (.slice Ao20 t194.length co20)) w.heap.size (fun k_=>some k_≠(v189:Value).ownBlock∧some k_≠(.slice Ao20 t194.length co20:Value).ownBlock) (.slice Ao18 t191.length co18) t191):=⟨(rw_ (Kd.R_mono (Kd.R_far (p:=⟨gb198,1,none⟩) (Kd.R_far (p:=⟨gb198,0,none⟩) (Kd.R_types HO193.out BK198.out (by decide)) (fun _ hk=>hk.2) (.slice Ao18 t191.length co18)) (fun _ hk=>hk.2) (.slice Ao20 t194.length co20)) (fun _ hk=>⟨hk.1.1,hk.1.2⟩)))⟩
    have n3_:Aside0 (Kd.R (Kd.int .i64) 3 ((w17.setCell ⟨gb198,0,none⟩ (.slice Ao18 t191.length co18)).setCell ⟨gb198,1,none⟩ (.slice Ao20 t194.length co20)) w.heap.size (fun k_=>some k_≠(v189:Value).ownBlock∧some k_≠(.slice Ao18 t191.length co18:Value).ownBlock) (.slice Ao20 t194.length co20) t194):=⟨(rw_ (Kd.R_mono (Kd.R_far (p:=⟨gb198,1,none⟩) (Kd.R_far (p:=⟨gb198,0,none⟩) (Kd.R_types HO196.out BK198.out (by decide)) (fun _ hk=>hk.2) (.slice Ao18 t191.length co18)) (fun _ hk=>hk.2) (.slice Ao20 t194.length co20)) (fun _ hk=>⟨hk.1.1,hk.1.2⟩)))⟩
    have n4_:Aside0 (((w17.setCell ⟨gb198,0,none⟩ (.slice Ao18 t191.length co18)).setCell ⟨gb198,1,none⟩ (.slice Ao20 t194.length co20)).heap[gb183]? = some (.cells #[.slice A0_0 l0_0.length c0_0,.slice A0_1 l0_1.length c0_1] 33 (0,0))):=⟨by (with_reducible repeat (first | refine kA_ ?_ _ | refine kB_ ?_ | refine kC_ ?_ _));refine blk_far ?_ NB183_198.out _;(with_reducible repeat (first | refine kA_ ?_ _ | refine kB_ ?_ | refine kC_ ?_ _));refine blk_far ?_ NB183_198.out _;(with_reducible repeat (first | refine kA_ ?_ _ | refine kB_ ?_ | refine kC_ ?_ _));exact BK183.out⟩
    have n5_:Aside0 (((w17.setCell ⟨gb198,0,none⟩ (.slice Ao18 t191.length co18)).setCell ⟨gb198,1,none⟩ (.slice Ao20 t194.length co20)).heap[gb198]? = some (.cells #[.slice Ao18 t191.length co18,.slice Ao20 t194.length co20] 33 (0,0))):=⟨qp_⟩
    have n6_:Aside0 (Below w.heap.size w ((w17.setCell ⟨gb198,0,none⟩ (.slice Ao18 t191.length co18)).setCell ⟨gb198,1,none⟩ (.slice Ao20 t194.length co20))):=⟨hB_⟩
    skip
    generalize ((w17.setCell ⟨gb198,0,none⟩ (.slice Ao18 t191.length co18)).setCell ⟨gb198,1,none⟩ (.slice Ao20 t194.length co20)) = w22 at n0_ n1_ n2_ n3_ n4_ n5_ n6_ ⊢
    have HO_3:=n0_
    have HO190:=n1_
    have HO193:=n2_
    have HO196:=n3_
    have BK183:=n4_
    have BK198:=n5_
    have HB:=n6_
    clear n0_ n1_ n2_ n3_ n4_ n5_ n6_
    have hnb23:=NB198_183.out
    have hnc23:=NB183_198.out
    obtain ⟨hcz24_0,hcz24_1,hfz24_0,hfz24_1⟩:=c2_ BK198
    try go_wp2_with (first | ((with_reducible refine gate_builtin (b:=.append) (xs:=#[.tmp 22,.tmp 24]) rfl ?_);at_builtin;refine Kd.S_append k33 (w0:=w) w.heap.size rfl (.tmp 22) (.tmp 24) 25 33 (.agg #[(.slice none 0 0),(.slice none 0 0)]) 48 rfl Try.underlying25 info33 rfl (by decide) (by omega) u3 x3_1 (⟨t191,t194⟩:S33) [.slice Ao18 t191.length co18,.slice Ao20 t194.length co20] (fun k_=>some k_≠(v189:Value).ownBlock∧k_≠gb183∧k_≠gb198) (fun k_=>some k_ = (.slice Ao18 t191.length co18:Value).ownBlock ∨ some k_ = (.slice Ao20 t194.length co20:Value).ownBlock) rfl rfl ?aP (fun k_ hk_=>hk_.elim (fun h_=>((Kd.R_mono (ok':=fun k_=>((fun k_=>some k_≠(v189:Value).ownBlock∧k_≠gb183∧k_≠gb198)) k_∧some k_≠(u3:Value).ownBlock) (Kd.R_types (Kd.R_types (Kd.R_apart' (HO193.out) (Kd.S_typed HO_3.out) (by decide)) BK183.out (by decide)) BK198.out (by decide)) (fun k_ hk=>⟨⟨hk.1.1.1.1,⟨hk.1.2,hk.2⟩⟩,hk.1.1.2⟩))).1 k_ h_.symm) (fun h_=>((Kd.R_mono (ok':=fun k_=>((fun k_=>some k_≠(v189:Value).ownBlock∧k_≠gb183∧k_≠gb198)) k_∧some k_≠(u3:Value).ownBlock) (Kd.R_types (Kd.R_types (Kd.R_apart' (HO196.out) (Kd.S_typed HO_3.out) (by decide)) BK183.out (by decide)) BK198.out (by decide)) (fun k_ hk=>⟨⟨hk.1.1.1.1,⟨hk.1.2,hk.2⟩⟩,hk.1.1.2⟩))).1 k_ h_.symm)) ?aF ?aO ?aB ?aS ?aL ?_;(case aP=>exact k33_mkM _ _ _ (⟨t191,t194⟩:S33) (Kd.R_mono (Kd.R_tight rfl (Kd.R_mono (ok':=fun k_=>((fun k_=>some k_≠(v189:Value).ownBlock∧k_≠gb183∧k_≠gb198)) k_∧some k_≠(u3:Value).ownBlock) (Kd.R_types (Kd.R_types (Kd.R_apart' (HO193.out) (Kd.S_typed HO_3.out) (by decide)) BK183.out (by decide)) BK198.out (by decide)) (fun k_ hk=>⟨⟨hk.1.1.1.1,⟨hk.1.2,hk.2⟩⟩,hk.1.1.2⟩))) (fun _ h_=>Or.inl h_)) (Kd.R_mono (Kd.R_tight rfl (Kd.R_mono (ok':=fun k_=>((fun k_=>some k_≠(v189:Value).ownBlock∧k_≠gb183∧k_≠gb198)) k_∧some k_≠(u3:Value).ownBlock) (Kd.R_types (Kd.R_types (Kd.R_apart' (HO196.out) (Kd.S_typed HO_3.out) (by decide)) BK183.out (by decide)) BK198.out (by decide)) (fun k_ hk=>⟨⟨hk.1.1.1.1,⟨hk.1.2,hk.2⟩⟩,hk.1.1.2⟩))) (fun _ h_=>Or.inr (h_))) (fun k_ h_ e_=>(HO193.out.1 k_ h_).2 e_.symm));(case aB=>exact hB_);(case aF=>exact (fun k_ hk=>⟨Kd.fresh' (Kd.R_lt (rr_ HO190)) k_ hk,Kd.freshB (kk_ BK183) k_ hk,Kd.freshB (kk_ BK198) k_ hk⟩));(case aO=>exact (sw_ (Kd.S_mono HO_3.out (fun k_ hk=>⟨⟨hk.1,⟨hk.2.2.2.1,hk.2.2.2.2⟩⟩,fun e_=>e_.elim (fun h_=>hk.2.1 h_) (fun h_=>hk.2.2.1 h_)⟩))));(case aS=>exact (bF_ hB_));(case aL=>have:=LMc9.out;omega);intro v200 w25 ho hb hg hat;rw [← Ny199.out] at ho;replace BK183:=A_ (blk_grown (kk_ BK183) hg (Kd.S_away HO_3.out (fun _ hk=>hk.2.2.2.1)));replace HO190:=A_ (Kd.R_over' (rr_ HO190) (Kd.S_typed (ss_ HO_3)) (by decide) hg);replace BK198:=A_ (blk_grown (kk_ BK198) hg (Kd.S_away HO_3.out (fun _ hk=>hk.2.2.2.2)));replace HB:=A_ hb;have HO201:=A_ ho;clear HO_3 HO193 HO196;clear ho hb hg hat))
    go_roundg k1
    case measure=>have:=HK1.out;omega
    case rel=>exact ⟨(y199),(wrap64 (x4_1 + 1)),qc_,H',⟨by have:=HK1.out;omega⟩,⟨(sw_ (Kd.S_mono HO201.out (fun _ hk=>hk.2.1)))⟩,⟨(kk_ BK183)⟩,⟨hB_⟩⟩
   ·rw [if_neg c6] at H
    have c6b0:=oD_ c6
    clear c6
    obtain rfl:=Option.some.inj H
    obtain ⟨hcz26_0,hcz26_1,hfz26_0,hfz26_1⟩:=c2_ BK183
    go_wp2_with (first | ((with_reducible refine gA_ (f:=23) rfl ?_);refine gL_ (some 10) Try.func23 #[.agg #[.slice A0_0 l0_0.length c0_0,.slice A0_1 l0_1.length c0_1]] rfl qa_ ?_;(with_reducible refine (Z12.calls k1 _ _ l0_0 _ _ l0_1 t187 _ (cb_ HR0_0) HC0_0.out (cb_ HR0_1) HC0_1.out A5.out).mono ?_);rintro e w27 ⟨rfl,hb⟩;refine ⟨_,rfl,?_⟩;replace HO_3:=sb_ HO_3 hb;replace BK183:=bb_ BK183 hb;replace HB:=b1_ hb;clear hb))
    go_ret
    exact ⟨_,qb_,(sw_ (Kd.S_mono HO_3.out (fun _ hk=>trivial))),hB_⟩
def Z45.f (a0:Int):Option (Bool):=some (a0 != a0)
set_option maxHeartbeats 8000000 in
set_option maxRecDepth 100000 in
theorem Z45.calls (a0:Int) (r:Bool) (w:World) (h:Z45.f a0 = some r) :
  Calls Try.prog 149 #[.int .i64 a0] w fun e w'=>e = .returned (.bool r)∧Drawn0 w w':=by
 have H:=h
 unfold Z45.f at H
 clear h
 obtain rfl:=Option.some.inj H
 go_enter Try.func149,Try.ntmps149
 go_wp2
 go_ret
 exact ⟨qc_,by repeat (first | exact Drawn0.refl _ | apply Drawn0.step)⟩
def Z26.f (a0:Int) (a1:Int):Option (Int):=(Z45.f a0).bind fun t202=>((Z45.f a1).bind fun t203=>(if t202 = true then (if t203 = true then (some 0) else (some (-1))) else (if t203 = true then (some 1) else (if a0 < a1 then (some (-1)) else (if a0 > a1 then (some 1) else (some 0))))))
set_option maxHeartbeats 8000000 in
set_option maxRecDepth 100000 in
theorem Z26.calls (a0:Int) (a1:Int) (r:Int) (w:World) (h:Z26.f a0 a1 = some r) :
  Calls Try.prog 105 #[.int .i64 a0,.int .i64 a1] w fun e w'=>e = .returned (.int .i64 r)∧Drawn0 w w':=by
 have H:=h
 unfold Z26.f at H
 clear h
 obtain ⟨t202,A3,H⟩:=bi_ H
 obtain ⟨t203,A4,H⟩:=bi_ H
 by_cases c5:t202 = true
 ·subst c5
  rw [if_pos rfl] at H
  by_cases c6:t203 = true
  ·subst c6
   rw [if_pos rfl] at H
   obtain rfl:=Option.some.inj H
   go_enter Try.func105,Try.ntmps105
   go_wp2_with (first | ((with_reducible refine gA_ (f:=149) rfl ?_);refine gL_ (some 8) Try.func149 #[.int .i64 a0] rfl qa_ ?_;(with_reducible refine (Z45.calls a0 true _ A3.out).mono ?_);rintro e w' ⟨rfl,⟨nd,rfl⟩⟩;refine ⟨_,rfl,?_⟩) | ((with_reducible refine gA_ (f:=149) rfl ?_);refine gL_ (some 10) Try.func149 #[.int .i64 a1] rfl qa_ ?_;(with_reducible refine (Z45.calls a1 true _ A4.out).mono ?_);rintro e w' ⟨rfl,⟨nd,rfl⟩⟩;refine ⟨_,rfl,?_⟩))
   go_ret
   exact ⟨qc_,by repeat (first | exact Drawn0.refl _ | apply Drawn0.step)⟩
  ·replace c6:=Bool.eq_false_iff.mpr c6
   subst c6
   have H1:(some (-1)) = some r:=by rw [if_neg (show ¬ (false = true) by decide)] at H;exact H
   clear H
   have H:=H1
   clear H1
   obtain rfl:=Option.some.inj H
   go_enter Try.func105,Try.ntmps105
   go_wp2_with (first | ((with_reducible refine gA_ (f:=149) rfl ?_);refine gL_ (some 8) Try.func149 #[.int .i64 a0] rfl qa_ ?_;(with_reducible refine (Z45.calls a0 true _ A3.out).mono ?_);rintro e w' ⟨rfl,⟨nd,rfl⟩⟩;refine ⟨_,rfl,?_⟩) | ((with_reducible refine gA_ (f:=149) rfl ?_);refine gL_ (some 10) Try.func149 #[.int .i64 a1] rfl qa_ ?_;(with_reducible refine (Z45.calls a1 false _ A4.out).mono ?_);rintro e w' ⟨rfl,⟨nd,rfl⟩⟩;refine ⟨_,rfl,?_⟩))
   go_ret
   exact ⟨qc_,by repeat (first | exact Drawn0.refl _ | apply Drawn0.step)⟩
 ·replace c5:=Bool.eq_false_iff.mpr c5
  subst c5
  have H1:(if t203 = true then (some 1) else (if a0 < a1 then (some (-1)) else (if a0 > a1 then (some 1) else (some 0)))) = some r:=by rw [if_neg (show ¬ (false = true) by decide)] at H;exact H
  clear H
  have H:=H1
  clear H1
  by_cases c7:t203 = true
  ·subst c7
   rw [if_pos rfl] at H
   obtain rfl:=Option.some.inj H
   go_enter Try.func105,Try.ntmps105
   go_wp2_with (first | ((with_reducible refine gA_ (f:=149) rfl ?_);refine gL_ (some 8) Try.func149 #[.int .i64 a0] rfl qa_ ?_;(with_reducible refine (Z45.calls a0 false _ A3.out).mono ?_);rintro e w' ⟨rfl,⟨nd,rfl⟩⟩;refine ⟨_,rfl,?_⟩) | ((with_reducible refine gA_ (f:=149) rfl ?_);refine gL_ (some 10) Try.func149 #[.int .i64 a1] rfl qa_ ?_;(with_reducible refine (Z45.calls a1 true _ A4.out).mono ?_);rintro e w' ⟨rfl,⟨nd,rfl⟩⟩;refine ⟨_,rfl,?_⟩))
   go_ret
   exact ⟨qc_,by repeat (first | exact Drawn0.refl _ | apply Drawn0.step)⟩
  ·replace c7:=Bool.eq_false_iff.mpr c7
   subst c7
   have H1:(if a0 < a1 then (some (-1)) else (if a0 > a1 then (some 1) else (some 0))) = some r:=by rw [if_neg (show ¬ (false = true) by decide)] at H;exact H
   clear H
   have H:=H1
   clear H1
   by_cases c8:a0 < a1
   ·rw [if_pos c8] at H
    have c8b0:=oC_ c8
    clear c8
    obtain rfl:=Option.some.inj H
    go_enter Try.func105,Try.ntmps105
    go_wp2_with (first | ((with_reducible refine gA_ (f:=149) rfl ?_);refine gL_ (some 8) Try.func149 #[.int .i64 a0] rfl qa_ ?_;(with_reducible refine (Z45.calls a0 false _ A3.out).mono ?_);rintro e w' ⟨rfl,⟨nd,rfl⟩⟩;refine ⟨_,rfl,?_⟩) | ((with_reducible refine gA_ (f:=149) rfl ?_);refine gL_ (some 10) Try.func149 #[.int .i64 a1] rfl qa_ ?_;(with_reducible refine (Z45.calls a1 false _ A4.out).mono ?_);rintro e w' ⟨rfl,⟨nd,rfl⟩⟩;refine ⟨_,rfl,?_⟩))
    go_ret
    exact ⟨qc_,by repeat (first | exact Drawn0.refl _ | apply Drawn0.step)⟩
   ·rw [if_neg c8] at H
    have c8b0:=oD_ c8
    clear c8
    by_cases c9:a0 > a1
    ·rw [if_pos c9] at H
     have c9b0:decide (a1 < a0) = true:=oC_ c9
     clear c9
     obtain rfl:=Option.some.inj H
     go_enter Try.func105,Try.ntmps105
     go_wp2_with (first | ((with_reducible refine gA_ (f:=149) rfl ?_);refine gL_ (some 8) Try.func149 #[.int .i64 a0] rfl qa_ ?_;(with_reducible refine (Z45.calls a0 false _ A3.out).mono ?_);rintro e w' ⟨rfl,⟨nd,rfl⟩⟩;refine ⟨_,rfl,?_⟩) | ((with_reducible refine gA_ (f:=149) rfl ?_);refine gL_ (some 10) Try.func149 #[.int .i64 a1] rfl qa_ ?_;(with_reducible refine (Z45.calls a1 false _ A4.out).mono ?_);rintro e w' ⟨rfl,⟨nd,rfl⟩⟩;refine ⟨_,rfl,?_⟩))
     go_ret
     exact ⟨qc_,by repeat (first | exact Drawn0.refl _ | apply Drawn0.step)⟩
    ·rw [if_neg c9] at H
     have c9b0:decide (a1 < a0) = false:=oD_ c9
     clear c9
     obtain rfl:=Option.some.inj H
     go_enter Try.func105,Try.ntmps105
     go_wp2_with (first | ((with_reducible refine gA_ (f:=149) rfl ?_);refine gL_ (some 8) Try.func149 #[.int .i64 a0] rfl qa_ ?_;(with_reducible refine (Z45.calls a0 false _ A3.out).mono ?_);rintro e w' ⟨rfl,⟨nd,rfl⟩⟩;refine ⟨_,rfl,?_⟩) | ((with_reducible refine gA_ (f:=149) rfl ?_);refine gL_ (some 10) Try.func149 #[.int .i64 a1] rfl qa_ ?_;(with_reducible refine (Z45.calls a1 false _ A4.out).mono ?_);rintro e w' ⟨rfl,⟨nd,rfl⟩⟩;refine ⟨_,rfl,?_⟩))
     go_ret
     exact ⟨qc_,by repeat (first | exact Drawn0.refl _ | apply Drawn0.step)⟩
def Z2.l0:Nat→List Int→List Int→List Int→Int→Int→Option (Int)
 | 0,_,_,_,_,_=>none
 | k + 1,x0,x1,x9,x10,x11=>if x11 < x10 then (if 0≤x11 then (if x11 < (x9.length:Int) then (if x11 ≥ (x1.length:Int) then (some 1) else (if x11 < (x1.length:Int) then ((Z26.f (rd x9 x11) (rd x1 x11)).bind fun t206=>(if t206 = 0 then (Z2.l0 k x0 x1 x9 x10 (wrap64 (x11 + 1))) else (some t206))) else (none))) else (none)) else (none)) else (if (x0.length:Int) < (x1.length:Int) then (some (-1)) else (some 0))
def Z2.f (k:Nat) (l0:List Int) (l1:List Int):Option (Int):=Z2.l0 k l0 l1 l0 (l0.length:Int) 0
theorem Z2.mono_l:∀ k,(∀ y0 y1 y2 y3 y4,LeO (Z2.l0 k y0 y1 y2 y3 y4) (Z2.l0 (k + 1) y0 y1 y2 y3 y4))
 | 0=>fun _ _ _ _ _ r h=>by simp [Z2.l0] at h
 | k + 1=>by
  have ih0:=Z2.mono_l k
  ·intro y0 y1 y2 y3 y4
   unfold Z2.l0
   repeat' first|exact ih0 _ _ _ _ _|exact lo_|refine LeO.ite ?_ ?_|refine LeO.bind ?_ (fun _=>?_)
theorem Z2.mono:∀ a0 a1 k,LeO (Z2.f k a0 a1) (Z2.f (k + 1) a0 a1):=by
 intro a0 a1 k
 have ih0:=Z2.mono_l k
 unfold Z2.f
 repeat' first|exact ih0 _ _ _ _ _|exact lo_|refine LeO.ite ?_ ?_|refine LeO.bind ?_ (fun _=>?_)
set_option maxHeartbeats 8000000 in
set_option maxRecDepth 100000 in
theorem Z2.calls (k:Nat) (A0:Option Addr) (c0:Nat) (l0:List Int) (A1:Option Addr) (c1:Nat) (l1:List Int) (r:Int) (w:World) (hr0:Kd.C (Kd.int .i64) w A0 l0.length l0) (hc0:l0.length≤c0) (hr1:Kd.C (Kd.int .i64) w A1 l1.length l1) (hc1:l1.length≤c1) (h:Z2.f k l0 l1 = some r) :
  Calls Try.prog 54 #[.slice A0 l0.length c0,.slice A1 l1.length c1] w fun e w'=>e = .returned (.int .i64 r)∧Drawn0 w w':=by
 have HR0:=A_ hr0
 have HC0:=A_ hc0
 clear hr0 hc0
 have HR1:=A_ hr1
 have HC1:=A_ hc1
 clear hr1 hc1
 have H:=h
 unfold Z2.f at H
 clear h
 have H':=A_ H
 clear H
 go_enter Try.func54,Try.ntmps54
 go_wp2
 go_loopg [11] k (fun kq v11 w'=>∃ (x11_1:Int),v11 = .int .i64 x11_1∧Aside0 (Z2.l0 kq l0 l1 l0 (l0.length:Int) x11_1 = some r)∧Aside0 (kq≤k)∧Drawn0 w w')
 case atStart=>exact ⟨(0),qc_,H',⟨nA_ _⟩,by repeat (first | exact Drawn0.refl _ | apply Drawn0.step)⟩
 case round =>
  clear H'
  obtain ⟨x11_1,rfl,HA,HK1,⟨m1,rfl⟩⟩:=hrel
  cases gk with
  | zero=>exact absurd HA.out (by simp [Z2.l0])
  | succ k1 =>
   have H:=HA.out
   clear HA
   simp only [Z2.l0] at H
   by_cases c3:x11_1 < (l0.length:Int)
   ·rw [if_pos c3] at H
    have c3b0:=oC_ c3
    clear c3
    replace H:=cx_ H;obtain ⟨c4b0,H⟩:=H
    replace H:=cx_ H;obtain ⟨c5b0,H⟩:=H
    by_cases c6:x11_1 ≥ (l1.length:Int)
    ·rw [if_pos c6] at H
     have c6b0:decide ((l1.length:Int)≤x11_1) = true:=oC_ c6
     clear c6
     obtain rfl:=Option.some.inj H
     have p204:0≤(x11_1:Int):=oB_ qe_
     have q204:x11_1 < (l0.length:Int):=oB_ qe_
     obtain ⟨ad204,e204,hx204_0⟩:=Kd.at_int HR0.out x11_1 p204 q204
     cases e204
     replace p204:=eq_true p204
     replace q204:=eq_true q204
     go_wp2
     go_ret
     exact ⟨qc_,by repeat (first | exact Drawn0.refl _ | apply Drawn0.step)⟩
    ·rw [if_neg c6] at H
     have c6b0:decide ((l1.length:Int)≤x11_1) = false:=oD_ c6
     clear c6
     replace H:=cx_ H;obtain ⟨c7b0,H⟩:=H
     obtain ⟨t206,A8,H⟩:=bi_ H
     by_cases c9:t206 = 0
     ·rw [if_pos c9] at H
      have c9b0:(t206 == 0) = true:=beq_iff_eq.mpr c9
      have c9b1:(t206 != 0) = false:=bne_eq_false_iff_eq.mpr c9
      clear c9
      have H':=A_ H
      clear H
      have p204:0≤(x11_1:Int):=oB_ qe_
      have q204:x11_1 < (l0.length:Int):=oB_ qe_
      obtain ⟨ad204,e204,hx204_0⟩:=Kd.at_int HR0.out x11_1 p204 q204
      cases e204
      replace p204:=eq_true p204
      replace q204:=eq_true q204
      have p205:0≤(x11_1:Int):=oB_ qe_
      have q205:x11_1 < (l1.length:Int):=oB_ qe_
      obtain ⟨ad205,e205,hx205_0⟩:=Kd.at_int HR1.out x11_1 p205 q205
      cases e205
      replace p205:=eq_true p205
      replace q205:=eq_true q205
      go_wp2_with (first | ((with_reducible refine gA_ (f:=105) rfl ?_);refine gL_ (some 26) Try.func105 #[.int .i64 (rd l0 x11_1),.int .i64 (rd l1 x11_1)] rfl qa_ ?_;(with_reducible refine (Z26.calls (rd l0 x11_1) (rd l1 x11_1) t206 _ A8.out).mono ?_);rintro e w' ⟨rfl,⟨nd,rfl⟩⟩;refine ⟨_,rfl,?_⟩))
      go_roundg k1
      case measure=>have:=HK1.out;omega
      case rel=>exact ⟨(wrap64 (x11_1 + 1)),qc_,H',⟨by have:=HK1.out;omega⟩,by repeat (first | exact Drawn0.refl _ | apply Drawn0.step)⟩
     ·rw [if_neg c9] at H
      have c9b0:(t206 == 0) = false:=beq_eq_false_iff_ne.mpr c9
      have c9b1:(t206 != 0) = true:=bne_iff_ne.mpr c9
      obtain rfl:=Option.some.inj H
      have p204:0≤(x11_1:Int):=oB_ qe_
      have q204:x11_1 < (l0.length:Int):=oB_ qe_
      obtain ⟨ad204,e204,hx204_0⟩:=Kd.at_int HR0.out x11_1 p204 q204
      cases e204
      replace p204:=eq_true p204
      replace q204:=eq_true q204
      have p205:0≤(x11_1:Int):=oB_ qe_
      have q205:x11_1 < (l1.length:Int):=oB_ qe_
      obtain ⟨ad205,e205,hx205_0⟩:=Kd.at_int HR1.out x11_1 p205 q205
      cases e205
      replace p205:=eq_true p205
      replace q205:=eq_true q205
      go_wp2_with (first | ((with_reducible refine gA_ (f:=105) rfl ?_);refine gL_ (some 26) Try.func105 #[.int .i64 (rd l0 x11_1),.int .i64 (rd l1 x11_1)] rfl qa_ ?_;(with_reducible refine (Z26.calls (rd l0 x11_1) (rd l1 x11_1) t206 _ A8.out).mono ?_);rintro e w' ⟨rfl,⟨nd,rfl⟩⟩;refine ⟨_,rfl,?_⟩))
      go_ret
      exact ⟨qc_,by repeat (first | exact Drawn0.refl _ | apply Drawn0.step)⟩
   ·rw [if_neg c3] at H
    have c3b0:=oD_ c3
    clear c3
    by_cases c10:(l0.length:Int) < (l1.length:Int)
    ·rw [if_pos c10] at H
     have c10b0:=oC_ c10
     have c10b1:decide (l0.length < l1.length) = true:=oC_ (Int.ofNat_lt.mp c10)
     clear c10
     obtain rfl:=Option.some.inj H
     go_wp2
     go_ret
     exact ⟨qc_,by repeat (first | exact Drawn0.refl _ | apply Drawn0.step)⟩
    ·rw [if_neg c10] at H
     have c10b0:=oD_ c10
     have c10b1:decide (l0.length < l1.length) = false:=oD_ (fun h=>c10 (Int.ofNat_lt.mpr h))
     clear c10
     obtain rfl:=Option.some.inj H
     go_wp2
     go_ret
     exact ⟨qc_,by repeat (first | exact Drawn0.refl _ | apply Drawn0.step)⟩
def Z3.f (k:Nat) (l0_0:List Int) (l0_1:List Int) (l1_0:List Int) (l1_1:List Int):Option (Int):=(Z2.f k l0_0 l1_0).bind fun t209=>(if t209 = 0 then ((Z2.f k l0_1 l1_1).bind fun t210=>(some t210)) else (some t209))
theorem Z3.mono:∀ a0 a1 a2 a3 k,LeO (Z3.f k a0 a1 a2 a3) (Z3.f (k + 1) a0 a1 a2 a3):=by
 intro a0 a1 a2 a3 k
 unfold Z3.f
 repeat' first|exact Z2.mono _ _ _|exact lo_|refine LeO.ite ?_ ?_|refine LeO.bind ?_ (fun _=>?_)
set_option maxHeartbeats 8000000 in
set_option maxRecDepth 100000 in
theorem Z3.calls (k:Nat) (A0_0:Option Addr) (c0_0:Nat) (l0_0:List Int) (A0_1:Option Addr) (c0_1:Nat) (l0_1:List Int) (A1_0:Option Addr) (c1_0:Nat) (l1_0:List Int) (A1_1:Option Addr) (c1_1:Nat) (l1_1:List Int) (r:Int) (w:World) (hr0_0:Kd.C (Kd.int .i64) w A0_0 l0_0.length l0_0) (hc0_0:l0_0.length≤c0_0) (hr0_1:Kd.C (Kd.int .i64) w A0_1 l0_1.length l0_1) (hc0_1:l0_1.length≤c0_1) (hr1_0:Kd.C (Kd.int .i64) w A1_0 l1_0.length l1_0) (hc1_0:l1_0.length≤c1_0) (hr1_1:Kd.C (Kd.int .i64) w A1_1 l1_1.length l1_1) (hc1_1:l1_1.length≤c1_1) (h:Z3.f k l0_0 l0_1 l1_0 l1_1 = some r) :
  Calls Try.prog 60 #[.agg #[.slice A0_0 l0_0.length c0_0,.slice A0_1 l0_1.length c0_1],.agg #[.slice A1_0 l1_0.length c1_0,.slice A1_1 l1_1.length c1_1]] w fun e w'=>e = .returned (.int .i64 r)∧Below w.heap.size w w':=by
 have hu33:=Try.underlying33
 have HR0_0:=A_ hr0_0
 have HC0_0:=A_ hc0_0
 clear hr0_0 hc0_0
 have HR0_1:=A_ hr0_1
 have HC0_1:=A_ hc0_1
 clear hr0_1 hc0_1
 have HR1_0:=A_ hr1_0
 have HC1_0:=A_ hc1_0
 clear hr1_0 hc1_0
 have HR1_1:=A_ hr1_1
 have HC1_1:=A_ hc1_1
 clear hr1_1 hc1_1
 have HB:=A_ (Below.refl w.heap.size w)
 have H:=h
 unfold Z3.f at H
 clear h
 obtain ⟨t209,A3,H⟩:=bi_ H
 by_cases c4:t209 = 0
 ·rw [if_pos c4] at H
  have c4b0:(t209 == 0) = true:=beq_iff_eq.mpr c4
  have c4b1:(t209 != 0) = false:=bne_eq_false_iff_eq.mpr c4
  clear c4
  obtain ⟨t210,A5,H⟩:=bi_ H
  obtain rfl:=Option.some.inj H
  go_enter Try.func60,Try.ntmps60
  go_wp2_with (first | ((with_reducible refine gB_ (N:=2) rfl ?_);refine bx_ 2 #[.slice A0_0 l0_0.length c0_0,.slice A0_1 l0_1.length c0_1] 33 ?_;intro gb207 hg w6 hbox hb;have BK207:=A_ hbox;have GW207:=gw_ w hg;have GE207:=GW207;replace HB:=b1_ hb;clear hb hbox hg) | ((with_reducible refine gB_ (N:=3) rfl ?_);refine bx_ 3 #[.slice A1_0 l1_0.length c1_0,.slice A1_1 l1_1.length c1_1] 33 ?_;intro gb208 hg w7 hbox hb;have BK208:=A_ hbox;have GW208:=gw_ w hg;have GE208:=GW208;replace HB:=b1_ hb;have NB207_208:=gN_ BK207 hg;have NB208_207:=gP_ BK207 hg;replace BK207:=bb_ BK207 hb;clear hb hbox hg;have hnb8:=NB207_208.out;have hnc8:=NB208_207.out;obtain ⟨hcz9_0,hcz9_1,hfz9_0,hfz9_1⟩:=c2_ BK207;obtain ⟨hcz10_0,hcz10_1,hfz10_0,hfz10_1⟩:=c2_ BK208) | ((with_reducible refine gA_ (f:=54) rfl ?_);refine gL_ (some 10) Try.func54 #[.slice A0_0 l0_0.length c0_0,.slice A1_0 l1_0.length c1_0] rfl qa_ ?_;(with_reducible refine (Z2.calls k _ _ l0_0 _ _ l1_0 t209 _ (cb_ HR0_0) HC0_0.out (cb_ HR1_0) HC1_0.out A3.out).mono ?_);rintro e w' ⟨rfl,⟨nd,rfl⟩⟩;refine ⟨_,rfl,?_⟩) | ((with_reducible refine gA_ (f:=54) rfl ?_);refine gL_ (some 18) Try.func54 #[.slice A0_1 l0_1.length c0_1,.slice A1_1 l1_1.length c1_1] rfl qa_ ?_;(with_reducible refine (Z2.calls k _ _ l0_1 _ _ l1_1 t210 _ (cw_ (cD_ HR0_1.out hB_)) HC0_1.out (cw_ (cD_ HR1_1.out hB_)) HC1_1.out A5.out).mono ?_);rintro e w' ⟨rfl,⟨nd,rfl⟩⟩;refine ⟨_,rfl,?_⟩))
  go_ret
  exact ⟨qb_,hB_⟩
 ·rw [if_neg c4] at H
  have c4b0:(t209 == 0) = false:=beq_eq_false_iff_ne.mpr c4
  have c4b1:(t209 != 0) = true:=bne_iff_ne.mpr c4
  obtain rfl:=Option.some.inj H
  go_enter Try.func60,Try.ntmps60
  go_wp2_with (first | ((with_reducible refine gB_ (N:=2) rfl ?_);refine bx_ 2 #[.slice A0_0 l0_0.length c0_0,.slice A0_1 l0_1.length c0_1] 33 ?_;intro gb207 hg w11 hbox hb;have BK207:=A_ hbox;have GW207:=gw_ w hg;have GE207:=GW207;replace HB:=b1_ hb;clear hb hbox hg) | ((with_reducible refine gB_ (N:=3) rfl ?_);refine bx_ 3 #[.slice A1_0 l1_0.length c1_0,.slice A1_1 l1_1.length c1_1] 33 ?_;intro gb208 hg w12 hbox hb;have BK208:=A_ hbox;have GW208:=gw_ w hg;have GE208:=GW208;replace HB:=b1_ hb;have NB207_208:=gN_ BK207 hg;have NB208_207:=gP_ BK207 hg;replace BK207:=bb_ BK207 hb;clear hb hbox hg;have hnb13:=NB207_208.out;have hnc13:=NB208_207.out;obtain ⟨hcz14_0,hcz14_1,hfz14_0,hfz14_1⟩:=c2_ BK207;obtain ⟨hcz15_0,hcz15_1,hfz15_0,hfz15_1⟩:=c2_ BK208) | ((with_reducible refine gA_ (f:=54) rfl ?_);refine gL_ (some 10) Try.func54 #[.slice A0_0 l0_0.length c0_0,.slice A1_0 l1_0.length c1_0] rfl qa_ ?_;(with_reducible refine (Z2.calls k _ _ l0_0 _ _ l1_0 t209 _ (cb_ HR0_0) HC0_0.out (cb_ HR1_0) HC1_0.out A3.out).mono ?_);rintro e w' ⟨rfl,⟨nd,rfl⟩⟩;refine ⟨_,rfl,?_⟩))
  go_ret
  exact ⟨qb_,hB_⟩
def Z29.l0:Nat→List (S33)→Int→List Int→List Int→Option (List Int × List Int)
 | 0,_,_,_,_=>none
 | k + 1,x0,x6,x214000,x214001=>if x6 < (x0.length:Int) then (if 0≤x6 then ((Z3.f k ((rd_T33 x0 x6).f0) ((rd_T33 x0 x6).f1) x214000 x214001).bind fun t215=>(if t215 < 0 then (Z29.l0 k x0 (wrap64 (x6 + 1)) ((rd_T33 x0 x6).f0) ((rd_T33 x0 x6).f1)) else (Z29.l0 k x0 (wrap64 (x6 + 1)) x214000 x214001))) else (none)) else (some (x214000,x214001))
def Z29.f (k:Nat) (l0:List (S33)):Option (List Int × List Int):=if (l0.length:Int) < 1 then (none) else (if 0 < (l0.length:Int) then (Z29.l0 k l0 1 ((rd_T33 l0 0).f0) ((rd_T33 l0 0).f1)) else (none))
theorem Z29.mono_l:∀ k,(∀ y0 y1 y2 y3,LeO (Z29.l0 k y0 y1 y2 y3) (Z29.l0 (k + 1) y0 y1 y2 y3))
 | 0=>fun _ _ _ _ r h=>by simp [Z29.l0] at h
 | k + 1=>by
  have ih0:=Z29.mono_l k
  ·intro y0 y1 y2 y3
   unfold Z29.l0
   repeat' first|exact ih0 _ _ _ _|exact Z3.mono _ _ _ _ _|exact lo_|refine LeO.ite ?_ ?_|refine LeO.bind ?_ (fun _=>?_)
theorem Z29.mono:∀ a0 k,LeO (Z29.f k a0) (Z29.f (k + 1) a0):=by
 intro a0 k
 have ih0:=Z29.mono_l k
 unfold Z29.f
 repeat' first|exact ih0 _ _ _ _|exact Z3.mono _ _ _ _ _|exact lo_|refine LeO.ite ?_ ?_|refine LeO.bind ?_ (fun _=>?_)
def Z29.T7:Bool × List (List Nat × List Nat):=(true,[([],[]),([],[]),([],[]),([1,2],[1,2]),([3],[3]),([],[]),([0,4,5],[0,4,5]),([6],[6])])
def Z29.B7:List Nat:=[0,0,0,6,14,0,63,127]
theorem Z29.tab7:rtab .any (opsOf Try.f59 7) = Z29.T7:=by kernel_rfl
theorem Z29.bits7:waitsOk Z29.T7.2 Z29.B7 = true:=by kernel_rfl
def AtJ (w:World) (l0:List S33) (A:Option Addr) (u0 u1:Value) (x0 x1:List Int):Prop:=∃ (ad:Addr) (j:Nat),A = some ad∧j < l0.length∧w.cell? (ad.add (j * 2)) = some u0∧w.cell? ⟨(ad.add (j * 2)).block,(ad.add (j * 2)).off + 1,none⟩ = some u1∧x0 = (rd_T33 l0 (j:Int)).f0∧x1 = (rd_T33 l0 (j:Int)).f1
theorem atJ_of {w w':World} {P:Nat→Prop} {b:Nat} {ad:Addr} {c:Nat} {l0:List S33} (hs0:Kd.V k33 33 w b P (.slice (some ad) l0.length c) l0) (hB:Below w.heap.size w w') (i:Int) (h0:0≤i) (h1:i < (l0.length:Int)) {u0 u1:Value} (hx0:w'.cell? (ad.add (i.toNat * 2)) = some u0) (hx1:w'.cell? ⟨(ad.add (i.toNat * 2)).block,(ad.add (i.toNat * 2)).off + 1,none⟩ = some u1):AtJ w l0 (some ad) u0 u1 (rd_T33 l0 i).f0 (rd_T33 l0 i).f1:=by
 obtain ⟨ad',A0,c0,A1,c1,e,y0,y1,_⟩:=at_T33 (Kd.V_reads' hs0).2.2 i h0 h1
 injection e with e
 subst e
 have z0:=hB.cell (World.block_lt_of_cell? w _ y0)
 have z1:=hB.cell (World.block_lt_of_cell? w _ y1)
 have e:((i.toNat:Nat):Int) = i:=Int.toNat_of_nonneg h0
 exact ⟨ad,i.toNat,rfl,by omega,z0.symm.trans hx0,z1.symm.trans hx1,by rw [e],by rw [e]⟩
theorem atJ_own {w w':World} {base:Nat} {ok:Nat→Prop} {A:Option Addr} {c:Nat} {l0:List S33} {u0 u1:Value} {x0 x1:List Int} (hS:Kd.S k33 33 w base ok (.slice A l0.length c) l0) (hJ:AtJ w l0 A u0 u1 x0 x1) (hB:Below w.heap.size w w'):Kd.R (Kd.int .i64) 3 w' base ok u0 x0∧Kd.R (Kd.int .i64) 3 w' base ok u1 x1∧NeRow u0 u1:=by
 obtain ⟨ad,j,rfl,hj,h0,h1,rfl,rfl⟩:=hJ
 obtain ⟨c,hcl,hM,hc⟩:=Kd.R_getA (Kd.S_R hS) z33 (j:Int) (by omega) (by omega)
 have hc':∀ i u,c[i]? = some u→w.cell? (ad.add (j * 2 + i)) = some u:=hc
 obtain ⟨v0,v1,rfl,g0,g1,ne⟩:=k33_openN hM
 have e0:=hc' 0 v0 rfl
 have e1:=hc' 1 v1 rfl
 rw [add_field _ _ 1 (by omega)] at e1
 rw [Nat.add_zero] at e0
 obtain rfl:u0 = v0:=Option.some.inj (h0.symm.trans e0)
 obtain rfl:u1 = v1:=Option.some.inj (h1.symm.trans e1)
 exact ⟨Kd.R_mono (rD_ g0 hB) (fun _ h=>h.1),Kd.R_mono (rD_ g1 hB) (fun _ h=>h.1),ne⟩
set_option maxHeartbeats 8000000 in
set_option maxRecDepth 100000 in
theorem Z29.calls (k:Nat) (P0_:Nat→Prop) (A0:Option Addr) (c0:Nat) (l0:List (S33)) (r1:List Int) (r2:List Int) (w:World) (hs0:Kd.V k33 33 w w.heap.size (fun k_=>P0_ k_) (.slice A0 l0.length c0) l0) (h:Z29.f k l0 = some (r1,r2)) :
  Calls Try.prog 59 #[.slice A0 l0.length c0,.func (.func 60) #[] #[]] w fun e w'=>∃ v0_ v1_:Value,e = .returned (.agg #[v0_,v1_])∧Kd.V (Kd.int .i64) 3 w' w.heap.size (fun k_=>(P0_ k_ ∨ w.heap.size≤k_)) v0_ r1∧Kd.V (Kd.int .i64) 3 w' w.heap.size (fun k_=>(P0_ k_ ∨ w.heap.size≤k_)) v1_ r2∧Below w.heap.size w w'∧AtJ w l0 A0 v0_ v1_ r1 r2:=by
 have HS0:=A_ hs0
 have hu33:=Try.underlying33
 have HO0:=A_ (show Kd.V k33 33 w w.heap.size (fun k_=>(P0_ k_ ∨ w.heap.size≤k_)) (.slice A0 l0.length c0) l0 from Kd.V_mono hs0 (fun k_ hk=>.inl hk))
 have HB:=A_ (Below.refl w.heap.size w)
 have H:=h
 unfold Z29.f at H
 clear h
 by_cases c2:(l0.length:Int) < 1
 ·rw [if_pos c2] at H
  exact absurd H (by simp)
 ·rw [if_neg c2] at H
  have c2b0:=oD_ c2
  have c2b1:decide (l0.length < 1) = false:=oD_ (by omega)
  clear c2
  have c3:=cp_ H
  replace H:=ca_ H
  have c3b0:=oC_ c3
  have c3b1:decide (0 < l0.length) = true:=oC_ (by omega)
  clear c3
  have H':=A_ H
  clear H
  go_enter Try.func59,Try.ntmps59
  go_wp2_with (first | ((with_reducible refine gB_ (N:=4) rfl ?_);refine bx_ 4 #[.slice none 0 0,.slice none 0 0] 33 ?_;intro gb211 hg w4 hbox hb;replace HO0:=A_ (Kd.V_below (Kd.V_elderB (by (with_reducible repeat (first | apply Kd.V_alloc | apply Kd.V_drewN | apply Kd.V_drew));exact HO0.out) gb211 (Nat.le_of_eq hg.symm)) hb);have BK211:=A_ hbox;have GW211:=gw_ w hg;have GE211:=GW211;replace HB:=b1_ hb;clear hb hbox hg;have p212:0≤(0:Int):=(by omega);have q212:0 < (l0.length:Int):=oB_ qe_;obtain ⟨ad212,A212_0,c212_0,A212_1,c212_1,e212,hx212_0,hx212_1,hl212_0,hi212_0,hl212_1,hi212_1⟩:=at_T33 (Kd.V_reads' HO0.out).2.2 0 p212 q212;cases e212;obtain ⟨ce212,hce212,hMe212,hcc212⟩:=Kd.V_get HO0.out z33 0 p212 (by first | exact q212 | exact oB_ qe_ | (have e_:=(Kd.V_reads' HO0.out).1;omega));obtain ⟨ua212_0,uc212_0,ua212_1,uc212_1,rfl,ul212_0,ge212_0,ul212_1,ge212_1⟩:=k33_openF hMe212;have hv212_0:=hcc212 0 _ rfl;rw [Nat.add_zero] at hv212_0;replace hv212_0:=Option.some.inj (hv212_0.symm.trans hx212_0);injection hv212_0 with hva_ hvn_ hvc_;rw [hva_] at ge212_0;rw [hvc_] at ul212_0;have HL212_0:=A_ (show Kd.V (Kd.int .i64) 3 _ w.heap.size _ _ ((rd_T33 l0 0).f0) from Kd.V_mk ul212_0 ge212_0);clear hva_ hvn_ hvc_ ge212_0 ul212_0;have hv212_1:=hcc212 1 _ rfl;rw [add_field _ _ 1 (by omega)] at hv212_1;replace hv212_1:=Option.some.inj (hv212_1.symm.trans hx212_1);injection hv212_1 with hva_ hvn_ hvc_;rw [hva_] at ge212_1;rw [hvc_] at ul212_1;have HL212_1:=A_ (show Kd.V (Kd.int .i64) 3 _ w.heap.size _ _ ((rd_T33 l0 0).f1) from Kd.V_mk ul212_1 ge212_1);clear hva_ hvn_ hvc_ ge212_1 ul212_1;clear hcc212 hce212;have HJ:=A_ (atJ_of HS0.out hB_ 0 p212 q212 hx212_0 hx212_1);have qi212:(0 < l0.length) = True:=eq_true (by omega);(try rw [show ((0:Int)).toNat = 0 from rfl] at hx212_0);(try rw [show 0 * 2 = 0 from rfl] at hx212_0);(try rw [Addr.add_zero'] at hx212_0);(try rw [show ((0:Int)).toNat = 0 from rfl] at hx212_1);(try rw [show 0 * 2 = 0 from rfl] at hx212_1);(try rw [Addr.add_zero'] at hx212_1);have HR212_0:=A_ hi212_0;have HC212_0:=A_ hl212_0;clear hi212_0 hl212_0;have HR212_1:=A_ hi212_1;have HC212_1:=A_ hl212_1;clear hi212_1 hl212_1;replace p212:=eq_true p212;replace q212:=eq_true q212) | ((with_reducible refine gB_ (N:=5) rfl ?_);refine bx_ 5 #[.slice none 0 0,.slice none 0 0] 33 ?_;intro gb213 hg w5 hbox hb;replace HO0:=A_ (Kd.V_below (Kd.V_elderB (by (with_reducible repeat (first | apply Kd.V_alloc | apply Kd.V_drewN | apply Kd.V_drew));exact HO0.out) gb213 (Nat.le_of_eq hg.symm)) hb);replace HL212_0:=A_ (Kd.V_below (Kd.V_elderB (by (with_reducible repeat (first | apply Kd.V_alloc | apply Kd.V_drewN | apply Kd.V_drew));exact HL212_0.out) gb213 (Nat.le_of_eq hg.symm)) hb);replace HL212_1:=A_ (Kd.V_below (Kd.V_elderB (by (with_reducible repeat (first | apply Kd.V_alloc | apply Kd.V_drewN | apply Kd.V_drew));exact HL212_1.out) gb213 (Nat.le_of_eq hg.symm)) hb);have BK213:=A_ hbox;have GW213:=gw_ w hg;have GE213:=GW213;replace HB:=b1_ hb;have NB211_213:=gN_ BK211 hg;have NB213_211:=gP_ BK211 hg;replace BK211:=bb_ BK211 hb;clear hb hbox hg;have hnb6:=NB213_211.out;have hnc6:=NB211_213.out;obtain ⟨hcz7_0,hcz7_1,hfz7_0,hfz7_1⟩:=c2_ BK213))
  go_loopg [6] k (fun kq v6 w'=>∃ (x6_1:Int) (x214000_1:List Int) (x214001_1:List Int) (u214000:Value) (u214001:Value),v6 = .int .i64 x6_1∧Aside0 (Z29.l0 kq l0 x6_1 x214000_1 x214001_1 = some (r1,r2))∧Aside0 (kq≤k)∧Aside0 (Kd.V k33 33 w' w.heap.size (fun k_=>(P0_ k_ ∨ w.heap.size≤k_)∧k_≠gb211∧k_≠gb213) (.slice (some ad212) l0.length c0) l0)∧Aside0 (Kd.V (Kd.int .i64) 3 w' w.heap.size (fun k_=>(P0_ k_ ∨ w.heap.size≤k_)∧k_≠gb211∧k_≠gb213) u214000 x214000_1)∧Aside0 (Kd.V (Kd.int .i64) 3 w' w.heap.size (fun k_=>(P0_ k_ ∨ w.heap.size≤k_)∧k_≠gb211∧k_≠gb213) u214001 x214001_1)∧Aside0 (w'.heap[gb211]? = some (.cells #[(.slice none 0 0),(.slice none 0 0)] 33 (0,0)))∧Aside0 (w'.heap[gb213]? = some (.cells #[u214000,u214001] 33 (0,0)))∧Aside0 (Below w.heap.size w w')∧Aside0 (AtJ w l0 (some ad212) u214000 u214001 x214000_1 x214001_1))
  case atStart=>exact ⟨(1),((rd_T33 l0 0).f0),((rd_T33 l0 0).f1),(.slice A212_0 ((rd_T33 l0 0).f0).length c212_0),(.slice A212_1 ((rd_T33 l0 0).f1).length c212_1),qc_,H',⟨nA_ _⟩,⟨by (with_reducible repeat (first | apply Kd.V_alloc | apply Kd.V_drewN | apply Kd.V_drew));exact Kd.V_mono (Kd.V_far (p:=⟨gb213,1,none⟩) (Kd.V_far (p:=⟨gb213,0,none⟩) (Kd.V_mono HO0.out (fun k_ hk=>(⟨hk,hk.2⟩:_∧k_≠gb213))) (fun _ hk=>hk.2) (.slice A212_0 ((rd_T33 l0 0).f0).length c212_0)) (fun _ hk=>hk.2) (.slice A212_1 ((rd_T33 l0 0).f1).length c212_1)) (fun _ hk=>⟨hk.1.1.1,⟨hk.1.1.2,hk.1.2⟩⟩)⟩,⟨by (with_reducible repeat (first | apply Kd.V_alloc | apply Kd.V_drewN | apply Kd.V_drew));exact Kd.V_mono (Kd.V_far (p:=⟨gb213,1,none⟩) (Kd.V_far (p:=⟨gb213,0,none⟩) (Kd.V_mono HL212_0.out (fun k_ hk=>(⟨hk,hk.2⟩:_∧k_≠gb213))) (fun _ hk=>hk.2) (.slice A212_0 ((rd_T33 l0 0).f0).length c212_0)) (fun _ hk=>hk.2) (.slice A212_1 ((rd_T33 l0 0).f1).length c212_1)) (fun _ hk=>⟨hk.1.1.1,⟨hk.1.1.2,hk.1.2⟩⟩)⟩,⟨by (with_reducible repeat (first | apply Kd.V_alloc | apply Kd.V_drewN | apply Kd.V_drew));exact Kd.V_mono (Kd.V_far (p:=⟨gb213,1,none⟩) (Kd.V_far (p:=⟨gb213,0,none⟩) (Kd.V_mono HL212_1.out (fun k_ hk=>(⟨hk,hk.2⟩:_∧k_≠gb213))) (fun _ hk=>hk.2) (.slice A212_0 ((rd_T33 l0 0).f0).length c212_0)) (fun _ hk=>hk.2) (.slice A212_1 ((rd_T33 l0 0).f1).length c212_1)) (fun _ hk=>⟨hk.1.1.1,⟨hk.1.1.2,hk.1.2⟩⟩)⟩,⟨by (with_reducible repeat (first | refine kA_ ?_ _ | refine kB_ ?_ | refine kC_ ?_ _));refine blk_far ?_ NB211_213.out _;(with_reducible repeat (first | refine kA_ ?_ _ | refine kB_ ?_ | refine kC_ ?_ _));refine blk_far ?_ NB211_213.out _;(with_reducible repeat (first | refine kA_ ?_ _ | refine kB_ ?_ | refine kC_ ?_ _));exact BK211.out⟩,⟨qp_⟩,⟨hB_⟩,HJ⟩
  case round =>
   clear H'
   obtain ⟨x6_1,x214000_1,x214001_1,u214000,u214001,rfl,HA,HK1,HO_0,HO_214000,HO_214001,BK211,BK213,HB,HJ⟩:=hrel
   cases gk with
   | zero=>exact absurd HA.out (by simp [Z29.l0])
   | succ k1 =>
    have H:=HA.out
    clear HA
    simp only [Z29.l0] at H
    by_cases c8:x6_1 < (l0.length:Int)
    ·rw [if_pos c8] at H
     have c8b0:=oC_ c8
     clear c8
     replace H:=cx_ H;obtain ⟨c9b0,H⟩:=H
     obtain ⟨t215,A10,H⟩:=bi_ H
     by_cases c11:t215 < 0
     ·rw [if_pos c11] at H
      have c11b0:=oC_ c11
      clear c11
      have H':=A_ H
      clear H
      try go_wp2
      replace HO_0:=A_ (Kd.V_drew HO_0.out)
      replace HO_214000:=A_ (Kd.V_drew HO_214000.out)
      replace HO_214001:=A_ (Kd.V_drew HO_214001.out)
      replace BK211:=A_ (kB_ BK211.out)
      replace BK213:=A_ (kB_ BK213.out)
      replace HB:=A_ (bC_ HB.out)
      have p214:0≤(x6_1:Int):=oB_ qe_
      have q214:x6_1 < (l0.length:Int):=oB_ qe_
      obtain ⟨ad214,A214_0,c214_0,A214_1,c214_1,e214,hx214_0,hx214_1,hl214_0,hi214_0,hl214_1,hi214_1⟩:=at_T33 (Kd.V_reads' HO_0.out).2.2 x6_1 p214 q214
      obtain rfl:ad212 = ad214:=(by injection e214)
      obtain ⟨ce214,hce214,hMe214,hcc214⟩:=Kd.V_get HO_0.out z33 x6_1 p214 (by first | exact q214 | exact oB_ qe_ | (have e_:=(Kd.V_reads' HO_0.out).1;omega))
      obtain ⟨ua214_0,uc214_0,ua214_1,uc214_1,rfl,ul214_0,ge214_0,ul214_1,ge214_1⟩:=k33_openF hMe214
      have hv214_0:=hcc214 0 _ rfl
      rw [Nat.add_zero] at hv214_0
      replace hv214_0:=Option.some.inj (hv214_0.symm.trans hx214_0)
      injection hv214_0 with hva_ hvn_ hvc_
      rw [hva_] at ge214_0
      rw [hvc_] at ul214_0
      have HL214_0:=A_ (show Kd.V (Kd.int .i64) 3 _ w.heap.size _ _ ((rd_T33 l0 x6_1).f0) from Kd.V_mk ul214_0 ge214_0)
      clear hva_ hvn_ hvc_ ge214_0 ul214_0
      have hv214_1:=hcc214 1 _ rfl
      rw [add_field _ _ 1 (by omega)] at hv214_1
      replace hv214_1:=Option.some.inj (hv214_1.symm.trans hx214_1)
      injection hv214_1 with hva_ hvn_ hvc_
      rw [hva_] at ge214_1
      rw [hvc_] at ul214_1
      have HL214_1:=A_ (show Kd.V (Kd.int .i64) 3 _ w.heap.size _ _ ((rd_T33 l0 x6_1).f1) from Kd.V_mk ul214_1 ge214_1)
      clear hva_ hvn_ hvc_ ge214_1 ul214_1
      clear hcc214 hce214
      have HJ214:=A_ (atJ_of HS0.out hB_ x6_1 p214 q214 hx214_0 hx214_1)
      have HR214_0:=A_ hi214_0
      have HC214_0:=A_ hl214_0
      clear hi214_0 hl214_0
      have HR214_1:=A_ hi214_1
      have HC214_1:=A_ hl214_1
      clear hi214_1 hl214_1
      replace p214:=eq_true p214
      replace q214:=eq_true q214
      obtain ⟨Ao13,co13,eo13⟩:=Kd.V_slice HO_214000.out
      (first|subst eo13|(injection eo13 with a_ b_ c_;have a_:=a_.symm;have c_:=c_.symm;clear b_;subst a_;subst c_))
      obtain ⟨Ao14,co14,eo14⟩:=Kd.V_slice HO_214001.out
      (first|subst eo14|(injection eo14 with a_ b_ c_;have a_:=a_.symm;have c_:=c_.symm;clear b_;subst a_;subst c_))
      refine start_ (n:=8) (S:=fun w'=>w'.cell? ⟨gb213,0,none⟩ = some (.slice Ao13 x214000_1.length co13)∧w'.cell? ⟨gb213,1,none⟩ = some (.slice Ao14 x214001_1.length co14)∧w'.cell? (ad212.add ((x6_1).toNat * 2)) = some (.slice A214_0 ((rd_T33 l0 x6_1).f0).length c214_0)∧w'.cell? ⟨(ad212.add ((x6_1).toNat * 2)).block,(ad212.add ((x6_1).toNat * 2)).off + 1,none⟩ = some (.slice A214_1 ((rd_T33 l0 x6_1).f1).length c214_1)) (ds:=[]) (bl_ 8 0) (by kernel_rfl) rfl (by kernel_rfl) ⟨cz0_ BK213,cz1_ BK213,hx214_0,hx214_1⟩ (fun hHeld=>?_);refine with_tabW Z29.tab7 Z29.bits7 (fun HT_ HW_=>?_)
      generalize wr.drew = w12 at HO_0 HO_214000 HO_214001 BK211 BK213 HB HL214_0 HL214_1 HR214_0 HR214_1 hx214_0 hx214_1 hHeld ⊢
      refine pu_ 0 (some 20) (bl_ 8 1) HT_ ?_
      refine pu_ 1 (some 21) (bl_ 8 3) HT_ ?_
      refine pu_ 2 (some 22) (bl_ 8 7) HT_ ?_
      refine pu_ 3 (some 23) (bl_ 8 15) HT_ ?_
      refine ta_ 4 (some 24) (bl_ 8 31) HT_ HW_ hHeld ?_
      refine ta_ 5 (some 25) (bl_ 8 63) HT_ HW_ hHeld ?_
      refine on_ 6 (some 26) (bl_ 8 127) HT_ (fun K hK=>?_)
      refine goesF_ Try.func60 (by kernel_rfl) rfl #[.agg #[.slice A214_0 ((rd_T33 l0 x6_1).f0).length c214_0,.slice A214_1 ((rd_T33 l0 x6_1).f1).length c214_1],.agg #[.slice Ao13 x214000_1.length co13,.slice Ao14 x214001_1.length co14]] (by rfl) rfl rfl qa_ ?_
      with_reducible refine (Z3.calls k1 _ _ ((rd_T33 l0 x6_1).f0) _ _ ((rd_T33 l0 x6_1).f1) _ _ x214000_1 _ _ x214001_1 t215 _ ?side1 ?side2 ?side3 ?side4 ?side5 ?side6 ?side7 ?side8 A10.out).mono ?_
      (case side1=>repeat (first | exact (by repeat (first | (with_reducible exact HR214_0.out) | (with_reducible refine cA_ ?_ _) | (with_reducible refine cB_ ?_ _) | (with_reducible refine cC_ ?_) | exact HR214_0.out)) | (with_reducible first | refine cA_ ?_ _ | refine cB_ ?_ _ | refine cC_ ?_)))
      (case side2=>exact HC214_0.out)
      (case side3=>repeat (first | exact (by repeat (first | (with_reducible exact HR214_1.out) | (with_reducible refine cA_ ?_ _) | (with_reducible refine cB_ ?_ _) | (with_reducible refine cC_ ?_) | exact HR214_1.out)) | (with_reducible first | refine cA_ ?_ _ | refine cB_ ?_ _ | refine cC_ ?_)))
      (case side4=>exact HC214_1.out)
      (case side5=>exact cw_ ((Kd.V_reads' HO_214000.out).2.2))
      (case side6=>exact (Kd.V_reads' HO_214000.out).2.1)
      (case side7=>exact cw_ ((Kd.V_reads' HO_214001.out).2.2))
      (case side8=>exact (Kd.V_reads' HO_214001.out).2.1)
      rintro e w15 ⟨rfl,hb⟩
      have HS2_:=(hb.cell (World.block_lt_of_cell? _ _ (hHeld.2.2.1))).trans (hHeld.2.2.1)
      have HS3_:=(hb.cell (World.block_lt_of_cell? _ _ (hHeld.2.2.2))).trans (hHeld.2.2.2)
      refine ⟨_,rfl,?_⟩
      replace HO_0:=A_ (Kd.V_below (by (with_reducible repeat (first | apply Kd.V_alloc | apply Kd.V_drewN | apply Kd.V_drew));exact HO_0.out) hb)
      replace HO_214000:=A_ (Kd.V_below (by (with_reducible repeat (first | apply Kd.V_alloc | apply Kd.V_drewN | apply Kd.V_drew));exact HO_214000.out) hb)
      replace HO_214001:=A_ (Kd.V_below (by (with_reducible repeat (first | apply Kd.V_alloc | apply Kd.V_drewN | apply Kd.V_drew));exact HO_214001.out) hb)
      replace HL214_0:=A_ (Kd.V_below (by (with_reducible repeat (first | apply Kd.V_alloc | apply Kd.V_drewN | apply Kd.V_drew));exact HL214_0.out) hb)
      replace HL214_1:=A_ (Kd.V_below (by (with_reducible repeat (first | apply Kd.V_alloc | apply Kd.V_drewN | apply Kd.V_drew));exact HL214_1.out) hb)
      replace BK211:=bb_ BK211 hb
      replace BK213:=bb_ BK213 hb
      replace HR214_0:=A_ (cD_ (by repeat (first | (with_reducible exact HR214_0.out) | (with_reducible refine cA_ ?_ _) | (with_reducible refine cB_ ?_ _) | (with_reducible refine cC_ ?_) | exact HR214_0.out)) hb)
      replace HR214_1:=A_ (cD_ (by repeat (first | (with_reducible exact HR214_1.out) | (with_reducible refine cA_ ?_ _) | (with_reducible refine cB_ ?_ _) | (with_reducible refine cC_ ?_) | exact HR214_1.out)) hb)
      replace HB:=b1_ hb
      clear hb
      refine hK.out _ _ ⟨cz0_ BK213,cz1_ BK213,HS2_,HS3_⟩ (fun hHeld=>?_)
      clear hK K
      refine no_ (some 26) ?_
      refine pu_ 7 (some 27) (bl_ 8 255) HT_ ?_
      refine done_ (done_of HT_.out (by kernel_rfl)) ?_
      have p216:0≤(x6_1:Int):=oB_ qe_
      have q216:x6_1 < (l0.length:Int):=oB_ qe_
      obtain ⟨ad216,A216_0,c216_0,A216_1,c216_1,e216,hx216_0,hx216_1,hl216_0,hi216_0,hl216_1,hi216_1⟩:=at_T33 (Kd.V_reads' HO_0.out).2.2 x6_1 p216 q216
      obtain rfl:ad212 = ad216:=(by injection e216)
      have e0_:=Option.some.inj (hx216_0.symm.trans hHeld.2.2.1)
      injection e0_ with f1_ f2_ f3_
      have e1_:=Option.some.inj (hx216_1.symm.trans hHeld.2.2.2)
      injection e1_ with f4_ f5_ f6_
      subst f1_ f3_ f4_ f6_
      clear f2_ f5_
      obtain ⟨ce216,hce216,hMe216,hcc216⟩:=Kd.V_get HO_0.out z33 x6_1 p216 (by first | exact q216 | exact oB_ qe_ | (have e_:=(Kd.V_reads' HO_0.out).1;omega))
      obtain ⟨ua216_0,uc216_0,ua216_1,uc216_1,rfl,ul216_0,ge216_0,ul216_1,ge216_1⟩:=k33_openF hMe216
      have hv216_0:=hcc216 0 _ rfl
      rw [Nat.add_zero] at hv216_0
      replace hv216_0:=Option.some.inj (hv216_0.symm.trans hx216_0)
      injection hv216_0 with hva_ hvn_ hvc_
      rw [hva_] at ge216_0
      rw [hvc_] at ul216_0
      have HL216_0:=A_ (show Kd.V (Kd.int .i64) 3 _ w.heap.size _ _ ((rd_T33 l0 x6_1).f0) from Kd.V_mk ul216_0 ge216_0)
      clear hva_ hvn_ hvc_ ge216_0 ul216_0
      have hv216_1:=hcc216 1 _ rfl
      rw [add_field _ _ 1 (by omega)] at hv216_1
      replace hv216_1:=Option.some.inj (hv216_1.symm.trans hx216_1)
      injection hv216_1 with hva_ hvn_ hvc_
      rw [hva_] at ge216_1
      rw [hvc_] at ul216_1
      have HL216_1:=A_ (show Kd.V (Kd.int .i64) 3 _ w.heap.size _ _ ((rd_T33 l0 x6_1).f1) from Kd.V_mk ul216_1 ge216_1)
      clear hva_ hvn_ hvc_ ge216_1 ul216_1
      clear hcc216 hce216
      have HJ216:=A_ (atJ_of HS0.out hB_ x6_1 p216 q216 hx216_0 hx216_1)
      have HR216_0:=A_ hi216_0
      have HC216_0:=A_ hl216_0
      clear hi216_0 hl216_0
      have HR216_1:=A_ hi216_1
      have HC216_1:=A_ hl216_1
      clear hi216_1 hl216_1
      replace p216:=eq_true p216
      replace q216:=eq_true q216
      have hnb16:=NB213_211.out
      have hnc16:=NB211_213.out
      obtain ⟨hcz17_0,hcz17_1,hfz17_0,hfz17_1⟩:=c2_ BK213
      try go_wp2
      go_roundg k1
      case measure=>have:=HK1.out;omega
      case rel=>exact ⟨(wrap64 (x6_1 + 1)),((rd_T33 l0 x6_1).f0),((rd_T33 l0 x6_1).f1),(.slice A216_0 ((rd_T33 l0 x6_1).f0).length c216_0),(.slice A216_1 ((rd_T33 l0 x6_1).f1).length c216_1),qc_,H',⟨by have:=HK1.out;omega⟩,⟨by (with_reducible repeat (first | apply Kd.V_alloc | apply Kd.V_drewN | apply Kd.V_drew));exact Kd.V_mono (Kd.V_far (p:=⟨gb213,1,none⟩) (Kd.V_far (p:=⟨gb213,0,none⟩) (Kd.V_mono HO_0.out (fun k_ hk=>(⟨hk,hk.2.2⟩:_∧k_≠gb213))) (fun _ hk=>hk.2) (.slice A216_0 ((rd_T33 l0 x6_1).f0).length c216_0)) (fun _ hk=>hk.2) (.slice A216_1 ((rd_T33 l0 x6_1).f1).length c216_1)) (fun _ hk=>⟨hk.1.1,⟨hk.1.2.1,hk.1.2.2⟩⟩)⟩,⟨by (with_reducible repeat (first | apply Kd.V_alloc | apply Kd.V_drewN | apply Kd.V_drew));exact Kd.V_mono (Kd.V_far (p:=⟨gb213,1,none⟩) (Kd.V_far (p:=⟨gb213,0,none⟩) (Kd.V_mono HL216_0.out (fun k_ hk=>(⟨hk,hk.2.2⟩:_∧k_≠gb213))) (fun _ hk=>hk.2) (.slice A216_0 ((rd_T33 l0 x6_1).f0).length c216_0)) (fun _ hk=>hk.2) (.slice A216_1 ((rd_T33 l0 x6_1).f1).length c216_1)) (fun _ hk=>⟨hk.1.1,⟨hk.1.2.1,hk.1.2.2⟩⟩)⟩,⟨by (with_reducible repeat (first | apply Kd.V_alloc | apply Kd.V_drewN | apply Kd.V_drew));exact Kd.V_mono (Kd.V_far (p:=⟨gb213,1,none⟩) (Kd.V_far (p:=⟨gb213,0,none⟩) (Kd.V_mono HL216_1.out (fun k_ hk=>(⟨hk,hk.2.2⟩:_∧k_≠gb213))) (fun _ hk=>hk.2) (.slice A216_0 ((rd_T33 l0 x6_1).f0).length c216_0)) (fun _ hk=>hk.2) (.slice A216_1 ((rd_T33 l0 x6_1).f1).length c216_1)) (fun _ hk=>⟨hk.1.1,⟨hk.1.2.1,hk.1.2.2⟩⟩)⟩,⟨by (with_reducible repeat (first | refine kA_ ?_ _ | refine kB_ ?_ | refine kC_ ?_ _));refine blk_far ?_ NB211_213.out _;(with_reducible repeat (first | refine kA_ ?_ _ | refine kB_ ?_ | refine kC_ ?_ _));refine blk_far ?_ NB211_213.out _;(with_reducible repeat (first | refine kA_ ?_ _ | refine kB_ ?_ | refine kC_ ?_ _));exact BK211.out⟩,⟨qp_⟩,⟨hB_⟩,HJ216⟩
     ·rw [if_neg c11] at H
      have c11b0:=oD_ c11
      clear c11
      have H':=A_ H
      clear H
      try go_wp2
      replace HO_0:=A_ (Kd.V_drew HO_0.out)
      replace HO_214000:=A_ (Kd.V_drew HO_214000.out)
      replace HO_214001:=A_ (Kd.V_drew HO_214001.out)
      replace BK211:=A_ (kB_ BK211.out)
      replace BK213:=A_ (kB_ BK213.out)
      replace HB:=A_ (bC_ HB.out)
      have p214:0≤(x6_1:Int):=oB_ qe_
      have q214:x6_1 < (l0.length:Int):=oB_ qe_
      obtain ⟨ad214,A214_0,c214_0,A214_1,c214_1,e214,hx214_0,hx214_1,hl214_0,hi214_0,hl214_1,hi214_1⟩:=at_T33 (Kd.V_reads' HO_0.out).2.2 x6_1 p214 q214
      obtain rfl:ad212 = ad214:=(by injection e214)
      obtain ⟨ce214,hce214,hMe214,hcc214⟩:=Kd.V_get HO_0.out z33 x6_1 p214 (by first | exact q214 | exact oB_ qe_ | (have e_:=(Kd.V_reads' HO_0.out).1;omega))
      obtain ⟨ua214_0,uc214_0,ua214_1,uc214_1,rfl,ul214_0,ge214_0,ul214_1,ge214_1⟩:=k33_openF hMe214
      have hv214_0:=hcc214 0 _ rfl
      rw [Nat.add_zero] at hv214_0
      replace hv214_0:=Option.some.inj (hv214_0.symm.trans hx214_0)
      injection hv214_0 with hva_ hvn_ hvc_
      rw [hva_] at ge214_0
      rw [hvc_] at ul214_0
      have HL214_0:=A_ (show Kd.V (Kd.int .i64) 3 _ w.heap.size _ _ ((rd_T33 l0 x6_1).f0) from Kd.V_mk ul214_0 ge214_0)
      clear hva_ hvn_ hvc_ ge214_0 ul214_0
      have hv214_1:=hcc214 1 _ rfl
      rw [add_field _ _ 1 (by omega)] at hv214_1
      replace hv214_1:=Option.some.inj (hv214_1.symm.trans hx214_1)
      injection hv214_1 with hva_ hvn_ hvc_
      rw [hva_] at ge214_1
      rw [hvc_] at ul214_1
      have HL214_1:=A_ (show Kd.V (Kd.int .i64) 3 _ w.heap.size _ _ ((rd_T33 l0 x6_1).f1) from Kd.V_mk ul214_1 ge214_1)
      clear hva_ hvn_ hvc_ ge214_1 ul214_1
      clear hcc214 hce214
      have HJ214:=A_ (atJ_of HS0.out hB_ x6_1 p214 q214 hx214_0 hx214_1)
      have HR214_0:=A_ hi214_0
      have HC214_0:=A_ hl214_0
      clear hi214_0 hl214_0
      have HR214_1:=A_ hi214_1
      have HC214_1:=A_ hl214_1
      clear hi214_1 hl214_1
      replace p214:=eq_true p214
      replace q214:=eq_true q214
      obtain ⟨Ao19,co19,eo19⟩:=Kd.V_slice HO_214000.out
      (first|subst eo19|(injection eo19 with a_ b_ c_;have a_:=a_.symm;have c_:=c_.symm;clear b_;subst a_;subst c_))
      obtain ⟨Ao20,co20,eo20⟩:=Kd.V_slice HO_214001.out
      (first|subst eo20|(injection eo20 with a_ b_ c_;have a_:=a_.symm;have c_:=c_.symm;clear b_;subst a_;subst c_))
      refine start_ (n:=8) (S:=fun w'=>w'.cell? ⟨gb213,0,none⟩ = some (.slice Ao19 x214000_1.length co19)∧w'.cell? ⟨gb213,1,none⟩ = some (.slice Ao20 x214001_1.length co20)∧w'.cell? (ad212.add ((x6_1).toNat * 2)) = some (.slice A214_0 ((rd_T33 l0 x6_1).f0).length c214_0)∧w'.cell? ⟨(ad212.add ((x6_1).toNat * 2)).block,(ad212.add ((x6_1).toNat * 2)).off + 1,none⟩ = some (.slice A214_1 ((rd_T33 l0 x6_1).f1).length c214_1)) (ds:=[]) (bl_ 8 0) (by kernel_rfl) rfl (by kernel_rfl) ⟨cz0_ BK213,cz1_ BK213,hx214_0,hx214_1⟩ (fun hHeld=>?_);refine with_tabW Z29.tab7 Z29.bits7 (fun HT_ HW_=>?_)
      generalize wr.drew = w18 at HO_0 HO_214000 HO_214001 BK211 BK213 HB HL214_0 HL214_1 HR214_0 HR214_1 hx214_0 hx214_1 hHeld ⊢
      refine pu_ 0 (some 20) (bl_ 8 1) HT_ ?_
      refine pu_ 1 (some 21) (bl_ 8 3) HT_ ?_
      refine pu_ 2 (some 22) (bl_ 8 7) HT_ ?_
      refine pu_ 3 (some 23) (bl_ 8 15) HT_ ?_
      refine ta_ 4 (some 24) (bl_ 8 31) HT_ HW_ hHeld ?_
      refine ta_ 5 (some 25) (bl_ 8 63) HT_ HW_ hHeld ?_
      refine on_ 6 (some 26) (bl_ 8 127) HT_ (fun K hK=>?_)
      refine goesF_ Try.func60 (by kernel_rfl) rfl #[.agg #[.slice A214_0 ((rd_T33 l0 x6_1).f0).length c214_0,.slice A214_1 ((rd_T33 l0 x6_1).f1).length c214_1],.agg #[.slice Ao19 x214000_1.length co19,.slice Ao20 x214001_1.length co20]] (by rfl) rfl rfl qa_ ?_
      with_reducible refine (Z3.calls k1 _ _ ((rd_T33 l0 x6_1).f0) _ _ ((rd_T33 l0 x6_1).f1) _ _ x214000_1 _ _ x214001_1 t215 _ ?side1 ?side2 ?side3 ?side4 ?side5 ?side6 ?side7 ?side8 A10.out).mono ?_
      (case side1=>repeat (first | exact (by repeat (first | (with_reducible exact HR214_0.out) | (with_reducible refine cA_ ?_ _) | (with_reducible refine cB_ ?_ _) | (with_reducible refine cC_ ?_) | exact HR214_0.out)) | (with_reducible first | refine cA_ ?_ _ | refine cB_ ?_ _ | refine cC_ ?_)))
      (case side2=>exact HC214_0.out)
      (case side3=>repeat (first | exact (by repeat (first | (with_reducible exact HR214_1.out) | (with_reducible refine cA_ ?_ _) | (with_reducible refine cB_ ?_ _) | (with_reducible refine cC_ ?_) | exact HR214_1.out)) | (with_reducible first | refine cA_ ?_ _ | refine cB_ ?_ _ | refine cC_ ?_)))
      (case side4=>exact HC214_1.out)
      (case side5=>exact cw_ ((Kd.V_reads' HO_214000.out).2.2))
      (case side6=>exact (Kd.V_reads' HO_214000.out).2.1)
      (case side7=>exact cw_ ((Kd.V_reads' HO_214001.out).2.2))
      (case side8=>exact (Kd.V_reads' HO_214001.out).2.1)
      rintro e w21 ⟨rfl,hb⟩
      have HS2_:=(hb.cell (World.block_lt_of_cell? _ _ (hHeld.2.2.1))).trans (hHeld.2.2.1)
      have HS3_:=(hb.cell (World.block_lt_of_cell? _ _ (hHeld.2.2.2))).trans (hHeld.2.2.2)
      refine ⟨_,rfl,?_⟩
      replace HO_0:=A_ (Kd.V_below (by (with_reducible repeat (first | apply Kd.V_alloc | apply Kd.V_drewN | apply Kd.V_drew));exact HO_0.out) hb)
      replace HO_214000:=A_ (Kd.V_below (by (with_reducible repeat (first | apply Kd.V_alloc | apply Kd.V_drewN | apply Kd.V_drew));exact HO_214000.out) hb)
      replace HO_214001:=A_ (Kd.V_below (by (with_reducible repeat (first | apply Kd.V_alloc | apply Kd.V_drewN | apply Kd.V_drew));exact HO_214001.out) hb)
      replace HL214_0:=A_ (Kd.V_below (by (with_reducible repeat (first | apply Kd.V_alloc | apply Kd.V_drewN | apply Kd.V_drew));exact HL214_0.out) hb)
      replace HL214_1:=A_ (Kd.V_below (by (with_reducible repeat (first | apply Kd.V_alloc | apply Kd.V_drewN | apply Kd.V_drew));exact HL214_1.out) hb)
      replace BK211:=bb_ BK211 hb
      replace BK213:=bb_ BK213 hb
      replace HR214_0:=A_ (cD_ (by repeat (first | (with_reducible exact HR214_0.out) | (with_reducible refine cA_ ?_ _) | (with_reducible refine cB_ ?_ _) | (with_reducible refine cC_ ?_) | exact HR214_0.out)) hb)
      replace HR214_1:=A_ (cD_ (by repeat (first | (with_reducible exact HR214_1.out) | (with_reducible refine cA_ ?_ _) | (with_reducible refine cB_ ?_ _) | (with_reducible refine cC_ ?_) | exact HR214_1.out)) hb)
      replace HB:=b1_ hb
      clear hb
      refine hK.out _ _ ⟨cz0_ BK213,cz1_ BK213,HS2_,HS3_⟩ (fun hHeld=>?_)
      clear hK K
      refine no_ (some 26) ?_
      refine pu_ 7 (some 27) (bl_ 8 255) HT_ ?_
      refine done_ (done_of HT_.out (by kernel_rfl)) ?_
      try go_wp2
      go_roundg k1
      case measure=>have:=HK1.out;omega
      case rel=>exact ⟨(wrap64 (x6_1 + 1)),(x214000_1),(x214001_1),(.slice Ao19 x214000_1.length co19),(.slice Ao20 x214001_1.length co20),qc_,H',⟨by have:=HK1.out;omega⟩,⟨by (with_reducible repeat (first | apply Kd.V_alloc | apply Kd.V_drewN | apply Kd.V_drew));exact HO_0.out⟩,⟨by (with_reducible repeat (first | apply Kd.V_alloc | apply Kd.V_drewN | apply Kd.V_drew));exact HO_214000.out⟩,⟨by (with_reducible repeat (first | apply Kd.V_alloc | apply Kd.V_drewN | apply Kd.V_drew));exact HO_214001.out⟩,⟨(kk_ BK211)⟩,⟨(kk_ BK213)⟩,⟨hB_⟩,HJ⟩
    ·rw [if_neg c8] at H
     have c8b0:=oD_ c8
     clear c8
     simp only [Option.some.injEq,Prod.mk.injEq] at H
     obtain ⟨rfl,rfl⟩:=H
     have hnb22:=NB213_211.out
     have hnc22:=NB211_213.out
     obtain ⟨hcz23_0,hcz23_1,hfz23_0,hfz23_1⟩:=c2_ BK213
     obtain ⟨Ao24,co24,eo24⟩:=Kd.V_slice HO_214000.out
     subst eo24
     obtain ⟨hcz25_0,hcz25_1,hfz25_0,hfz25_1⟩:=c2_ BK211
     obtain ⟨Ao26,co26,eo26⟩:=Kd.V_slice HO_214001.out
     subst eo26
     go_wp2
     refine bodyPost_ret (results_cell_row rfl _ _ gb211 33 #[.slice Ao24 x214000_1.length co24,.slice Ao26 x214001_1.length co26] (0,0) _ rfl qp_ Try.underlying33 rfl (by kernel_rfl)) rfl ?_
     exact ⟨_,_,qb_,by (with_reducible repeat (first | apply Kd.V_alloc | apply Kd.V_drewN | apply Kd.V_drew));exact Kd.V_mono (Kd.V_far (p:=⟨gb211,1,none⟩) (Kd.V_far (p:=⟨gb211,0,none⟩) (Kd.V_mono HO_214000.out (fun k_ hk=>(⟨hk,hk.2.1⟩:_∧k_≠gb211))) (fun _ hk=>hk.2) (.slice Ao24 x214000_1.length co24)) (fun _ hk=>hk.2) (.slice Ao26 x214001_1.length co26)) (fun _ hk=>hk.1.1),by (with_reducible repeat (first | apply Kd.V_alloc | apply Kd.V_drewN | apply Kd.V_drew));exact Kd.V_mono (Kd.V_far (p:=⟨gb211,1,none⟩) (Kd.V_far (p:=⟨gb211,0,none⟩) (Kd.V_mono HO_214001.out (fun k_ hk=>(⟨hk,hk.2.1⟩:_∧k_≠gb211))) (fun _ hk=>hk.2) (.slice Ao24 x214000_1.length co24)) (fun _ hk=>hk.2) (.slice Ao26 x214001_1.length co26)) (fun _ hk=>hk.1.1),hB_,HJ.out⟩
def Z59.f (k:Nat) (l0_0:List Int) (l0_1:List Int):Option (List Int × List Int × Bool):=(Z36.f k l0_0 l0_1).bind fun t219=>(if (t219.length:Int) = 0 then (some (([]:List Int),([]:List Int),false)) else ((Z29.f k t219).bind fun bt222=>(some (bt222.1,bt222.2,true))))
theorem Z59.mono:∀ a0 a1 k,LeO (Z59.f k a0 a1) (Z59.f (k + 1) a0 a1):=by
 intro a0 a1 k
 unfold Z59.f
 repeat' first|exact Z29.mono _ _|exact Z36.mono _ _ _|exact lo_|refine LeO.ite ?_ ?_|refine LeO.bind ?_ (fun _=>?_)
set_option maxHeartbeats 8000000 in
set_option maxRecDepth 100000 in
theorem Z59.calls (k:Nat) (A0_0:Option Addr) (c0_0:Nat) (l0_0:List Int) (A0_1:Option Addr) (c0_1:Nat) (l0_1:List Int) (r1:List Int) (r2:List Int) (r3:Bool) (w:World) (hr0_0:Kd.C (Kd.int .i64) w A0_0 l0_0.length l0_0) (hc0_0:l0_0.length≤c0_0) (hr0_1:Kd.C (Kd.int .i64) w A0_1 l0_1.length l0_1) (hc0_1:l0_1.length≤c0_1) (h:Z59.f k l0_0 l0_1 = some (r1,r2,r3)) :
  Calls Try.prog 17 #[.agg #[.slice A0_0 l0_0.length c0_0,.slice A0_1 l0_1.length c0_1]] w fun e w'=>∃ v0_ v1_:Value,e = .returned (.tuple #[.agg #[v0_,v1_],.bool r3])∧Kd.R (Kd.int .i64) 3 w' w.heap.size (fun k_=>some k_≠(v1_:Value).ownBlock) v0_ r1∧Kd.R (Kd.int .i64) 3 w' w.heap.size (fun k_=>some k_≠(v0_:Value).ownBlock) v1_ r2∧Below w.heap.size w w':=by
 have hu33:=Try.underlying33
 have HR0_0:=A_ hr0_0
 have HC0_0:=A_ hc0_0
 clear hr0_0 hc0_0
 have HR0_1:=A_ hr0_1
 have HC0_1:=A_ hc0_1
 clear hr0_1 hc0_1
 have HB:=A_ (Below.refl w.heap.size w)
 have H:=h
 unfold Z59.f at H
 clear h
 obtain ⟨t219,A2,H⟩:=bi_ H
 by_cases c3:(t219.length:Int) = 0
 ·rw [if_pos c3] at H
  have c3b0:((t219.length:Int) == 0) = true:=beq_iff_eq.mpr c3
  have c3b1:((t219.length:Int) != 0) = false:=bne_eq_false_iff_eq.mpr c3
  clear c3
  simp only [Option.some.injEq,Prod.mk.injEq] at H
  obtain ⟨rfl,rfl,rfl⟩:=H
  go_enter Try.func17,Try.ntmps17
  go_wp2_with (first | ((with_reducible refine gB_ (N:=1) rfl ?_);refine bx_ 1 #[.slice A0_0 l0_0.length c0_0,.slice A0_1 l0_1.length c0_1] 33 ?_;intro gb217 hg w4 hbox hb;have BK217:=A_ hbox;have GW217:=gw_ w hg;have GE217:=GW217;replace HB:=b1_ hb;clear hb hbox hg) | ((with_reducible refine gB_ (N:=2) rfl ?_);refine bx_ 2 #[.slice none 0 0,.slice none 0 0] 33 ?_;intro gb218 hg w5 hbox hb;have BK218:=A_ hbox;have GW218:=gw_ w hg;have GE218:=GW218;replace HB:=b1_ hb;have NB217_218:=gN_ BK217 hg;have NB218_217:=gP_ BK217 hg;replace BK217:=bb_ BK217 hb;clear hb hbox hg;have hnb6:=NB217_218.out;have hnc6:=NB218_217.out;obtain ⟨hcz7_0,hcz7_1,hfz7_0,hfz7_1⟩:=c2_ BK217) | ((with_reducible refine gA_ (f:=58) rfl ?_);refine gL_ (some 6) Try.func58 #[.agg #[.slice A0_0 l0_0.length c0_0,.slice A0_1 l0_1.length c0_1]] rfl qa_ ?_;(with_reducible refine (Z36.calls k _ _ l0_0 _ _ l0_1 t219 _ (cb_ HR0_0) HC0_0.out (cb_ HR0_1) HC0_1.out A2.out).mono ?_);rintro e w8 ⟨v220,rfl,ho0,hb⟩;refine ⟨_,rfl,?_⟩;have HO221:=A_ (Kd.S_lower (Kd.S_newB (Kd.S_newB (Kd.S_newM (M:=fun k_=>(w.heap.size≤k_)) ho0 (bF_ hB_) (fun k_ h_=>h_)) (kk_ BK217)) (kk_ BK218)) (bF_ hB_));replace BK217:=bb_ BK217 hb;replace BK218:=bb_ BK218 hb;replace HB:=b1_ hb;clear hb ho0;obtain ⟨Ao9,co9,eo9⟩:=Kd.S_slice HO221.out;subst eo9;obtain ⟨hcz10_0,hcz10_1,hfz10_0,hfz10_1⟩:=c2_ BK218))
  refine bodyPost_ret (results_ct rfl _ _ gb218 33 #[.slice none 0 0,.slice none 0 0] (0,0) _ rfl qp_ Try.underlying33 rfl (by kernel_rfl)) rfl ?_
  exact ⟨_,_,qb_,(Kd.R_nil _ _ _ _ _),(Kd.R_nil _ _ _ _ _),hB_⟩
 ·rw [if_neg c3] at H
  have c3b0:((t219.length:Int) == 0) = false:=beq_eq_false_iff_ne.mpr c3
  have c3b1:((t219.length:Int) != 0) = true:=bne_iff_ne.mpr c3
  have c3b2:¬ (t219 = []):=fun h_=>c3 (by rw [h_];rfl)
  obtain ⟨⟨t222,t225⟩,A11,H⟩:=bi_ H
  try dsimp only at H
  simp only [Option.some.injEq,Prod.mk.injEq] at H
  obtain ⟨rfl,rfl,rfl⟩:=H
  go_enter Try.func17,Try.ntmps17
  go_wp2_with (first | ((with_reducible refine gB_ (N:=1) rfl ?_);refine bx_ 1 #[.slice A0_0 l0_0.length c0_0,.slice A0_1 l0_1.length c0_1] 33 ?_;intro gb217 hg w12 hbox hb;have BK217:=A_ hbox;have GW217:=gw_ w hg;have GE217:=GW217;replace HB:=b1_ hb;clear hb hbox hg) | ((with_reducible refine gB_ (N:=2) rfl ?_);refine bx_ 2 #[.slice none 0 0,.slice none 0 0] 33 ?_;intro gb218 hg w13 hbox hb;have BK218:=A_ hbox;have GW218:=gw_ w hg;have GE218:=GW218;replace HB:=b1_ hb;have NB217_218:=gN_ BK217 hg;have NB218_217:=gP_ BK217 hg;replace BK217:=bb_ BK217 hb;clear hb hbox hg;have hnb14:=NB217_218.out;have hnc14:=NB218_217.out;obtain ⟨hcz15_0,hcz15_1,hfz15_0,hfz15_1⟩:=c2_ BK217) | ((with_reducible refine gA_ (f:=58) rfl ?_);refine gL_ (some 6) Try.func58 #[.agg #[.slice A0_0 l0_0.length c0_0,.slice A0_1 l0_1.length c0_1]] rfl qa_ ?_;(with_reducible refine (Z36.calls k _ _ l0_0 _ _ l0_1 t219 _ (cb_ HR0_0) HC0_0.out (cb_ HR0_1) HC0_1.out A2.out).mono ?_);rintro e w16 ⟨v220,rfl,ho0,hb⟩;refine ⟨_,rfl,?_⟩;have HO221:=A_ (Kd.S_lower (Kd.S_newB (Kd.S_newB (Kd.S_newM (M:=fun k_=>(w.heap.size≤k_)) ho0 (bF_ hB_) (fun k_ h_=>h_)) (kk_ BK217)) (kk_ BK218)) (bF_ hB_));replace BK217:=bb_ BK217 hb;replace BK218:=bb_ BK218 hb;replace HB:=b1_ hb;clear hb ho0;obtain ⟨Ao17,co17,eo17⟩:=Kd.S_slice HO221.out;subst eo17) | ((with_reducible refine gA_ (f:=59) rfl ?_);refine gL_ (some 12) Try.func59 #[.slice Ao17 t219.length co17,.func (.func 60) #[] #[]] rfl qa_ ?_;(with_reducible refine (Z29.calls k (fun k_=>((((w.heap.size≤k_)∧True)∧k_≠gb217)∧k_≠gb218)) _ _ t219 t222 t225 _ (Kd.S_V (HO221.out)) A11.out).mono ?_);rintro e w18 ⟨v223,v226,rfl,ho0,ho1,hb,hj_⟩;refine ⟨_,rfl,?_⟩;have HOW_:=A_ (atJ_own (ss_ HO221) hj_ hb);clear hj_;replace HO221:=sb_ HO221 hb;have HO224:=A_ (Kd.V_lower (Kd.V_mono (ok':=fun k_=>(w.heap.size≤k_)∧k_≠gb217∧k_≠gb218) ho0 (fun k_ hk_=>⟨Or.elim hk_ (fun hs_=>hs_.1.1.1) (fun hn_=>(Nat.le_trans (bF_ hB_) hn_)),Or.elim hk_ (fun hs_=>hs_.1.2) (fun hn_=>(Kd.freshB (kk_ BK217) k_ hn_)),Or.elim hk_ (fun hs_=>hs_.2) (fun hn_=>(Kd.freshB (kk_ BK218) k_ hn_))⟩)) (bF_ hB_));have HO227:=A_ (Kd.V_lower (Kd.V_mono (ok':=fun k_=>(w.heap.size≤k_)∧k_≠gb217∧k_≠gb218) ho1 (fun k_ hk_=>⟨Or.elim hk_ (fun hs_=>hs_.1.1.1) (fun hn_=>(Nat.le_trans (bF_ hB_) hn_)),Or.elim hk_ (fun hs_=>hs_.1.2) (fun hn_=>(Kd.freshB (kk_ BK217) k_ hn_)),Or.elim hk_ (fun hs_=>hs_.2) (fun hn_=>(Kd.freshB (kk_ BK218) k_ hn_))⟩)) (bF_ hB_));replace BK217:=bb_ BK217 hb;replace BK218:=bb_ BK218 hb;replace HB:=b1_ hb;clear hb ho0 ho1;obtain ⟨Ao19,co19,eo19⟩:=Kd.V_slice HO224.out;subst eo19;obtain ⟨hcz20_0,hcz20_1,hfz20_0,hfz20_1⟩:=c2_ BK218;obtain ⟨Ao21,co21,eo21⟩:=Kd.V_slice HO227.out;subst eo21))
  refine bodyPost_ret (results_ct rfl _ _ gb218 33 #[.slice Ao19 t222.length co19,.slice Ao21 t225.length co21] (0,0) _ rfl qp_ Try.underlying33 rfl (by kernel_rfl)) rfl ?_
  exact ⟨_,_,qb_,(rw_ (Kd.R_mono (Kd.R_tight rfl (Kd.R_far (p:=⟨gb218,1,none⟩) (Kd.R_far (p:=⟨gb218,0,none⟩) (Kd.R_types HOW_.out.1 (BK218.out) (by decide)) (fun _ hk=>hk.2) _) (fun _ hk=>hk.2) _)) (fun k_ e1_ e2_=>HOW_.out.2.2 k_ e1_.symm e2_.symm))),(rw_ (Kd.R_mono (Kd.R_tight rfl (Kd.R_far (p:=⟨gb218,1,none⟩) (Kd.R_far (p:=⟨gb218,0,none⟩) (Kd.R_types HOW_.out.2.1 (BK218.out) (by decide)) (fun _ hk=>hk.2) _) (fun _ hk=>hk.2) _)) (fun k_ e1_ e2_=>HOW_.out.2.2 k_ e2_.symm e1_.symm))),hB_⟩
def Z49.f (l0:List Int):Option (List Int):=(some (([]:List Int):List Int)).bind fun y230=>(if y230.length + l0.length < 17592186044416 then (some (y230 ++ l0)) else (none))
set_option maxHeartbeats 8000000 in
set_option maxRecDepth 100000 in
theorem Z49.calls (A0:Option Addr) (c0:Nat) (l0:List Int) (r:List Int) (w:World) (hr0:Kd.C (Kd.int .i64) w A0 l0.length l0) (hc0:l0.length≤c0) (h:Z49.f l0 = some r) :
  Calls Try.prog 100 #[.slice A0 l0.length c0] w fun e w'=>∃ v0_:Value,e = .returned (v0_)∧Kd.R (Kd.int .i64) 3 w' w.heap.size (fun _=>True) v0_ r∧Below w.heap.size w w':=by
 have HR0:=A_ hr0
 have HC0:=A_ hc0
 clear hr0 hc0
 have HB:=A_ (Below.refl w.heap.size w)
 have H:=h
 unfold Z49.f at H
 clear h
 obtain ⟨y230,hy230⟩:∃ y_:List Int,y_ = (([]:List Int)):=⟨_,rfl⟩
 replace H:(if y230.length + l0.length < 17592186044416 then (some (y230 ++ l0)) else (none)) = some r:=by first | (rw [hy230];exact H) | exact H
 have Ny230:=A_ hy230
 clear hy230
 have c2:=cp_ H
 replace H:=ca_ H
 have LMc2:=A_ c2
 clear c2
 obtain ⟨y233,hy233⟩:∃ y_:List Int,y_ = (y230 ++ l0):=⟨_,rfl⟩
 replace H:(some y233) = some r:=by first | (rw [hy233];exact H) | exact H
 have Ny233:=A_ hy233
 clear hy233
 obtain rfl:=Option.some.inj H
 go_enter Try.func100,Try.ntmps100
 go_wp2_with (first | ((with_reducible refine gB_ (N:=3) rfl ?_);refine Kd.R_lit (Kd.int .i64) _ 3 ?hg (N:=3) ?hd (xs:=([]:List Int)) (inner:=[]) (ok:=fun _=>True) (okp:=fun _=>True) ?hr ?hp (fun _ hk=>hk) trivial (Below.refl _ _) (nA_ _) (by simp) ?_;(case hd=>rfl);(case hg=>rfl);(case hr=>first | (go_simp;done) | (go_simp;rfl));(case hp=>exact (Reps.none _ _));intro v231 w3 ho4 hb hg_ hnew_;clear hg_ hnew_;(first | rw [← Ny230.out] at ho4 | (simp only [Int.reduceToNat] at ho4;rw [← Ny230.out] at ho4));have HO232:=rl_ w ho4;replace HB:=b1_ hb;clear hb ho4) | ((with_reducible refine gate_builtin (b:=.append) (xs:=#[.tmp 3,.tmp 4]) rfl ?_);at_builtin;refine Kd.R_append_rows (Kd.int .i64) (w0:=w) w.heap.size rfl (.tmp 3) (.tmp 4) 23 3 (.int .i64 0) 8 rfl Try.underlying23 info3 rfl (by decide) (by omega) v231 y230 l0 _ _ _ (fun _=>True) (fun _=>False) rfl rfl ?aO ?aR (fun _ _ h=>h) (fun _ h=>h.elim) ?aF ?aB ?aS ?aL ?_;(case aR=>exact cb_ HR0);(case aB=>exact hB_);(case aF=>exact (fun _ _=>trivial));(case aO=>exact (rr_ HO232));(case aS=>exact (bF_ hB_));(case aL=>have:=LMc2.out;omega);intro v234 w5 ho hb hg hat;rw [← Ny233.out] at ho;replace HB:=A_ hb;have HO235:=A_ ho;clear HO232;clear ho hb hg hat))
 go_ret
 exact ⟨_,qb_,(rr_ HO235),hB_⟩
def Z21.l0:Nat→List Int→List Int→Int→Int→Option (List Int)
 | 0,_,_,_,_=>none
 | k + 1,x3,x12,x13,x14=>if x14 < x13 then (if 0≤x14 then (if x14 < (x12.length:Int) then (if 0≤(rd x12 x14) then (if (rd x12 x14) < (x3.length:Int) then (Z21.l0 k (x3.set ((rd x12 x14):Int).toNat x14) x12 x13 (wrap64 (x14 + 1))) else (none)) else (none)) else (none)) else (none)) else (some x3)
def Z21.f (k:Nat) (l0:List Int):Option (List Int):=(Z65.f k l0).bind fun t310=>(if t310 = true then (if 0≤(l0.length:Int) then (if ((l0.length:Int):Int).toNat≤35184372088832 then (Z21.l0 k (List.replicate ((l0.length:Int):Int).toNat 0) l0 (l0.length:Int) 0) else (none)) else (none)) else (some ([]:List Int)))
theorem Z21.mono_l:∀ k,(∀ y0 y1 y2 y3,LeO (Z21.l0 k y0 y1 y2 y3) (Z21.l0 (k + 1) y0 y1 y2 y3))
 | 0=>fun _ _ _ _ r h=>by simp [Z21.l0] at h
 | k + 1=>by
  have ih0:=Z21.mono_l k
  ·intro y0 y1 y2 y3
   unfold Z21.l0
   repeat' first|exact ih0 _ _ _ _|exact Z65.mono _ _|exact lo_|refine LeO.ite ?_ ?_|refine LeO.bind ?_ (fun _=>?_)
theorem Z21.mono:∀ a0 k,LeO (Z21.f k a0) (Z21.f (k + 1) a0):=by
 intro a0 k
 have ih0:=Z21.mono_l k
 unfold Z21.f
 repeat' first|exact ih0 _ _ _ _|exact Z65.mono _ _|exact lo_|refine LeO.ite ?_ ?_|refine LeO.bind ?_ (fun _=>?_)
set_option maxHeartbeats 8000000 in
set_option maxRecDepth 100000 in
theorem Z21.calls (k:Nat) (A0:Option Addr) (c0:Nat) (l0:List Int) (r:List Int) (w:World) (hr0:Kd.C (Kd.int .i64) w A0 l0.length l0) (hc0:l0.length≤c0) (h:Z21.f k l0 = some r) :
  Calls Try.prog 122 #[.slice A0 l0.length c0] w fun e w'=>∃ v0_:Value,e = .returned (v0_)∧Kd.R (Kd.int .i64) 3 w' w.heap.size (fun _=>True) v0_ r∧Below w.heap.size w w':=by
 have HR0:=A_ hr0
 have HC0:=A_ hc0
 clear hr0 hc0
 have HB:=A_ (Below.refl w.heap.size w)
 have H:=h
 unfold Z21.f at H
 clear h
 obtain ⟨t310,A2,H⟩:=bi_ H
 by_cases c3:t310 = true
 ·subst c3
  rw [if_pos rfl] at H
  have c4:=cp_ H
  replace H:=ca_ H
  have c4b0:=eq_true c4
  have c4b1:=oC_ c4
  clear c4
  have c5:=cp_ H
  replace H:=ca_ H
  have c5b0:=eq_true c5
  have c5b1:=oC_ c5
  clear c5
  obtain ⟨y311,hy311⟩:∃ y_:List Int,y_ = (List.replicate ((l0.length:Int):Int).toNat 0):=⟨_,rfl⟩
  replace H:(Z21.l0 k y311 l0 (l0.length:Int) 0) = some r:=by first | (rw [hy311];exact H) | exact H
  have Ny311:=A_ hy311
  clear hy311
  have H':=A_ H
  clear H
  go_enter Try.func122,Try.ntmps122
  go_wp2_with (first | ((with_reducible refine gA_ (f:=109) rfl ?_);refine gL_ (some 7) Try.func109 #[.slice A0 l0.length c0] rfl qa_ ?_;(with_reducible refine (Z65.calls k _ _ l0 true _ (cc_ HR0) HC0.out A2.out).mono ?_);rintro e w6 ⟨rfl,hb⟩;refine ⟨_,rfl,?_⟩;replace HB:=b1_ hb;clear hb) | ((with_reducible refine gB_ (N:=11) rfl ?_);refine Kd.R_make (Kd.int .i64) _ 3 rfl (N:=11) rfl 23 _ _ rfl (l0.length:Int) rfl rfl Try.underlying23 (.int .i64 0) 8 info3 rfl (by decide) (by omega) 0 (ok:=fun _=>True) (okp:=fun _=>True) rfl (fun _ hk=>hk) trivial (oB_ qe_) (Nat.le_trans (Nat.mul_le_mul_right _ (oB_ qe_:(l0.length:Int).toNat≤35184372088832)) (by omega)) (Below.refl _ _) (nA_ _) ?_;intro v312 w7 ho8 hb hg_ hnew_;clear hg_ hnew_;(first | rw [← Ny311.out] at ho8 | (simp only [Int.reduceToNat] at ho8;rw [← Ny311.out] at ho8));have HO313:=rl_ w ho8;replace HB:=b1_ hb;clear hb ho8))
  go_loopg [14] k (fun kq v14 w'=>∃ (x3_1:List Int) (x14_1:Int),v14 = .int .i64 x14_1∧Aside0 (Z21.l0 kq x3_1 l0 (l0.length:Int) x14_1 = some r)∧Aside0 (kq≤k)∧Aside0 (Kd.R (Kd.int .i64) 3 w' w.heap.size (fun _=>True) v312 x3_1)∧Aside0 (Below w.heap.size w w'))
  case atStart=>exact ⟨(y311),(0),qc_,H',⟨nA_ _⟩,⟨(rr_ HO313)⟩,⟨hB_⟩⟩
  case round =>
   clear H'
   obtain ⟨x3_1,x14_1,rfl,HA,HK1,HO_3,HB⟩:=hrel
   cases gk with
   | zero=>exact absurd HA.out (by simp [Z21.l0])
   | succ k1 =>
    have H:=HA.out
    clear HA
    simp only [Z21.l0] at H
    by_cases c9:x14_1 < (l0.length:Int)
    ·rw [if_pos c9] at H
     have c9b0:=oC_ c9
     clear c9
     replace H:=cx_ H;obtain ⟨c10b0,H⟩:=H
     replace H:=cx_ H;obtain ⟨c11b0,H⟩:=H
     replace H:=cx_ H;obtain ⟨c12b0,H⟩:=H
     replace H:=cx_ H;obtain ⟨c13b0,H⟩:=H
     obtain ⟨y315,hy315⟩:∃ y_:List Int,y_ = (x3_1.set ((rd l0 x14_1):Int).toNat x14_1):=⟨_,rfl⟩
     replace H:(Z21.l0 k1 y315 l0 (l0.length:Int) (wrap64 (x14_1 + 1))) = some r:=by first | (rw [hy315];exact H) | exact H
     have Ny315:=A_ hy315
     clear hy315
     have H':=A_ H
     clear H
     have p314:0≤(x14_1:Int):=oB_ qe_
     have q314:x14_1 < (l0.length:Int):=oB_ qe_
     obtain ⟨ad314,e314,hx314_0⟩:=Kd.at_int HR0.out x14_1 p314 q314
     cases e314
     replace hx314_0:=(HB.out.cell (World.block_lt_of_cell? w _ hx314_0)).trans hx314_0
     replace p314:=eq_true p314
     replace q314:=eq_true q314
     have p14:0≤((rd l0 x14_1):Int):=oB_ qe_
     have q14:((rd l0 x14_1):Int) < ((x3_1.length:Int):Int):=oB_ qe_
     obtain ⟨go14,co14,eo14,gb14,gl14,cl14,HG14⟩:=Kd.R_form HO_3.out (by omega)
     (first | cases eo14 | (injection eo14 with ea_ en_ ec_;(first | subst ea_ | (injection ea_ with ea_;subst ea_));subst ec_;clear en_))
     have GB14:=A_ gb14
     have GG14:=A_ HG14
     clear gb14 gl14 HG14
     obtain ⟨hx14_0,hf14_0⟩:=Kd.R_celln 0 HO_3.out ((rd l0 x14_1):Int) p14 q14
     replace p14:=eq_true p14
     replace q14:=eq_true q14
     have HP15:=Kd.R_putg HO_3.out ((rd l0 x14_1):Int) x14_1
     go_wp2_with (first | ((with_reducible refine gate_store (t:=3) (p:=22) rfl ?_);refine store_event (t:=3) (p:=22) (v:=?vo_w16) (w1:=(wr.setCell ⟨go14,((rd l0 x14_1):Int).toNat,none⟩ (.int .i64 x14_1))) ?hg ?ho ?hn ?hr ?_;(case ho=>rfl);(case hg=>rfl);(case hn=>rfl);(case hr=>first | (go_simp;done) | (go_simp;rfl));intro w16 hw;have hg:wr.grownBy w16 (some go14):=(by rw [hw];exact HP15.2);have hp_:Kd.R (Kd.int .i64) 3 w16 w.heap.size (fun _=>True) (.slice (some ⟨go14,0,none⟩) x3_1.length co14) y315:=(by rw [hw,Ny315.out];exact HP15.1);clear HP15;replace HO_3:=A_ (hp_);replace HB:=A_ ((by rw [hw];exact bD_ (HB.out) GB14.out:Below w.heap.size w w16));clear hg hw hp_))
     go_roundg k1
     case measure=>have:=HK1.out;omega
     case rel=>exact ⟨(y315),(wrap64 (x14_1 + 1)),qc_,H',⟨by have:=HK1.out;omega⟩,⟨(rr_ HO_3)⟩,⟨hB_⟩⟩
    ·rw [if_neg c9] at H
     have c9b0:=oD_ c9
     clear c9
     obtain rfl:=Option.some.inj H
     go_wp2
     go_ret
     exact ⟨_,qb_,(rr_ HO_3),hB_⟩
 ·replace c3:=Bool.eq_false_iff.mpr c3
  subst c3
  have H1:(some ([]:List Int)) = some r:=by rw [if_neg (show ¬ (false = true) by decide)] at H;exact H
  clear H
  have H:=H1
  clear H1
  obtain rfl:=Option.some.inj H
  go_enter Try.func122,Try.ntmps122
  go_wp2_with (first | ((with_reducible refine gA_ (f:=109) rfl ?_);refine gL_ (some 7) Try.func109 #[.slice A0 l0.length c0] rfl qa_ ?_;(with_reducible refine (Z65.calls k _ _ l0 false _ (cc_ HR0) HC0.out A2.out).mono ?_);rintro e w17 ⟨rfl,hb⟩;refine ⟨_,rfl,?_⟩;replace HB:=b1_ hb;clear hb))
  go_ret
  exact ⟨_,qb_,by first | exact Kd.R_nil _ _ _ _ _ | exact Kd.N_nil _ _ _ _ _ | exact Kd.V_nil _ _ _ _ _ | exact Kd.Q_nil _ _ _ _ _ | exact Kd.S_nil _ _ _ _ _,hB_⟩
end Go.Proofs.Ytoijcallajegfaa.A
end
section
namespace Go.Proofs.Ytoijcallajegfaa.A
open Go.RowKit Go.Proofs.YtoijcallajegfaaW.PrintWords Go.Proofs.YtoijcallajegfaaW.PrintLast Go.Proofs.YtoijcallajegfaaW.PrintMore
attribute [local go_sem] max2_int min2_int max_two min_two max_three min_three max_four min_four
set_option linter.unusedVariables false
set_option linter.unusedSimpArgs false
mutual
def Z47.j0:Nat→List Int→List Int→Bool→Option (List Int)
 | 0,_,_,_=>none
 | k + 1,x0,x1,x22=>if x22 = true then (some ([]:List Int)) else (if 0≤(x0.length:Int) then (if ((x0.length:Int):Int).toNat≤35184372088832 then (Z47.l0 k x1 (List.replicate ((x0.length:Int):Int).toNat 0) x0 (x0.length:Int) 0) else (none)) else (none))
def Z47.l0:Nat→List Int→List Int→List Int→Int→Int→Option (List Int)
 | 0,_,_,_,_,_=>none
 | k + 1,x1,x5,x26,x27,x28=>if x28 < x27 then (if 0≤x28 then (if x28 < (x26.length:Int) then (if 0≤(rd x26 x28) then (if (rd x26 x28) < (x1.length:Int) then (if x28 < (x5.length:Int) then (Z47.l0 k x1 (x5.set (x28:Int).toNat (rd x1 (rd x26 x28))) x26 x27 (wrap64 (x28 + 1))) else (none)) else (none)) else (none)) else (none)) else (none)) else (some x5)
end
def Z47.f (k:Nat) (l0:List Int) (l1:List Int):Option (List Int):=(Z65.f k l0).bind fun t316=>(if t316 = true then ((Z65.f k l1).bind fun t317=>(if t317 = true then (Z47.j0 k l0 l1 ((l0.length:Int) != (l1.length:Int))) else (Z47.j0 k l0 l1 true))) else (Z47.j0 k l0 l1 true))
theorem Z47.mono_l:∀ k,(∀ y0 y1 y2,LeO (Z47.j0 k y0 y1 y2) (Z47.j0 (k + 1) y0 y1 y2))∧(∀ y0 y1 y2 y3 y4,LeO (Z47.l0 k y0 y1 y2 y3 y4) (Z47.l0 (k + 1) y0 y1 y2 y3 y4))
 | 0=>⟨fun _ _ _ r h=>by simp [Z47.j0] at h,fun _ _ _ _ _ r h=>by simp [Z47.l0] at h⟩
 | k + 1=>by
  obtain ⟨ih0,ih1⟩:=Z47.mono_l k
  refine ⟨?_,?_⟩
  ·intro y0 y1 y2
   unfold Z47.j0
   repeat' first|exact ih0 _ _ _|exact ih1 _ _ _ _ _|exact Z65.mono _ _|exact lo_|refine LeO.ite ?_ ?_|refine LeO.bind ?_ (fun _=>?_)
  ·intro y0 y1 y2 y3 y4
   unfold Z47.l0
   repeat' first|exact ih0 _ _ _|exact ih1 _ _ _ _ _|exact Z65.mono _ _|exact lo_|refine LeO.ite ?_ ?_|refine LeO.bind ?_ (fun _=>?_)
theorem Z47.mono:∀ a0 a1 k,LeO (Z47.f k a0 a1) (Z47.f (k + 1) a0 a1):=by
 intro a0 a1 k
 obtain ⟨ih0,ih1⟩:=Z47.mono_l k
 unfold Z47.f
 repeat' first|exact ih0 _ _ _|exact ih1 _ _ _ _ _|exact Z65.mono _ _|exact lo_|refine LeO.ite ?_ ?_|refine LeO.bind ?_ (fun _=>?_)
set_option maxHeartbeats 8000000 in
set_option maxRecDepth 100000 in
theorem Z47.calls (k:Nat) (A0:Option Addr) (c0:Nat) (l0:List Int) (A1:Option Addr) (c1:Nat) (l1:List Int) (r:List Int) (w:World) (hr0:Kd.C (Kd.int .i64) w A0 l0.length l0) (hc0:l0.length≤c0) (hr1:Kd.C (Kd.int .i64) w A1 l1.length l1) (hc1:l1.length≤c1) (h:Z47.f k l0 l1 = some r) :
  Calls Try.prog 152 #[.slice A0 l0.length c0,.slice A1 l1.length c1] w fun e w'=>∃ v0_:Value,e = .returned (v0_)∧Kd.R (Kd.int .i64) 3 w' w.heap.size (fun _=>True) v0_ r∧Below w.heap.size w w':=by
 have HR0:=A_ hr0
 have HC0:=A_ hc0
 clear hr0 hc0
 have HR1:=A_ hr1
 have HC1:=A_ hc1
 clear hr1 hc1
 have HB:=A_ (Below.refl w.heap.size w)
 have H:=h
 unfold Z47.f at H
 clear h
 have HC3:=A_ H
 clear H
 go_enter Try.func152,Try.ntmps152
 go_upto_region 1 with (fail)
 go_cut [22] (fun v22 wc=>∃ (kq:Nat) (x22_2:Bool),v22 = .bool x22_2∧Aside0 (Z47.j0 kq l0 l1 x22_2 = some r)∧Aside0 (kq≤k)∧Aside0 (Below w.heap.size w wc))
 case first =>
  have H:=HC3.out
  clear HC3
  obtain ⟨t316,A4,H⟩:=bi_ H
  by_cases c5:t316 = true
  ·subst c5
   rw [if_pos rfl] at H
   obtain ⟨t317,A6,H⟩:=bi_ H
   by_cases c7:t317 = true
   ·subst c7
    rw [if_pos rfl] at H
    have H':=A_ H
    clear H
    go_wp2_with (first | ((with_reducible refine gA_ (f:=109) rfl ?_);refine gL_ (some 9) Try.func109 #[.slice A0 l0.length c0] rfl qa_ ?_;(with_reducible refine (Z65.calls k _ _ l0 true _ (cb_ HR0) HC0.out A4.out).mono ?_);rintro e w8 ⟨rfl,hb⟩;refine ⟨_,rfl,?_⟩;replace HB:=b1_ hb;clear hb) | (go_at_call 109;(with_reducible refine (Z65.calls k _ _ l1 true _ (cb_ HR1) HC1.out A6.out).mono ?_);rintro e w9 ⟨rfl,hb⟩;replace HB:=b1_ hb;clear hb))
    go_meet
    case rel=>exact ⟨_,(((l0.length:Int) != (l1.length:Int))),qc_,H',⟨qd_⟩,⟨hB_⟩⟩
   ·replace c7:=Bool.eq_false_iff.mpr c7
    subst c7
    have H1:(Z47.j0 k l0 l1 true) = some r:=by rw [if_neg (show ¬ (false = true) by decide)] at H;exact H
    clear H
    have H:=H1
    clear H1
    have H':=A_ H
    clear H
    go_wp2_with (first | ((with_reducible refine gA_ (f:=109) rfl ?_);refine gL_ (some 9) Try.func109 #[.slice A0 l0.length c0] rfl qa_ ?_;(with_reducible refine (Z65.calls k _ _ l0 true _ (cb_ HR0) HC0.out A4.out).mono ?_);rintro e w10 ⟨rfl,hb⟩;refine ⟨_,rfl,?_⟩;replace HB:=b1_ hb;clear hb) | (go_at_call 109;(with_reducible refine (Z65.calls k _ _ l1 false _ (cb_ HR1) HC1.out A6.out).mono ?_);rintro e w11 ⟨rfl,hb⟩;replace HB:=b1_ hb;clear hb))
    go_meet
    case rel=>exact ⟨_,(true),qc_,H',⟨qd_⟩,⟨hB_⟩⟩
  ·replace c5:=Bool.eq_false_iff.mpr c5
   subst c5
   have H1:(Z47.j0 k l0 l1 true) = some r:=by rw [if_neg (show ¬ (false = true) by decide)] at H;exact H
   clear H
   have H:=H1
   clear H1
   have H':=A_ H
   clear H
   go_wp2_with (first | ((with_reducible refine gA_ (f:=109) rfl ?_);refine gL_ (some 9) Try.func109 #[.slice A0 l0.length c0] rfl qa_ ?_;(with_reducible refine (Z65.calls k _ _ l0 false _ (cb_ HR0) HC0.out A4.out).mono ?_);rintro e w12 ⟨rfl,hb⟩;refine ⟨_,rfl,?_⟩;replace HB:=b1_ hb;clear hb))
   go_meet
   case rel=>exact ⟨_,(true),qc_,H',⟨qd_⟩,⟨hB_⟩⟩
 case rest =>
  clear HC3
  obtain ⟨kq,x22_2,rfl,HA,HJ2,HB⟩:=hcut
  cases kq with
  | zero=>exact absurd HA.out (by simp [Z47.j0])
  | succ kj2 =>
   have H:=HA.out
   clear HA
   simp only [Z47.j0] at H
   by_cases c13:x22_2 = true
   ·subst c13
    rw [if_pos rfl] at H
    obtain rfl:=Option.some.inj H
    go_wp2
    go_ret
    exact ⟨_,qb_,by first | exact Kd.R_nil _ _ _ _ _ | exact Kd.N_nil _ _ _ _ _ | exact Kd.V_nil _ _ _ _ _ | exact Kd.Q_nil _ _ _ _ _ | exact Kd.S_nil _ _ _ _ _,hB_⟩
   ·replace c13:=Bool.eq_false_iff.mpr c13
    subst c13
    have H1:(if 0≤(l0.length:Int) then (if ((l0.length:Int):Int).toNat≤35184372088832 then (Z47.l0 kj2 l1 (List.replicate ((l0.length:Int):Int).toNat 0) l0 (l0.length:Int) 0) else (none)) else (none)) = some r:=by rw [if_neg (show ¬ (false = true) by decide)] at H;exact H
    clear H
    have H:=H1
    clear H1
    have c14:=cp_ H
    replace H:=ca_ H
    have c14b0:=eq_true c14
    have c14b1:=oC_ c14
    clear c14
    have c15:=cp_ H
    replace H:=ca_ H
    have c15b0:=eq_true c15
    have c15b1:=oC_ c15
    clear c15
    obtain ⟨y318,hy318⟩:∃ y_:List Int,y_ = (List.replicate ((l0.length:Int):Int).toNat 0):=⟨_,rfl⟩
    replace H:(Z47.l0 kj2 l1 y318 l0 (l0.length:Int) 0) = some r:=by first | (rw [hy318];exact H) | exact H
    have Ny318:=A_ hy318
    clear hy318
    have H':=A_ H
    clear H
    go_wp2_with (first | ((with_reducible refine gB_ (N:=25) rfl ?_);(try (refine gate_guard (by rfl) ?_;dsimp only));refine Kd.R_make (Kd.int .i64) _ 3 rfl (N:=25) rfl 23 _ _ rfl (l0.length:Int) rfl rfl Try.underlying23 (.int .i64 0) 8 info3 rfl (by decide) (by omega) 0 (ok:=fun _=>True) (okp:=fun _=>True) rfl (fun _ hk=>hk) trivial (oB_ qe_) (Nat.le_trans (Nat.mul_le_mul_right _ (oB_ qe_:(l0.length:Int).toNat≤35184372088832)) (by omega)) (Below.refl _ _) (nA_ _) ?_;intro v319 w16 ho17 hb hg_ hnew_;clear hg_ hnew_;(first | rw [← Ny318.out] at ho17 | (simp only [Int.reduceToNat] at ho17;rw [← Ny318.out] at ho17));have HO320:=rl_ w ho17;replace HB:=b1_ hb;clear hb ho17))
    go_loopg [28] kj2 (fun kq v28 w'=>∃ (x5_2:List Int) (x28_2:Int),v28 = .int .i64 x28_2∧Aside0 (Z47.l0 kq l1 x5_2 l0 (l0.length:Int) x28_2 = some r)∧Aside0 (kq≤kj2)∧Aside0 (Kd.R (Kd.int .i64) 3 w' w.heap.size (fun _=>True) v319 x5_2)∧Aside0 (Below w.heap.size w w'))
    case atStart=>exact ⟨(y318),(0),qc_,H',⟨nA_ _⟩,⟨(rr_ HO320)⟩,⟨hB_⟩⟩
    case round =>
     clear H'
     obtain ⟨x5_2,x28_2,rfl,HA,HK2,HO_5,HB⟩:=hrel
     cases gk with
     | zero=>exact absurd HA.out (by simp [Z47.l0])
     | succ k2 =>
      have H:=HA.out
      clear HA
      simp only [Z47.l0] at H
      by_cases c18:x28_2 < (l0.length:Int)
      ·rw [if_pos c18] at H
       have c18b0:=oC_ c18
       clear c18
       replace H:=cx_ H;obtain ⟨c19b0,H⟩:=H
       replace H:=cx_ H;obtain ⟨c20b0,H⟩:=H
       replace H:=cx_ H;obtain ⟨c21b0,H⟩:=H
       replace H:=cx_ H;obtain ⟨c22b0,H⟩:=H
       replace H:=cx_ H;obtain ⟨c23b0,H⟩:=H
       obtain ⟨y323,hy323⟩:∃ y_:List Int,y_ = (x5_2.set (x28_2:Int).toNat (rd l1 (rd l0 x28_2))):=⟨_,rfl⟩
       replace H:(Z47.l0 k2 l1 y323 l0 (l0.length:Int) (wrap64 (x28_2 + 1))) = some r:=by first | (rw [hy323];exact H) | exact H
       have Ny323:=A_ hy323
       clear hy323
       have H':=A_ H
       clear H
       have p321:0≤(x28_2:Int):=oB_ qe_
       have q321:x28_2 < (l0.length:Int):=oB_ qe_
       obtain ⟨ad321,e321,hx321_0⟩:=Kd.at_int HR0.out x28_2 p321 q321
       cases e321
       replace hx321_0:=(HB.out.cell (World.block_lt_of_cell? w _ hx321_0)).trans hx321_0
       replace p321:=eq_true p321
       replace q321:=eq_true q321
       have p322:0≤((rd l0 x28_2):Int):=oB_ qe_
       have q322:(rd l0 x28_2) < (l1.length:Int):=oB_ qe_
       obtain ⟨ad322,e322,hx322_0⟩:=Kd.at_int HR1.out (rd l0 x28_2) p322 q322
       cases e322
       replace hx322_0:=(HB.out.cell (World.block_lt_of_cell? w _ hx322_0)).trans hx322_0
       replace p322:=eq_true p322
       replace q322:=eq_true q322
       have p24:0≤(x28_2:Int):=oB_ qe_
       have q24:(x28_2:Int) < ((x5_2.length:Int):Int):=oB_ qe_
       obtain ⟨go24,co24,eo24,gb24,gl24,cl24,HG24⟩:=Kd.R_form HO_5.out (by omega)
       (first | cases eo24 | (injection eo24 with ea_ en_ ec_;(first | subst ea_ | (injection ea_ with ea_;subst ea_));subst ec_;clear en_))
       have GB24:=A_ gb24
       have GG24:=A_ HG24
       clear gb24 gl24 HG24
       obtain ⟨hx24_0,hf24_0⟩:=Kd.R_celln 0 HO_5.out (x28_2:Int) p24 q24
       replace p24:=eq_true p24
       replace q24:=eq_true q24
       have HP25:=Kd.R_putg HO_5.out (x28_2:Int) (rd l1 (rd l0 x28_2))
       go_wp2_with (first | ((with_reducible refine gate_store (t:=3) (p:=39) rfl ?_);refine store_event (t:=3) (p:=39) (v:=?vo_w26) (w1:=(wr.setCell ⟨go24,(x28_2:Int).toNat,none⟩ (.int .i64 (rd l1 (rd l0 x28_2))))) ?hg ?ho ?hn ?hr ?_;(case ho=>rfl);(case hg=>rfl);(case hn=>rfl);(case hr=>first | (go_simp;done) | (go_simp;rfl));intro w26 hw;have hg:wr.grownBy w26 (some go24):=(by rw [hw];exact HP25.2);have hp_:Kd.R (Kd.int .i64) 3 w26 w.heap.size (fun _=>True) (.slice (some ⟨go24,0,none⟩) x5_2.length co24) y323:=(by rw [hw,Ny323.out];exact HP25.1);clear HP25;replace HO_5:=A_ (hp_);replace HB:=A_ ((by rw [hw];exact bD_ (HB.out) GB24.out:Below w.heap.size w w26));clear hg hw hp_))
       go_roundg k2
       case measure=>have:=HJ2.out;have:=HK2.out;omega
       case rel=>exact ⟨(y323),(wrap64 (x28_2 + 1)),qc_,H',⟨by have:=HJ2.out;have:=HK2.out;omega⟩,⟨(rr_ HO_5)⟩,⟨hB_⟩⟩
      ·rw [if_neg c18] at H
       have c18b0:=oD_ c18
       clear c18
       obtain rfl:=Option.some.inj H
       go_wp2
       go_ret
       exact ⟨_,qb_,(rr_ HO_5),hB_⟩
end Go.Proofs.Ytoijcallajegfaa.A
end
section
namespace Go.Proofs.Ytoijcallajegfaa.A
open Go.RowKit Go.Proofs.YtoijcallajegfaaW.PrintWords Go.Proofs.YtoijcallajegfaaW.PrintLast Go.Proofs.YtoijcallajegfaaW.PrintMore
attribute [local go_sem] max2_int min2_int max_two min_two max_three min_three max_four min_four
set_option linter.unusedVariables false
set_option linter.unusedSimpArgs false
def Z14.f (k:Nat) (l0_0:List Int) (l0_1:List Int):Option (List Int × List Int × Bool):=(Z35.f k l0_0 l0_1).bind fun t676=>(if t676 = true then ((Z49.f l0_0).bind fun t677=>((Z21.f k l0_0).bind fun t680=>((Z47.f k t680 l0_1).bind fun t683=>(some (t677,t683,true))))) else (some (([]:List Int),([]:List Int),false)))
theorem Z14.mono:∀ a0 a1 k,LeO (Z14.f k a0 a1) (Z14.f (k + 1) a0 a1):=by
 intro a0 a1 k
 unfold Z14.f
 repeat' first|exact Z21.mono _ _|exact Z35.mono _ _ _|exact Z47.mono _ _ _|exact lo_|refine LeO.ite ?_ ?_|refine LeO.bind ?_ (fun _=>?_)
def Z14.T3:Bool × List (List Nat × List Nat):=(true,[([],[]),([0],[0]),([1],[1]),([],[]),([3],[3]),([4,2],[4]),([],[]),([6],[6]),([5,7,5],[5,7]),([2,8],[2,8]),([9,8,0,1,2,3,4,5,6,7,8,9],[9]),([10,0,1,2,3,4,5,6,7,8,9,10],[])])
def Z14.B3:List Nat:=[0,1,3,0,8,31,0,64,255,511,1023,2047]
theorem Z14.tab3:rtab .any (opsOf Try.f114 3) = Z14.T3:=by kernel_rfl
theorem Z14.bits3:waitsOk Z14.T3.2 Z14.B3 = true:=by kernel_rfl
set_option maxHeartbeats 8000000 in
set_option maxRecDepth 100000 in
theorem Z14.calls (k:Nat) (A0_0:Option Addr) (c0_0:Nat) (l0_0:List Int) (A0_1:Option Addr) (c0_1:Nat) (l0_1:List Int) (r1:List Int) (r2:List Int) (r3:Bool) (w:World) (hr0_0:Kd.C (Kd.int .i64) w A0_0 l0_0.length l0_0) (hc0_0:l0_0.length≤c0_0) (hr0_1:Kd.C (Kd.int .i64) w A0_1 l0_1.length l0_1) (hc0_1:l0_1.length≤c0_1) (h:Z14.f k l0_0 l0_1 = some (r1,r2,r3)) :
  Calls Try.prog 114 #[.agg #[.slice A0_0 l0_0.length c0_0,.slice A0_1 l0_1.length c0_1]] w fun e w'=>∃ v0_ v1_:Value,e = .returned (.tuple #[.agg #[v0_,v1_],.bool r3])∧Kd.R (Kd.int .i64) 3 w' w.heap.size (fun k_=>some k_≠(v1_:Value).ownBlock) v0_ r1∧Kd.R (Kd.int .i64) 3 w' w.heap.size (fun k_=>some k_≠(v0_:Value).ownBlock) v1_ r2∧Below w.heap.size w w':=by
 have hu33:=Try.underlying33
 have HR0_0:=A_ hr0_0
 have HC0_0:=A_ hc0_0
 clear hr0_0 hc0_0
 have HR0_1:=A_ hr0_1
 have HC0_1:=A_ hc0_1
 clear hr0_1 hc0_1
 have HB:=A_ (Below.refl w.heap.size w)
 have H:=h
 unfold Z14.f at H
 clear h
 obtain ⟨t676,A2,H⟩:=bi_ H
 by_cases c3:t676 = true
 ·subst c3
  rw [if_pos rfl] at H
  obtain ⟨t677,A4,H⟩:=bi_ H
  obtain ⟨t680,A5,H⟩:=bi_ H
  obtain ⟨t683,A6,H⟩:=bi_ H
  simp only [Option.some.injEq,Prod.mk.injEq] at H
  obtain ⟨rfl,rfl,rfl⟩:=H
  go_enter Try.func114,Try.ntmps114
  try go_wp2_with (first | ((with_reducible refine gB_ (N:=1) rfl ?_);refine bx_ 1 #[.slice A0_0 l0_0.length c0_0,.slice A0_1 l0_1.length c0_1] 33 ?_;intro gb674 hg w7 hbox hb;have BK674:=A_ hbox;have GW674:=gw_ w hg;have GE674:=GW674;replace HB:=b1_ hb;clear hb hbox hg) | ((with_reducible refine gB_ (N:=2) rfl ?_);refine bx_ 2 #[.slice none 0 0,.slice none 0 0] 33 ?_;intro gb675 hg w8 hbox hb;have BK675:=A_ hbox;have GW675:=gw_ w hg;have GE675:=GW675;replace HB:=b1_ hb;have NB674_675:=gN_ BK674 hg;have NB675_674:=gP_ BK674 hg;replace BK674:=bb_ BK674 hb;clear hb hbox hg;have hnb9:=NB674_675.out;have hnc9:=NB675_674.out;obtain ⟨hcz10_0,hcz10_1,hfz10_0,hfz10_1⟩:=c2_ BK674) | ((with_reducible refine gA_ (f:=19) rfl ?_);refine gL_ (some 5) Try.func19 #[.agg #[.slice A0_0 l0_0.length c0_0,.slice A0_1 l0_1.length c0_1]] rfl qa_ ?_;(with_reducible refine (Z35.calls k _ _ l0_0 _ _ l0_1 true _ (cb_ HR0_0) HC0_0.out (cb_ HR0_1) HC0_1.out A2.out).mono ?_);rintro e w11 ⟨rfl,hb⟩;refine ⟨_,rfl,?_⟩;replace BK674:=bb_ BK674 hb;replace BK675:=bb_ BK675 hb;replace HB:=b1_ hb;clear hb))
  replace BK674:=A_ (kB_ BK674.out)
  replace BK675:=A_ (kB_ BK675.out)
  replace HB:=A_ (bC_ HB.out)
  refine start_ (n:=12) (S:=fun w'=>w'.cell? ⟨gb674,0,none⟩ = some (.slice A0_0 l0_0.length c0_0)∧w'.cell? ⟨gb674,1,none⟩ = some (.slice A0_1 l0_1.length c0_1)) (ds:=[]) (bl_ 12 0) (by kernel_rfl) rfl (by kernel_rfl) ⟨cz0_ BK674,cz1_ BK674⟩ (fun hHeld=>?_);refine with_tabW Z14.tab3 Z14.bits3 (fun HT_ HW_=>?_)
  generalize w11.drew = w12 at BK674 BK675 HB hHeld ⊢
  refine pu_ 0 (some 8) (bl_ 12 1) HT_ ?_
  refine pu_ 3 (some 11) (bl_ 12 9) HT_ ?_
  refine pu_ 6 (some 14) (bl_ 12 73) HT_ ?_
  refine ta_ 1 (some 9) (bl_ 12 75) HT_ HW_ hHeld ?_
  refine ta_ 4 (some 12) (bl_ 12 91) HT_ HW_ hHeld ?_
  refine ta_ 7 (some 15) (bl_ 12 219) HT_ HW_ hHeld ?_
  refine on_ 2 (some 10) (bl_ 12 223) HT_ (fun K hK=>?_)
  refine gO_ Try.func100 #[.slice A0_0 l0_0.length c0_0] (by rfl) rfl rfl qa_ ?_
  with_reducible refine (Z49.calls _ _ l0_0 t677 _ (cb_ HR0_0) HC0_0.out A4.out).mono ?_
  rintro e w13 ⟨v678,rfl,ho0,hb⟩
  refine ⟨_,rfl,?_⟩
  have HO679:=rl_ w ho0
  replace BK674:=bb_ BK674 hb
  replace BK675:=bb_ BK675 hb
  replace HB:=b1_ hb
  clear hb ho0
  refine hK.out _ _ ⟨cz0_ BK674,cz1_ BK674⟩ (fun hHeld=>?_)
  clear hK K
  refine no_ (some 10) ?_
  refine on_ 5 (some 13) (bl_ 12 255) HT_ (fun K hK=>?_)
  refine gO_ Try.func122 #[.slice A0_0 l0_0.length c0_0] (by rfl) rfl rfl qa_ ?_
  with_reducible refine (Z21.calls k _ _ l0_0 t680 _ (cb_ HR0_0) HC0_0.out A5.out).mono ?_
  rintro e w14 ⟨v681,rfl,ho0,hb⟩
  refine ⟨_,rfl,?_⟩
  have HO682:=A_ (rE_ (Kd.R_new' ho0 (Kd.R_lt (rr_ HO679))) (bF_ hB_))
  replace HO679:=A_ (Kd.R_elder' (rr_ HO679) (Kd.R_base ho0) hb)
  replace BK674:=bb_ BK674 hb
  replace BK675:=bb_ BK675 hb
  replace HB:=b1_ hb
  clear hb ho0
  obtain ⟨Ao15,co15,eo15⟩:=Kd.R_slice HO682.out
  (first|subst eo15|(injection eo15 with a_ b_ c_;have a_:=a_.symm;have c_:=c_.symm;clear b_;subst a_;subst c_))
  refine hK.out _ _ ⟨cz0_ BK674,cz1_ BK674⟩ (fun hHeld=>?_)
  clear hK K
  refine no_ (some 13) ?_
  refine on_ 8 (some 16) (bl_ 12 511) HT_ (fun K hK=>?_)
  refine gO_ Try.func152 #[.slice Ao15 t680.length co15,.slice A0_1 l0_1.length c0_1] (by rfl) rfl rfl qa_ ?_
  with_reducible refine (Z47.calls k _ _ t680 _ _ l0_1 t683 _ (cr_ HO682) ((Kd.R_reads' HO682.out).2.1) (cb_ HR0_1) HC0_1.out A6.out).mono ?_
  rintro e w16 ⟨v684,rfl,ho0,hb⟩
  refine ⟨_,rfl,?_⟩
  have HO685:=A_ (rE_ (Kd.R_new' (Kd.R_new' ho0 (Kd.R_lt (rr_ HO679))) (Kd.R_lt (rr_ HO682))) (bF_ hB_))
  replace HO679:=A_ (Kd.R_elder' (rr_ HO679) (Kd.R_base ho0) hb)
  replace HO682:=A_ (Kd.R_elder' (rr_ HO682) (Kd.R_base ho0) hb)
  replace BK674:=bb_ BK674 hb
  replace BK675:=bb_ BK675 hb
  replace HB:=b1_ hb
  clear hb ho0
  obtain ⟨Ao17,co17,eo17⟩:=Kd.R_slice HO685.out
  (first|subst eo17|(injection eo17 with a_ b_ c_;have a_:=a_.symm;have c_:=c_.symm;clear b_;subst a_;subst c_))
  obtain ⟨Ao18,co18,eo18⟩:=Kd.R_slice HO679.out
  (first|subst eo18|(injection eo18 with a_ b_ c_;have a_:=a_.symm;have c_:=c_.symm;clear b_;subst a_;subst c_))
  refine hK.out _ _ ⟨cz0_ BK674,cz1_ BK674⟩ (fun hHeld=>?_)
  clear hK K
  refine no_ (some 16) ?_
  refine pu_ 9 (some 17) (bl_ 12 1023) HT_ ?_
  refine on_ 10 (none) (bl_ 12 2047) HT_ (fun K hK=>?_)
  have hs19:w16.cell? ⟨gb675,0,none⟩ = some (.slice none 0 0):=cz0_ BK675
  have hfs19:=kD_ BK675.out 0
  have hns19_0:=NB674_675.out
  have hms19_0:=NB675_674.out
  have hs20:w16.cell? ⟨gb675,1,none⟩ = some (.slice none 0 0):=cz1_ BK675
  have hfs20:=kD_ BK675.out 1
  have hns20_0:=NB674_675.out
  have hms20_0:=NB675_674.out
  refine skip_ (w1:=?_) (by rfl) rfl ?_ ?_
  rotate_left
  ·go_simp
   rfl
  refine hK.out _ _ ⟨((cell_far (p:=⟨gb675,_,none⟩) NB674_675.out _).trans (((cell_far (p:=⟨gb675,_,none⟩) NB674_675.out _).trans (hHeld.1)))),((cell_far (p:=⟨gb675,_,none⟩) NB674_675.out _).trans (((cell_far (p:=⟨gb675,_,none⟩) NB674_675.out _).trans (hHeld.2))))⟩ (fun hHeld=>?_)
  clear hK K
  refine pu_ 11 (some 3) (bl_ 12 4095) HT_ ?_
  refine done_ (done_of HT_.out (by kernel_rfl)) ?_
  try go_wp2
  refine bodyPost_ret (results_ct rfl _ _ gb675 33 #[.slice Ao18 t677.length co18,.slice Ao17 t683.length co17] (0,0) _ rfl qp_ Try.underlying33 rfl (by kernel_rfl)) rfl ?_
  exact ⟨_,_,qb_,(rw_ (Kd.R_mono (fa_ HO679 BK675) (fun _ hk=>hk.2))),(rw_ (Kd.R_mono (fa_ HO685 BK675) (fun _ hk=>hk.1.2))),hB_⟩
 ·replace c3:=Bool.eq_false_iff.mpr c3
  subst c3
  have H1:(some (([]:List Int),([]:List Int),false)) = some (r1,r2,r3):=by rw [if_neg (show ¬ (false = true) by decide)] at H;exact H
  clear H
  have H:=H1
  clear H1
  simp only [Option.some.injEq,Prod.mk.injEq] at H
  obtain ⟨rfl,rfl,rfl⟩:=H
  go_enter Try.func114,Try.ntmps114
  go_wp2_with (first | ((with_reducible refine gB_ (N:=1) rfl ?_);refine bx_ 1 #[.slice A0_0 l0_0.length c0_0,.slice A0_1 l0_1.length c0_1] 33 ?_;intro gb674 hg w21 hbox hb;have BK674:=A_ hbox;have GW674:=gw_ w hg;have GE674:=GW674;replace HB:=b1_ hb;clear hb hbox hg) | ((with_reducible refine gB_ (N:=2) rfl ?_);refine bx_ 2 #[.slice none 0 0,.slice none 0 0] 33 ?_;intro gb675 hg w22 hbox hb;have BK675:=A_ hbox;have GW675:=gw_ w hg;have GE675:=GW675;replace HB:=b1_ hb;have NB674_675:=gN_ BK674 hg;have NB675_674:=gP_ BK674 hg;replace BK674:=bb_ BK674 hb;clear hb hbox hg;have hnb23:=NB674_675.out;have hnc23:=NB675_674.out;obtain ⟨hcz24_0,hcz24_1,hfz24_0,hfz24_1⟩:=c2_ BK674) | ((with_reducible refine gA_ (f:=19) rfl ?_);refine gL_ (some 5) Try.func19 #[.agg #[.slice A0_0 l0_0.length c0_0,.slice A0_1 l0_1.length c0_1]] rfl qa_ ?_;(with_reducible refine (Z35.calls k _ _ l0_0 _ _ l0_1 false _ (cb_ HR0_0) HC0_0.out (cb_ HR0_1) HC0_1.out A2.out).mono ?_);rintro e w25 ⟨rfl,hb⟩;refine ⟨_,rfl,?_⟩;replace BK674:=bb_ BK674 hb;replace BK675:=bb_ BK675 hb;replace HB:=b1_ hb;clear hb;obtain ⟨hcz26_0,hcz26_1,hfz26_0,hfz26_1⟩:=c2_ BK675))
  refine bodyPost_ret (results_ct rfl _ _ gb675 33 #[.slice none 0 0,.slice none 0 0] (0,0) _ rfl qp_ Try.underlying33 rfl (by kernel_rfl)) rfl ?_
  exact ⟨_,_,qb_,by first | exact Kd.R_nil _ _ _ _ _ | exact Kd.N_nil _ _ _ _ _ | exact Kd.V_nil _ _ _ _ _ | exact Kd.Q_nil _ _ _ _ _ | exact Kd.S_nil _ _ _ _ _,by first | exact Kd.R_nil _ _ _ _ _ | exact Kd.N_nil _ _ _ _ _ | exact Kd.V_nil _ _ _ _ _ | exact Kd.Q_nil _ _ _ _ _ | exact Kd.S_nil _ _ _ _ _,hB_⟩
end Go.Proofs.Ytoijcallajegfaa.A
end
