/- Lemmas for the row FnExactStrataWith: the program's functions told as plain functions, and plain mathematics. No conditions. -/
import Derived.Ground.SlsfProg
import Derived.Shelf.SlSortCmp.NoneTotal
import Derived.Test.YtoijcallajegfaaGreatProg
import Derived.Test.YtoijcallajegfaaGreatQFnExactStrataWith4
section
/- A list of surfaces sorted, each once. No conditions. -/
namespace Go.Proofs.YtoijcallajegfaaGreat.M
set_option linter.unusedVariables false
set_option linter.unusedSimpArgs false
open Go.RowKit Go.Proofs.YtoijcallajegfaaGreatW.PrintWords Go.Proofs.YtoijcallajegfaaGreatW.PrintLast Go.Proofs.YtoijcallajegfaaGreatW.PrintMore Go.Proofs.YtoijcallajegfaaGreat.A
def toN (x:S38):List Nat × List Nat:=(x.f0.map Int.toNat,x.f1.map Int.toNat)
def ofN (p:List Nat × List Nat):S38:=⟨I p.1,I p.2⟩
theorem toN_ofN (p:List Nat × List Nat):toN (ofN p) = p:=by
 have h:∀ l:List Nat,(I l).map Int.toNat = l:=fun l=>by simp [I,List.map_map,Function.comp_def]
 exact Prod.ext (h p.1) (h p.2)
def NN (l:List Int):Prop:=(∀ a ∈ l,0≤a)∧l.length≤1000000
instance (l:List Int):Decidable (NN l):=inferInstanceAs (Decidable (_∧_))
theorem NN_I {l:List Int} (h:NN l):I (l.map Int.toNat) = l:=by
 unfold I
 rw [List.map_map]
 conv=>rhs;rw [← List.map_id l]
 apply List.map_congr_left
 intro x hx
 have:=h.1 x hx
 exact Int.toNat_of_nonneg this
theorem I_NN {l:List Nat} (h:l.length≤1000000):NN (I l):=by
 refine ⟨fun a ha=>?_,by simpa [I] using h⟩
 obtain ⟨n,_,rfl⟩:=List.mem_map.1 ha
 exact Int.natCast_nonneg n
def okS (x:S38):Prop:=NN x.f0∧NN x.f1
instance (x:S38):Decidable (okS x):=inferInstanceAs (Decidable (_∧_))
theorem okS_of {x:S38} (h:okS x):ofN (toN x) = x:=by
 show (⟨I (x.f0.map Int.toNat),I (x.f1.map Int.toNat)⟩:S38) = x
 rw [NN_I h.1,NN_I h.2]
def sortS (l:List (List Nat × List Nat)):List (List Nat × List Nat):=cpt (fun a b=>decide (a = b)) (l.mergeSort (fun a b=>decide (¬ cmpS b a < 0)))
theorem sort_uniq {l l':List (List Nat × List Nat)} (hp:l'.Perm l) (hs:l'.Pairwise (fun a b=>¬ cmpS b a < 0)):l' = l.mergeSort (fun a b=>decide (¬ cmpS b a < 0)):=by
 refine List.Perm.eq_of_pairwise (le:=fun a b=>¬ cmpS b a < 0) ?_ hs ?_ (hp.trans (List.mergeSort_perm l _).symm)
 ·intro a b _ _ h1 h2
  have:=cmpS_neg a b
  exact (cmpS_eq _ _).1 (by omega)
 ·have:=List.pairwise_mergeSort (le:=fun a b=>decide (¬ cmpS b a < 0)) (fun a b c h1 h2=>decide_eq_true (cmpS_le_tr c b a (of_decide_eq_true h2) (of_decide_eq_true h1))) (fun a b=>by
   have:=cmpS_neg a b
   simp only [Bool.or_eq_true,decide_eq_true_eq]
   omega) l
  exact this.imp (fun h=>of_decide_eq_true h)
end Go.Proofs.YtoijcallajegfaaGreat.M
end
section
/- What comparing two surfaces leaves behind. No conditions. -/
namespace Go.Proofs.YtoijcallajegfaaGreat.M
set_option linter.unusedVariables false
set_option linter.unusedSimpArgs false
open Go Go.RowKit Go.Proofs.YtoijcallajegfaaGreatW.PrintWords Go.Proofs.YtoijcallajegfaaGreatW.PrintLast Go.Proofs.YtoijcallajegfaaGreatW.PrintMore Go.Proofs.YtoijcallajegfaaGreat.A Go.Sort
def Ex (W w':World):Prop:=∃ q os',w' = grow (W.drewN q) os'
theorem Ex.refl (W:World):Ex W W:=⟨0,#[],by rw [grow_empty];rfl⟩
theorem Ex.alloc {W w':World} (h:Ex W w') (o:Obj):Ex W (w'.alloc o):=by
 obtain ⟨q,os,rfl⟩:=h
 exact ⟨q,os ++ #[o],by rw [alloc_eq_grow,grow_grow]⟩
theorem Ex.drewN {W w':World} (h:Ex W w') (n:Nat):Ex W (w'.drewN n):=by
 obtain ⟨q,os,rfl⟩:=h
 exact ⟨q + n,os,by rw [← World.drewN_drewN];rfl⟩
theorem Ex.drew {W w':World} (h:Ex W w'):Ex W w'.drew:=h.drewN 1
theorem Ex.below {W w':World} (h:Ex W w'):Go.RowKit.Below W.heap.size W w':=by
 obtain ⟨q,os,rfl⟩:=h
 refine ⟨rfl,rfl,rfl,?_,fun k hk=>?_⟩
 ·show W.heap.size≤(W.heap ++ os).size
  simp
 ·show (W.heap ++ os)[k]? = _
  rw [Array.getElem?_append_left hk]
set_option maxHeartbeats 4000000 in
set_option maxRecDepth 100000 in
theorem cmp_exact (W:World) (x y:S38) (cx cy:List Value) (hx:okS x) (hy:okS y) (h1:k38.K W x cx) (h2:k38.K W y cy) :
  Calls Tryz.prog 57 #[.agg cx.toArray,.agg cy.toArray] W fun e w'=>e = .returned (.int .i64 (cmpS (toN x) (toN y)))∧∃ q os',w' = grow (W.drewN q) os':=by
 obtain ⟨A0,c0,A1,c1,rfl,l0,g0,l1,g1⟩:=k38_open h1
 obtain ⟨B0,d0,B1,d1,rfl,m0,e0,m1,e1⟩:=k38_open h2
 obtain ⟨ka,hka⟩:=compare_ev (toN x).1 (toN y).1 (by have:=hx.1.2;simpa [toN] using this)
 obtain ⟨kb,hkb⟩:=compare_ev (toN x).2 (toN y).2 (by have:=hx.2.2;simpa [toN] using this)
 have ha:=hka ka (Nat.le_refl _)
 have hb:=hkb kb (Nat.le_refl _)
 have ix0:I (toN x).1 = x.f0:=NN_I hx.1
 have ix1:I (toN x).2 = x.f1:=NN_I hx.2
 have iy0:I (toN y).1 = y.f0:=NN_I hy.1
 have iy1:I (toN y).2 = y.f1:=NN_I hy.2
 rw [ix0,iy0] at ha
 rw [ix1,iy1] at hb
 have HA:Aside (∀ w',Ex W w'→Calls Tryz.prog 26 #[.slice A0 x.f0.length c0,.slice B0 y.f0.length d0] w' fun e w2=>e = .returned (.int .i64 (lexC (toN x).1 (toN y).1))∧∃ n,w2 = w'.drewN n):=fun w' hw=>(Z3.calls ka A0 c0 x.f0 B0 d0 y.f0 _ w' (Kd.C_below g0 hw.below) l0 (Kd.C_below e0 hw.below) m0 ha).mono fun _ _ h=>⟨h.1,by obtain ⟨n,rfl⟩:=h.2;exact ⟨n,rfl⟩⟩
 have HB:Aside (∀ w',Ex W w'→Calls Tryz.prog 26 #[.slice A1 x.f1.length c1,.slice B1 y.f1.length d1] w' fun e w2=>e = .returned (.int .i64 (lexC (toN x).2 (toN y).2))∧∃ n,w2 = w'.drewN n):=fun w' hw=>(Z3.calls kb A1 c1 x.f1 B1 d1 y.f1 _ w' (Kd.C_below g1 hw.below) l1 (Kd.C_below e1 hw.below) m1 hb).mono fun _ _ h=>⟨h.1,by obtain ⟨n,rfl⟩:=h.2;exact ⟨n,rfl⟩⟩
 clear ha hb hka hkb ix0 ix1 iy0 iy1 g0 g1 e0 e1 l0 l1 m0 m1 hx hy h1 h2
 have hu:=Tryz.underlying38
 unfold cmpS
 generalize lexC (toN x).1 (toN y).1 = ra at HA ⊢
 generalize lexC (toN x).2 (toN y).2 = rb at HB ⊢
 generalize x.f0.length = n0 at HA ⊢
 generalize x.f1.length = n1 at HB ⊢
 generalize y.f0.length = n2 at HA ⊢
 generalize y.f1.length = n3 at HB ⊢
 go_enter Tryz.func57,Tryz.ntmps57
 by_cases hr:ra = 0
 ·subst hr
  have hr1:((0:Int) != 0) = false:=rfl
  go_wp2_with (first | (go_at_call 26;(with_reducible refine (HA.out _ ?side).mono ?_);(case side=>repeat (first | (with_reducible exact Ex.refl _) | with_reducible apply Ex.alloc | with_reducible apply Ex.drewN | with_reducible apply Ex.drew));rintro e w' ⟨rfl,n,rfl⟩) | (go_at_call 26;(with_reducible refine (HB.out _ ?side).mono ?_);(case side=>repeat (first | (with_reducible exact Ex.refl _) | with_reducible apply Ex.alloc | with_reducible apply Ex.drewN | with_reducible apply Ex.drew));rintro e w' ⟨rfl,n,rfl⟩))
  go_ret
  exact ⟨rfl,by show Ex W _;repeat (first | (with_reducible exact Ex.refl _) | with_reducible apply Ex.alloc | with_reducible apply Ex.drewN | with_reducible apply Ex.drew)⟩
 ·have hr1:(ra != 0) = true:=bne_iff_ne.mpr hr
  have hr2:(ra == 0) = false:=beq_eq_false_iff_ne.mpr hr
  go_wp2_with (first | (go_at_call 26;(with_reducible refine (HA.out _ ?side).mono ?_);(case side=>repeat (first | (with_reducible exact Ex.refl _) | with_reducible apply Ex.alloc | with_reducible apply Ex.drewN | with_reducible apply Ex.drew));rintro e w' ⟨rfl,n,rfl⟩) | (go_at_call 26;(with_reducible refine (HB.out _ ?side).mono ?_);(case side=>repeat (first | (with_reducible exact Ex.refl _) | with_reducible apply Ex.alloc | with_reducible apply Ex.drewN | with_reducible apply Ex.drew));rintro e w' ⟨rfl,n,rfl⟩))
  go_ret
  exact ⟨rfl,by show Ex W _;repeat (first | (with_reducible exact Ex.refl _) | with_reducible apply Ex.alloc | with_reducible apply Ex.drewN | with_reducible apply Ex.drew)⟩
set_option maxHeartbeats 4000000 in
set_option maxRecDepth 100000 in
theorem same_exact (W:World) (x y:S38) (cx cy:List Value) (hx:okS x) (hy:okS y) (h1:k38.K W x cx) (h2:k38.K W y cy) :
  Calls Tryz.prog 60 #[.agg cx.toArray,.agg cy.toArray] W fun e w'=>e = .returned (.bool (decide (toN x = toN y)))∧∃ q os',w' = grow (W.drewN q) os':=by
 obtain ⟨A0,c0,A1,c1,rfl,l0,g0,l1,g1⟩:=k38_open h1
 obtain ⟨B0,d0,B1,d1,rfl,m0,e0,m1,e1⟩:=k38_open h2
 obtain ⟨ka,hka⟩:=equal_ev (toN x).1 (toN y).1 (by have:=hx.1.2;simp [toN];omega)
 obtain ⟨kb,hkb⟩:=equal_ev (toN x).2 (toN y).2 (by have:=hx.2.2;simp [toN];omega)
 have ha:=hka ka (Nat.le_refl _)
 have hb:=hkb kb (Nat.le_refl _)
 have ix0:I (toN x).1 = x.f0:=NN_I hx.1
 have ix1:I (toN x).2 = x.f1:=NN_I hx.2
 have iy0:I (toN y).1 = y.f0:=NN_I hy.1
 have iy1:I (toN y).2 = y.f1:=NN_I hy.2
 rw [ix0,iy0] at ha
 rw [ix1,iy1] at hb
 have hd:decide (toN x = toN y) = (if decide ((toN x).1 = (toN y).1) = true then decide ((toN x).2 = (toN y).2) else false):=by
  by_cases p:(toN x).1 = (toN y).1
  ·by_cases q:(toN x).2 = (toN y).2
   ·have e:toN x = toN y:=Prod.ext p q
    simp [e]
   ·have e:toN x≠toN y:=fun e=>q (by rw [e])
    simp [e,p,q]
  ·have e:toN x≠toN y:=fun e=>p (by rw [e])
   simp [e,p]
 rw [hd]
 generalize decide ((toN x).1 = (toN y).1) = ra at ha ⊢
 generalize decide ((toN x).2 = (toN y).2) = rb at hb ⊢
 have HA:Aside (∀ w',Ex W w'→Calls Tryz.prog 28 #[.slice A0 x.f0.length c0,.slice B0 y.f0.length d0] w' fun e w2=>e = .returned (.bool ra)∧∃ n,w2 = w'.drewN n):=fun w' hw=>(Z42.calls ka A0 c0 x.f0 B0 d0 y.f0 _ w' (Kd.C_below g0 hw.below) l0 (Kd.C_below e0 hw.below) m0 ha).mono fun _ _ h=>⟨h.1,by obtain ⟨n,rfl⟩:=h.2;exact ⟨n,rfl⟩⟩
 have HB:Aside (∀ w',Ex W w'→Calls Tryz.prog 28 #[.slice A1 x.f1.length c1,.slice B1 y.f1.length d1] w' fun e w2=>e = .returned (.bool rb)∧∃ n,w2 = w'.drewN n):=fun w' hw=>(Z42.calls kb A1 c1 x.f1 B1 d1 y.f1 _ w' (Kd.C_below g1 hw.below) l1 (Kd.C_below e1 hw.below) m1 hb).mono fun _ _ h=>⟨h.1,by obtain ⟨n,rfl⟩:=h.2;exact ⟨n,rfl⟩⟩
 clear ha hb hka hkb ix0 ix1 iy0 iy1 g0 g1 e0 e1 l0 l1 m0 m1 hx hy h1 h2 hd
 have hu:=Tryz.underlying38
 generalize x.f0.length = n0 at HA ⊢
 generalize x.f1.length = n1 at HB ⊢
 generalize y.f0.length = n2 at HA ⊢
 generalize y.f1.length = n3 at HB ⊢
 go_enter Tryz.func60,Tryz.ntmps60
 cases ra with
 | true =>
  go_wp2_with (first | (go_at_call 28;(with_reducible refine (HA.out _ ?side).mono ?_);(case side=>repeat (first | (with_reducible exact Ex.refl _) | with_reducible apply Ex.alloc | with_reducible apply Ex.drewN | with_reducible apply Ex.drew));rintro e w' ⟨rfl,n,rfl⟩) | (go_at_call 28;(with_reducible refine (HB.out _ ?side).mono ?_);(case side=>repeat (first | (with_reducible exact Ex.refl _) | with_reducible apply Ex.alloc | with_reducible apply Ex.drewN | with_reducible apply Ex.drew));rintro e w' ⟨rfl,n,rfl⟩))
  go_ret
  exact ⟨rfl,by show Ex W _;repeat (first | (with_reducible exact Ex.refl _) | with_reducible apply Ex.alloc | with_reducible apply Ex.drewN | with_reducible apply Ex.drew)⟩
 | false =>
  go_wp2_with (first | (go_at_call 28;(with_reducible refine (HA.out _ ?side).mono ?_);(case side=>repeat (first | (with_reducible exact Ex.refl _) | with_reducible apply Ex.alloc | with_reducible apply Ex.drewN | with_reducible apply Ex.drew));rintro e w' ⟨rfl,n,rfl⟩) | (go_at_call 28;(with_reducible refine (HB.out _ ?side).mono ?_);(case side=>repeat (first | (with_reducible exact Ex.refl _) | with_reducible apply Ex.alloc | with_reducible apply Ex.drewN | with_reducible apply Ex.drew));rintro e w' ⟨rfl,n,rfl⟩))
  go_ret
  exact ⟨rfl,by show Ex W _;repeat (first | (with_reducible exact Ex.refl _) | with_reducible apply Ex.alloc | with_reducible apply Ex.drewN | with_reducible apply Ex.drew)⟩
end Go.Proofs.YtoijcallajegfaaGreat.M
end
section
/- What the library's sort asks of this program: each by the kernel. No conditions. -/
namespace Go.Proofs
open Go.Shelf
def Tryz.sortA24_ren:Go.Shelf.Ren:=⟨fun | 6=>24 | 15=>42 | 14=>41 | 28=>72 | 29=>73 | 20=>64 | 21=>65 | 22=>66 | 23=>67 | 24=>68 | 25=>69 | 26=>70 | 27=>71 | 46=>92 | 47=>93 | 48=>94 | 49=>95 | 50=>96 | 57=>119 | n=>n,fun | 22=>22 | 24=>27 | 25=>41 | 3=>3 | 39=>53 | 0=>0 | 53=>75 | 55=>77 | 4=>4 | 46=>68 | 45=>67 | 50=>72 | 5=>5 | 9=>9 | 66=>86 | 70=>90 | 76=>103 | 77=>104 | n=>n,fun | n=>n⟩
theorem Tryz.sortA24:Go.Proofs.SlLaysF.n6 Tryz.prog Tryz.sortA24_ren:={
 mixed:=by kernel_rfl
 f6:=⟨Tryz.f24.name,by decide,Tryz.func24.trans (congrArg some (by kernel_rfl))⟩
 f14:=⟨Tryz.f41.name,by decide,Tryz.func41.trans (congrArg some (by kernel_rfl))⟩
 f15:=Tryz.func42.trans (congrArg some (by kernel_rfl))
 f20:=⟨Tryz.f64.name,by decide,Tryz.func64.trans (congrArg some (by kernel_rfl))⟩
 f21:=⟨Tryz.f65.name,by decide,Tryz.func65.trans (congrArg some (by kernel_rfl))⟩
 f22:=⟨Tryz.f66.name,by decide,Tryz.func66.trans (congrArg some (by kernel_rfl))⟩
 f23:=⟨Tryz.f67.name,by decide,Tryz.func67.trans (congrArg some (by kernel_rfl))⟩
 f24:=⟨Tryz.f68.name,by decide,Tryz.func68.trans (congrArg some (by kernel_rfl))⟩
 f25:=⟨Tryz.f69.name,by decide,Tryz.func69.trans (congrArg some (by kernel_rfl))⟩
 f26:=⟨Tryz.f70.name,by decide,Tryz.func70.trans (congrArg some (by kernel_rfl))⟩
 f27:=⟨Tryz.f71.name,by decide,Tryz.func71.trans (congrArg some (by kernel_rfl))⟩
 f28:=Tryz.func72.trans (congrArg some (by kernel_rfl))
 f29:=Tryz.func73.trans (congrArg some (by kernel_rfl))
 f46:=⟨Tryz.f92.name,by decide,Tryz.func92.trans (congrArg some (by kernel_rfl))⟩
 f47:=Tryz.func93.trans (congrArg some (by kernel_rfl))
 f48:=Tryz.func94.trans (congrArg some (by kernel_rfl))
 f49:=⟨Tryz.f95.name,by decide,Tryz.func95.trans (congrArg some (by kernel_rfl))⟩
 f50:=⟨Tryz.f96.name,by decide,Tryz.func96.trans (congrArg some (by kernel_rfl))⟩
 f57:=⟨Tryz.f119.name,by decide,Tryz.func119.trans (congrArg some (by kernel_rfl))⟩
 t0:=Tryz.underlying0
 a0:=Tryz.isAgg0
 z0:=Tryz.sizeOf0
 v0:=Tryz.zeroValue0
 t3:=Tryz.underlying3
 a3:=Tryz.isAgg3
 z3:=Tryz.sizeOf3
 v3:=Tryz.zeroValue3
 t4:=Tryz.underlying4
 a4:=Tryz.isAgg4
 z4:=Tryz.sizeOf4
 v4:=Tryz.zeroValue4
 t5:=Tryz.underlying5
 a5:=Tryz.isAgg5
 z5:=Tryz.sizeOf5
 v5:=Tryz.zeroValue5
 t9:=Tryz.underlying9
 a9:=Tryz.isAgg9
 z9:=Tryz.sizeOf9
 v9:=Tryz.zeroValue9
 t22:=Tryz.underlying22
 a22:=Tryz.isAgg22
 z22:=Tryz.sizeOf22
 v22:=Tryz.zeroValue22
 a24:=Tryz.isAgg27
 z24:=Tryz.sizeOf27
 t25:=Tryz.underlying41
 a25:=Tryz.isAgg41
 z25:=Tryz.sizeOf41
 v25:=Tryz.zeroValue41
 t39:=Tryz.underlying53
 a39:=Tryz.isAgg53
 z39:=Tryz.sizeOf53
 v39:=Tryz.zeroValue53
 t45:=Tryz.underlying67
 a45:=Tryz.isAgg67
 z45:=Tryz.sizeOf67
 v45:=Tryz.zeroValue67
 t46:=Tryz.underlying68
 a46:=Tryz.isAgg68
 z46:=Tryz.sizeOf68
 v46:=Tryz.zeroValue68
 t50:=Tryz.underlying72
 a50:=Tryz.isAgg72
 z50:=Tryz.sizeOf72
 v50:=Tryz.zeroValue72
 t53:=Tryz.underlying75
 a53:=Tryz.isAgg75
 z53:=Tryz.sizeOf75
 v53:=Tryz.zeroValue75
 t55:=Tryz.underlying77
 a55:=Tryz.isAgg77
 z55:=Tryz.sizeOf77
 v55:=Tryz.zeroValue77
 t66:=Tryz.underlying86
 a66:=Tryz.isAgg86
 z66:=Tryz.sizeOf86
 v66:=Tryz.zeroValue86
 t70:=Tryz.underlying90
 a70:=Tryz.isAgg90
 z70:=Tryz.sizeOf90
 v70:=Tryz.zeroValue90
 t76:=Tryz.underlying103
 a76:=Tryz.isAgg103
 z76:=Tryz.sizeOf103
 v76:=Tryz.zeroValue103
 t77:=Tryz.underlying104
 a77:=Tryz.isAgg104
 z77:=Tryz.sizeOf104
 v77:=Tryz.zeroValue104 }
def Tryz.sortB24_ren:Go.Shelf.Ren:=⟨fun | 6=>24 | 15=>42 | 14=>41 | 28=>72 | 29=>73 | 20=>64 | 21=>65 | 22=>66 | 23=>67 | 24=>68 | 25=>69 | 26=>70 | 27=>71 | 46=>92 | 47=>93 | 48=>94 | 49=>95 | 50=>96 | 57=>119 | n=>n,fun | 22=>22 | 24=>27 | 25=>41 | 3=>3 | 39=>53 | 0=>0 | 53=>75 | 55=>77 | 4=>4 | 46=>68 | 45=>67 | 50=>72 | 5=>5 | 9=>9 | 66=>86 | 70=>90 | 76=>103 | 77=>104 | n=>n,fun | n=>n⟩
theorem Tryz.sortB24:Go.Proofs.SlLaysF0.n6 Tryz.prog Tryz.sortB24_ren:={
 mixed:=by kernel_rfl
 f6:=⟨Tryz.f24.name,by decide,Tryz.func24.trans (congrArg some (by kernel_rfl))⟩
 f14:=⟨Tryz.f41.name,by decide,Tryz.func41.trans (congrArg some (by kernel_rfl))⟩
 f15:=Tryz.func42.trans (congrArg some (by kernel_rfl))
 f20:=⟨Tryz.f64.name,by decide,Tryz.func64.trans (congrArg some (by kernel_rfl))⟩
 f21:=⟨Tryz.f65.name,by decide,Tryz.func65.trans (congrArg some (by kernel_rfl))⟩
 f22:=⟨Tryz.f66.name,by decide,Tryz.func66.trans (congrArg some (by kernel_rfl))⟩
 f23:=⟨Tryz.f67.name,by decide,Tryz.func67.trans (congrArg some (by kernel_rfl))⟩
 f24:=⟨Tryz.f68.name,by decide,Tryz.func68.trans (congrArg some (by kernel_rfl))⟩
 f25:=⟨Tryz.f69.name,by decide,Tryz.func69.trans (congrArg some (by kernel_rfl))⟩
 f26:=⟨Tryz.f70.name,by decide,Tryz.func70.trans (congrArg some (by kernel_rfl))⟩
 f27:=⟨Tryz.f71.name,by decide,Tryz.func71.trans (congrArg some (by kernel_rfl))⟩
 f28:=Tryz.func72.trans (congrArg some (by kernel_rfl))
 f29:=Tryz.func73.trans (congrArg some (by kernel_rfl))
 f46:=⟨Tryz.f92.name,by decide,Tryz.func92.trans (congrArg some (by kernel_rfl))⟩
 f47:=Tryz.func93.trans (congrArg some (by kernel_rfl))
 f48:=Tryz.func94.trans (congrArg some (by kernel_rfl))
 f49:=⟨Tryz.f95.name,by decide,Tryz.func95.trans (congrArg some (by kernel_rfl))⟩
 f50:=⟨Tryz.f96.name,by decide,Tryz.func96.trans (congrArg some (by kernel_rfl))⟩
 f57:=⟨Tryz.f119.name,by decide,Tryz.func119.trans (congrArg some (by kernel_rfl))⟩
 t0:=Tryz.underlying0
 a0:=Tryz.isAgg0
 z0:=Tryz.sizeOf0
 v0:=Tryz.zeroValue0
 t3:=Tryz.underlying3
 a3:=Tryz.isAgg3
 z3:=Tryz.sizeOf3
 v3:=Tryz.zeroValue3
 t4:=Tryz.underlying4
 a4:=Tryz.isAgg4
 z4:=Tryz.sizeOf4
 v4:=Tryz.zeroValue4
 t5:=Tryz.underlying5
 a5:=Tryz.isAgg5
 z5:=Tryz.sizeOf5
 v5:=Tryz.zeroValue5
 t9:=Tryz.underlying9
 a9:=Tryz.isAgg9
 z9:=Tryz.sizeOf9
 v9:=Tryz.zeroValue9
 t22:=Tryz.underlying22
 a22:=Tryz.isAgg22
 z22:=Tryz.sizeOf22
 v22:=Tryz.zeroValue22
 t25:=Tryz.underlying41
 a25:=Tryz.isAgg41
 z25:=Tryz.sizeOf41
 v25:=Tryz.zeroValue41
 t39:=Tryz.underlying53
 a39:=Tryz.isAgg53
 z39:=Tryz.sizeOf53
 v39:=Tryz.zeroValue53
 t45:=Tryz.underlying67
 a45:=Tryz.isAgg67
 z45:=Tryz.sizeOf67
 v45:=Tryz.zeroValue67
 t46:=Tryz.underlying68
 a46:=Tryz.isAgg68
 z46:=Tryz.sizeOf68
 v46:=Tryz.zeroValue68
 t50:=Tryz.underlying72
 a50:=Tryz.isAgg72
 z50:=Tryz.sizeOf72
 v50:=Tryz.zeroValue72
 t53:=Tryz.underlying75
 a53:=Tryz.isAgg75
 z53:=Tryz.sizeOf75
 v53:=Tryz.zeroValue75
 t55:=Tryz.underlying77
 a55:=Tryz.isAgg77
 z55:=Tryz.sizeOf77
 v55:=Tryz.zeroValue77
 t66:=Tryz.underlying86
 a66:=Tryz.isAgg86
 z66:=Tryz.sizeOf86
 v66:=Tryz.zeroValue86
 t70:=Tryz.underlying90
 a70:=Tryz.isAgg90
 z70:=Tryz.sizeOf90
 v70:=Tryz.zeroValue90
 t76:=Tryz.underlying103
 a76:=Tryz.isAgg103
 z76:=Tryz.sizeOf103
 v76:=Tryz.zeroValue103
 t77:=Tryz.underlying104
 a77:=Tryz.isAgg104
 z77:=Tryz.sizeOf104
 v77:=Tryz.zeroValue104 }
def Tryz.sortB58_ren:Go.Shelf.Ren:=⟨fun | 6=>58 | 15=>42 | 14=>87 | 28=>72 | 29=>73 | 20=>100 | 21=>101 | 22=>102 | 23=>103 | 24=>104 | 25=>105 | 26=>106 | 27=>107 | 46=>120 | 47=>93 | 48=>94 | 49=>121 | 50=>122 | 57=>126 | n=>n,fun | 22=>28 | 24=>38 | 25=>62 | 3=>3 | 39=>53 | 0=>0 | 53=>75 | 55=>77 | 4=>4 | 46=>68 | 45=>67 | 50=>72 | 5=>5 | 9=>9 | 66=>86 | 70=>90 | 76=>103 | 77=>104 | n=>n,fun | n=>n⟩
theorem Tryz.sortB58:Go.Proofs.SlLaysF0.n6 Tryz.prog Tryz.sortB58_ren:={
 mixed:=by kernel_rfl
 f6:=⟨Tryz.f58.name,by decide,Tryz.func58.trans (congrArg some (by kernel_rfl))⟩
 f14:=⟨Tryz.f87.name,by decide,Tryz.func87.trans (congrArg some (by kernel_rfl))⟩
 f15:=Tryz.func42.trans (congrArg some (by kernel_rfl))
 f20:=⟨Tryz.f100.name,by decide,Tryz.func100.trans (congrArg some (by kernel_rfl))⟩
 f21:=⟨Tryz.f101.name,by decide,Tryz.func101.trans (congrArg some (by kernel_rfl))⟩
 f22:=⟨Tryz.f102.name,by decide,Tryz.func102.trans (congrArg some (by kernel_rfl))⟩
 f23:=⟨Tryz.f103.name,by decide,Tryz.func103.trans (congrArg some (by kernel_rfl))⟩
 f24:=⟨Tryz.f104.name,by decide,Tryz.func104.trans (congrArg some (by kernel_rfl))⟩
 f25:=⟨Tryz.f105.name,by decide,Tryz.func105.trans (congrArg some (by kernel_rfl))⟩
 f26:=⟨Tryz.f106.name,by decide,Tryz.func106.trans (congrArg some (by kernel_rfl))⟩
 f27:=⟨Tryz.f107.name,by decide,Tryz.func107.trans (congrArg some (by kernel_rfl))⟩
 f28:=Tryz.func72.trans (congrArg some (by kernel_rfl))
 f29:=Tryz.func73.trans (congrArg some (by kernel_rfl))
 f46:=⟨Tryz.f120.name,by decide,Tryz.func120.trans (congrArg some (by kernel_rfl))⟩
 f47:=Tryz.func93.trans (congrArg some (by kernel_rfl))
 f48:=Tryz.func94.trans (congrArg some (by kernel_rfl))
 f49:=⟨Tryz.f121.name,by decide,Tryz.func121.trans (congrArg some (by kernel_rfl))⟩
 f50:=⟨Tryz.f122.name,by decide,Tryz.func122.trans (congrArg some (by kernel_rfl))⟩
 f57:=⟨Tryz.f126.name,by decide,Tryz.func126.trans (congrArg some (by kernel_rfl))⟩
 t0:=Tryz.underlying0
 a0:=Tryz.isAgg0
 z0:=Tryz.sizeOf0
 v0:=Tryz.zeroValue0
 t3:=Tryz.underlying3
 a3:=Tryz.isAgg3
 z3:=Tryz.sizeOf3
 v3:=Tryz.zeroValue3
 t4:=Tryz.underlying4
 a4:=Tryz.isAgg4
 z4:=Tryz.sizeOf4
 v4:=Tryz.zeroValue4
 t5:=Tryz.underlying5
 a5:=Tryz.isAgg5
 z5:=Tryz.sizeOf5
 v5:=Tryz.zeroValue5
 t9:=Tryz.underlying9
 a9:=Tryz.isAgg9
 z9:=Tryz.sizeOf9
 v9:=Tryz.zeroValue9
 t22:=Tryz.underlying28
 a22:=Tryz.isAgg28
 z22:=Tryz.sizeOf28
 v22:=Tryz.zeroValue28
 t25:=Tryz.underlying62
 a25:=Tryz.isAgg62
 z25:=Tryz.sizeOf62
 v25:=Tryz.zeroValue62
 t39:=Tryz.underlying53
 a39:=Tryz.isAgg53
 z39:=Tryz.sizeOf53
 v39:=Tryz.zeroValue53
 t45:=Tryz.underlying67
 a45:=Tryz.isAgg67
 z45:=Tryz.sizeOf67
 v45:=Tryz.zeroValue67
 t46:=Tryz.underlying68
 a46:=Tryz.isAgg68
 z46:=Tryz.sizeOf68
 v46:=Tryz.zeroValue68
 t50:=Tryz.underlying72
 a50:=Tryz.isAgg72
 z50:=Tryz.sizeOf72
 v50:=Tryz.zeroValue72
 t53:=Tryz.underlying75
 a53:=Tryz.isAgg75
 z53:=Tryz.sizeOf75
 v53:=Tryz.zeroValue75
 t55:=Tryz.underlying77
 a55:=Tryz.isAgg77
 z55:=Tryz.sizeOf77
 v55:=Tryz.zeroValue77
 t66:=Tryz.underlying86
 a66:=Tryz.isAgg86
 z66:=Tryz.sizeOf86
 v66:=Tryz.zeroValue86
 t70:=Tryz.underlying90
 a70:=Tryz.isAgg90
 z70:=Tryz.sizeOf90
 v70:=Tryz.zeroValue90
 t76:=Tryz.underlying103
 a76:=Tryz.isAgg103
 z76:=Tryz.sizeOf103
 v76:=Tryz.zeroValue103
 t77:=Tryz.underlying104
 a77:=Tryz.isAgg104
 z77:=Tryz.sizeOf104
 v77:=Tryz.zeroValue104 }
def Tryz.sortA62_ren:Go.Shelf.Ren:=⟨fun | 6=>62 | 15=>42 | 14=>91 | 28=>72 | 29=>73 | 20=>111 | 21=>112 | 22=>113 | 23=>114 | 24=>115 | 25=>116 | 26=>117 | 27=>118 | 46=>123 | 47=>93 | 48=>94 | 49=>124 | 50=>125 | 57=>127 | n=>n,fun | 22=>27 | 24=>3 | 25=>54 | 3=>3 | 39=>53 | 0=>0 | 53=>75 | 55=>77 | 4=>4 | 46=>68 | 45=>67 | 50=>72 | 5=>5 | 9=>9 | 66=>86 | 70=>90 | 76=>103 | 77=>104 | n=>n,fun | n=>n⟩
theorem Tryz.sortA62:Go.Proofs.SlLaysF.n6 Tryz.prog Tryz.sortA62_ren:={
 mixed:=by kernel_rfl
 f6:=⟨Tryz.f62.name,by decide,Tryz.func62.trans (congrArg some (by kernel_rfl))⟩
 f14:=⟨Tryz.f91.name,by decide,Tryz.func91.trans (congrArg some (by kernel_rfl))⟩
 f15:=Tryz.func42.trans (congrArg some (by kernel_rfl))
 f20:=⟨Tryz.f111.name,by decide,Tryz.func111.trans (congrArg some (by kernel_rfl))⟩
 f21:=⟨Tryz.f112.name,by decide,Tryz.func112.trans (congrArg some (by kernel_rfl))⟩
 f22:=⟨Tryz.f113.name,by decide,Tryz.func113.trans (congrArg some (by kernel_rfl))⟩
 f23:=⟨Tryz.f114.name,by decide,Tryz.func114.trans (congrArg some (by kernel_rfl))⟩
 f24:=⟨Tryz.f115.name,by decide,Tryz.func115.trans (congrArg some (by kernel_rfl))⟩
 f25:=⟨Tryz.f116.name,by decide,Tryz.func116.trans (congrArg some (by kernel_rfl))⟩
 f26:=⟨Tryz.f117.name,by decide,Tryz.func117.trans (congrArg some (by kernel_rfl))⟩
 f27:=⟨Tryz.f118.name,by decide,Tryz.func118.trans (congrArg some (by kernel_rfl))⟩
 f28:=Tryz.func72.trans (congrArg some (by kernel_rfl))
 f29:=Tryz.func73.trans (congrArg some (by kernel_rfl))
 f46:=⟨Tryz.f123.name,by decide,Tryz.func123.trans (congrArg some (by kernel_rfl))⟩
 f47:=Tryz.func93.trans (congrArg some (by kernel_rfl))
 f48:=Tryz.func94.trans (congrArg some (by kernel_rfl))
 f49:=⟨Tryz.f124.name,by decide,Tryz.func124.trans (congrArg some (by kernel_rfl))⟩
 f50:=⟨Tryz.f125.name,by decide,Tryz.func125.trans (congrArg some (by kernel_rfl))⟩
 f57:=⟨Tryz.f127.name,by decide,Tryz.func127.trans (congrArg some (by kernel_rfl))⟩
 t0:=Tryz.underlying0
 a0:=Tryz.isAgg0
 z0:=Tryz.sizeOf0
 v0:=Tryz.zeroValue0
 t3:=Tryz.underlying3
 a3:=Tryz.isAgg3
 z3:=Tryz.sizeOf3
 v3:=Tryz.zeroValue3
 t4:=Tryz.underlying4
 a4:=Tryz.isAgg4
 z4:=Tryz.sizeOf4
 v4:=Tryz.zeroValue4
 t5:=Tryz.underlying5
 a5:=Tryz.isAgg5
 z5:=Tryz.sizeOf5
 v5:=Tryz.zeroValue5
 t9:=Tryz.underlying9
 a9:=Tryz.isAgg9
 z9:=Tryz.sizeOf9
 v9:=Tryz.zeroValue9
 t22:=Tryz.underlying27
 a22:=Tryz.isAgg27
 z22:=Tryz.sizeOf27
 v22:=Tryz.zeroValue27
 a24:=Tryz.isAgg3
 z24:=Tryz.sizeOf3
 t25:=Tryz.underlying54
 a25:=Tryz.isAgg54
 z25:=Tryz.sizeOf54
 v25:=Tryz.zeroValue54
 t39:=Tryz.underlying53
 a39:=Tryz.isAgg53
 z39:=Tryz.sizeOf53
 v39:=Tryz.zeroValue53
 t45:=Tryz.underlying67
 a45:=Tryz.isAgg67
 z45:=Tryz.sizeOf67
 v45:=Tryz.zeroValue67
 t46:=Tryz.underlying68
 a46:=Tryz.isAgg68
 z46:=Tryz.sizeOf68
 v46:=Tryz.zeroValue68
 t50:=Tryz.underlying72
 a50:=Tryz.isAgg72
 z50:=Tryz.sizeOf72
 v50:=Tryz.zeroValue72
 t53:=Tryz.underlying75
 a53:=Tryz.isAgg75
 z53:=Tryz.sizeOf75
 v53:=Tryz.zeroValue75
 t55:=Tryz.underlying77
 a55:=Tryz.isAgg77
 z55:=Tryz.sizeOf77
 v55:=Tryz.zeroValue77
 t66:=Tryz.underlying86
 a66:=Tryz.isAgg86
 z66:=Tryz.sizeOf86
 v66:=Tryz.zeroValue86
 t70:=Tryz.underlying90
 a70:=Tryz.isAgg90
 z70:=Tryz.sizeOf90
 v70:=Tryz.zeroValue90
 t76:=Tryz.underlying103
 a76:=Tryz.isAgg103
 z76:=Tryz.sizeOf103
 v76:=Tryz.zeroValue103
 t77:=Tryz.underlying104
 a77:=Tryz.isAgg104
 z77:=Tryz.sizeOf104
 v77:=Tryz.zeroValue104 }
def Tryz.sortB62_ren:Go.Shelf.Ren:=⟨fun | 6=>62 | 15=>42 | 14=>91 | 28=>72 | 29=>73 | 20=>111 | 21=>112 | 22=>113 | 23=>114 | 24=>115 | 25=>116 | 26=>117 | 27=>118 | 46=>123 | 47=>93 | 48=>94 | 49=>124 | 50=>125 | 57=>127 | n=>n,fun | 22=>27 | 24=>3 | 25=>54 | 3=>3 | 39=>53 | 0=>0 | 53=>75 | 55=>77 | 4=>4 | 46=>68 | 45=>67 | 50=>72 | 5=>5 | 9=>9 | 66=>86 | 70=>90 | 76=>103 | 77=>104 | n=>n,fun | n=>n⟩
theorem Tryz.sortB62:Go.Proofs.SlLaysF0.n6 Tryz.prog Tryz.sortB62_ren:={
 mixed:=by kernel_rfl
 f6:=⟨Tryz.f62.name,by decide,Tryz.func62.trans (congrArg some (by kernel_rfl))⟩
 f14:=⟨Tryz.f91.name,by decide,Tryz.func91.trans (congrArg some (by kernel_rfl))⟩
 f15:=Tryz.func42.trans (congrArg some (by kernel_rfl))
 f20:=⟨Tryz.f111.name,by decide,Tryz.func111.trans (congrArg some (by kernel_rfl))⟩
 f21:=⟨Tryz.f112.name,by decide,Tryz.func112.trans (congrArg some (by kernel_rfl))⟩
 f22:=⟨Tryz.f113.name,by decide,Tryz.func113.trans (congrArg some (by kernel_rfl))⟩
 f23:=⟨Tryz.f114.name,by decide,Tryz.func114.trans (congrArg some (by kernel_rfl))⟩
 f24:=⟨Tryz.f115.name,by decide,Tryz.func115.trans (congrArg some (by kernel_rfl))⟩
 f25:=⟨Tryz.f116.name,by decide,Tryz.func116.trans (congrArg some (by kernel_rfl))⟩
 f26:=⟨Tryz.f117.name,by decide,Tryz.func117.trans (congrArg some (by kernel_rfl))⟩
 f27:=⟨Tryz.f118.name,by decide,Tryz.func118.trans (congrArg some (by kernel_rfl))⟩
 f28:=Tryz.func72.trans (congrArg some (by kernel_rfl))
 f29:=Tryz.func73.trans (congrArg some (by kernel_rfl))
 f46:=⟨Tryz.f123.name,by decide,Tryz.func123.trans (congrArg some (by kernel_rfl))⟩
 f47:=Tryz.func93.trans (congrArg some (by kernel_rfl))
 f48:=Tryz.func94.trans (congrArg some (by kernel_rfl))
 f49:=⟨Tryz.f124.name,by decide,Tryz.func124.trans (congrArg some (by kernel_rfl))⟩
 f50:=⟨Tryz.f125.name,by decide,Tryz.func125.trans (congrArg some (by kernel_rfl))⟩
 f57:=⟨Tryz.f127.name,by decide,Tryz.func127.trans (congrArg some (by kernel_rfl))⟩
 t0:=Tryz.underlying0
 a0:=Tryz.isAgg0
 z0:=Tryz.sizeOf0
 v0:=Tryz.zeroValue0
 t3:=Tryz.underlying3
 a3:=Tryz.isAgg3
 z3:=Tryz.sizeOf3
 v3:=Tryz.zeroValue3
 t4:=Tryz.underlying4
 a4:=Tryz.isAgg4
 z4:=Tryz.sizeOf4
 v4:=Tryz.zeroValue4
 t5:=Tryz.underlying5
 a5:=Tryz.isAgg5
 z5:=Tryz.sizeOf5
 v5:=Tryz.zeroValue5
 t9:=Tryz.underlying9
 a9:=Tryz.isAgg9
 z9:=Tryz.sizeOf9
 v9:=Tryz.zeroValue9
 t22:=Tryz.underlying27
 a22:=Tryz.isAgg27
 z22:=Tryz.sizeOf27
 v22:=Tryz.zeroValue27
 t25:=Tryz.underlying54
 a25:=Tryz.isAgg54
 z25:=Tryz.sizeOf54
 v25:=Tryz.zeroValue54
 t39:=Tryz.underlying53
 a39:=Tryz.isAgg53
 z39:=Tryz.sizeOf53
 v39:=Tryz.zeroValue53
 t45:=Tryz.underlying67
 a45:=Tryz.isAgg67
 z45:=Tryz.sizeOf67
 v45:=Tryz.zeroValue67
 t46:=Tryz.underlying68
 a46:=Tryz.isAgg68
 z46:=Tryz.sizeOf68
 v46:=Tryz.zeroValue68
 t50:=Tryz.underlying72
 a50:=Tryz.isAgg72
 z50:=Tryz.sizeOf72
 v50:=Tryz.zeroValue72
 t53:=Tryz.underlying75
 a53:=Tryz.isAgg75
 z53:=Tryz.sizeOf75
 v53:=Tryz.zeroValue75
 t55:=Tryz.underlying77
 a55:=Tryz.isAgg77
 z55:=Tryz.sizeOf77
 v55:=Tryz.zeroValue77
 t66:=Tryz.underlying86
 a66:=Tryz.isAgg86
 z66:=Tryz.sizeOf86
 v66:=Tryz.zeroValue86
 t70:=Tryz.underlying90
 a70:=Tryz.isAgg90
 z70:=Tryz.sizeOf90
 v70:=Tryz.zeroValue90
 t76:=Tryz.underlying103
 a76:=Tryz.isAgg103
 z76:=Tryz.sizeOf103
 v76:=Tryz.zeroValue103
 t77:=Tryz.underlying104
 a77:=Tryz.isAgg104
 z77:=Tryz.sizeOf104
 v77:=Tryz.zeroValue104 }
end Go.Proofs
end
section
/- A list of surfaces of the call's own sorted and struck of doubles: what lies in memory. No conditions. -/
namespace Go.Proofs.YtoijcallajegfaaGreat.M
set_option linter.unusedVariables false
set_option linter.unusedSimpArgs false
open Go Go.RowKit Go.Proofs.YtoijcallajegfaaGreatW.PrintWords Go.Proofs.YtoijcallajegfaaGreatW.PrintLast Go.Proofs.YtoijcallajegfaaGreatW.PrintMore Go.Proofs.YtoijcallajegfaaGreat.A Go.Sort Go.Shelf Go.Lib Go.Proofs Go.Proofs.YtoijcallajegfaaGreatW.PrintWords.Kd
theorem holds_cels {α:Type} {d:Kd α} {Q:α→Prop} {w:World} {base e g:Nat} {ok:Nat→Prop} [Inhabited (Cel d Q w base ok)] {cur:Array Value} {n:Nat} {l:List (Cel d Q w base ok)} (hg:w.heap[g]? = some (.cells cur e (0,0))) (hll:l.length = n) (hc:n * d.sz≤cur.size) (hl:cur.toList.take (n * d.sz) = (l.map (·.c)).flatten) :
  HoldsK (fun z:Cel d Q w base ok=>z.c) d.sz w g 0 l.toArray:=by
 have hFl:=flatK_list (d:=d) (Q:=Q) (w:=w) (ok:=ok) l.toArray
 have hFs:(flatK (fun z:Cel d Q w base ok=>z.c) d.sz l.toArray).size = n * d.sz:=by rw [size_flatK];simp [hll]
 intro j hj
 rw [hFs] at hj
 have h1:cur[j]? = (flatK (fun z:Cel d Q w base ok=>z.c) d.sz l.toArray)[j]?:=by
  rw [← Array.getElem?_toList,← Array.getElem?_toList,hFl]
  show _ = (List.map _ l).flatten[j]?
  rw [← hl,List.getElem?_take,if_pos hj]
 refine ⟨?_,?_⟩
 ·show w.cell? ⟨g,0 + j,none⟩ = _
  rw [Nat.zero_add,getElem!_pos _ j (by rw [hFs];exact hj)]
  simp only [World.cell?,hg,Option.isSome_none,Bool.false_eq_true,if_false]
  rw [h1,Array.getElem?_eq_getElem (by rw [hFs];exact hj)]
  rfl
 ·simp [World.frozen?,hg]
set_option maxHeartbeats 4000000 in
set_option maxRecDepth 100000 in
theorem comp_none (A:Option Addr) (c:Nat) (fv:Value) (w:World):Calls Tryz.prog 59 #[.slice A 0 c,fv] w fun e w'=>e = .returned (.slice A 0 c)∧w' = w:=by
 go_enter Tryz.func59,Tryz.ntmps59
 go_wp2
 go_ret
 exact ⟨rfl,rfl⟩
def eqS (x y:S38):Bool:=decide (toN x = toN y)
theorem comp_T {w:World} {base:Nat} {ok:Nat→Prop} {v:Value} {f:Nat→Nat} {xs:List (S38 × Nat)} (h:(Kd.tag f k38).R 38 w base ok v xs) (hq:∀ x ∈ xs,okS x.1) (hsz:xs.length < 4611686018427387904) :
  Calls Tryz.prog 59 #[v,.func (.func 60) #[] #[]] w fun e w'=>∃ v',e = .returned v'∧CompactTo (Kd.tag f k38) (fun p q:S38 × Nat=>eqS p.1 q.1) 38 w w' base ok v v' xs:=by
 rcases Nat.eq_zero_or_pos xs.length with h0 | hp
 ·have hx:xs = []:=List.length_eq_zero_iff.1 h0
  subst hx
  obtain ⟨A,c,rfl⟩:=Kd.R_slice h
  exact (comp_none A c _ w).mono fun _ _ ⟨he,hw⟩=>⟨_,he,by rw [hw];exact ⟨h,Kept.refl _ _,Go.RowKit.Below.refl _ _⟩⟩
 ·obtain ⟨g,cap,cur,rfl,hg0,hb,hgl,hg,hn,hm,hcs,l,hl1,hl2⟩:=R_cells h hq hp
  have hll:l.length = xs.length:=by rw [← hl1,List.length_map]
  haveI:Inhabited (Cel (Kd.tag f k38) (fun p:S38 × Nat=>okS p.1) w base (fun k=>ok k∧k≠g)):=⟨l[0]'(by omega)⟩
  have hcs':xs.length * (Kd.tag f k38).sz≤cur.size:=by rw [hcs];exact Nat.mul_le_mul_right _ hn
  have hcs2:xs.length * 2≤cur.size:=hcs'
  have hH:=holds_cels hg hll hcs' hl2
  have R:RowK (fun z:Cel (Kd.tag f k38) (fun p:S38 × Nat=>okS p.1) w base (fun k=>ok k∧k≠g)=>z.c) 2 w g 0 l.toArray:=⟨fun z=>z.len,fun z=>z.one,hH,hgl⟩
  have key:=compact_walk (fun z:Cel (Kd.tag f k38) (fun p:S38 × Nat=>okS p.1) w base (fun k=>ok k∧k≠g)=>z.c) (fun p q=>eqS p.x.1 q.x.1) 60 g 0 cap l.toArray w R (enters_of Tryz.func60 (by kernel_rfl) rfl)
   (fun W hW p q=>by
    obtain ⟨dk,hs,m,os,rfl⟩:=hW
    have hh:∀ (z:Cel (Kd.tag f k38) (fun p:S38 × Nat=>okS p.1) w base (fun k=>ok k∧k≠g)),(k38).K (sortWorldK (fun z:Cel (Kd.tag f k38) (fun p:S38 × Nat=>okS p.1) w base (fun k=>ok k∧k≠g)=>z.c) 2 w g 0 m dk os) z.x.1 z.c:=fun z=>(k38).K_of_M (z.move (fun k hk hlt=>(row_after hg (F:=flatK (fun z:Cel (Kd.tag f k38) (fun p:S38 × Nat=>okS p.1) w base (fun k=>ok k∧k≠g)=>z.c) 2 dk) (by rw [size_flatK,hs];simpa [hll] using hcs2) rfl).2.1 k hk.2 hlt))
    exact same_exact _ p.x.1 q.x.1 p.c q.c p.q q.q (hh p) (hh q)) (by simpa [hll] using hp) (by simpa [hll] using hsz) (by simpa [hll] using hn)
  have hsz':l.toArray.size = xs.length:=by simp [hll]
  rw [hsz'] at key
  refine key.mono ?_
  rintro e' w' ⟨kk,rfl,dk,W,hC,⟨n,os,hW⟩,hw⟩
  refine ⟨_,rfl,?_⟩
  rw [← hsz'] at hC
  refine compR_of (D:=l.toArray) (dk:=dk) (F:=flatK (fun z:Cel (Kd.tag f k38) (fun p:S38 × Nat=>okS p.1) w base (fun k=>ok k∧k≠g)=>z.c) 2 dk) (m:=n) (os:=os) (W:=W) (kk:=kk) hC (by simpa using hl1) (flatK_list dk) hW ?_ hg0 hb hgl hg hn hm hcs
  rcases hw with rfl | ⟨vs,rfl⟩
  ·exact .inl rfl
  ·refine .inr ⟨vs,?_⟩
   rw [Nat.zero_add];rfl
theorem comp_S {w:World} {base:Nat} {ok:Nat→Prop} {v:Value} {xs:List S38} (h:Kd.S k38 38 w base ok v xs) (hq:∀ x ∈ xs,okS x) (hsz:xs.length < 4611686018427387904) :
  Calls Tryz.prog 59 #[v,.func (.func 60) #[] #[]] w fun e w'=>∃ v',e = .returned v'∧Kd.S k38 38 w' base ok v' (cpt eqS xs)∧Kept w w' (fun k=>some k = v.ownBlock)∧Go.RowKit.Below base w w':=by
 obtain ⟨f,hr⟩:=h
 refine (comp_T hr (zip_all hq) (by rw [List.length_zipIdx];exact hsz)).mono ?_
 rintro e w' ⟨v',he,h1,h2,h3⟩
 refine ⟨v',he,?_,h2,h3⟩
 have h4:=S_of_tag h1 (((cpt_sub _ xs.zipIdx).map (·.2)).nodup (zip_nodup xs))
 have h5:=cpt_map (fun p:S38 × Nat=>p.1) eqS xs.zipIdx
 rw [zip_fst] at h5
 rw [h5] at h4
 exact h4
theorem ordS:Ord3 okS (fun x y:S38=>cmpS (toN x) (toN y)) where
 irr x _:=by rw [(cmpS_eq _ _).2 rfl];omega
 tr x y z _ _ _ h1 h2:=cmpS_tr _ _ _ h1 h2
 nt x y z _ _ _ h1 h2:=cmpS_le_tr _ _ _ h1 h2
end Go.Proofs.YtoijcallajegfaaGreat.M
end
section
namespace Go.Proofs.YtoijcallajegfaaGreat.A
open Go.RowKit Go.Proofs.YtoijcallajegfaaGreatW.PrintWords Go.Proofs.YtoijcallajegfaaGreatW.PrintLast Go.Proofs.YtoijcallajegfaaGreatW.PrintMore
attribute [local go_sem] max2_int min2_int max_two min_two max_three min_three max_four min_four
set_option linter.unusedVariables false
set_option linter.unusedSimpArgs false
def Z11.f (l0:List S38):Option (List S38):=if (∀ x ∈ l0,M.okS x)∧l0.length < 4611686018427387904 then some ((M.sortS (l0.map M.toN)).map M.ofN) else none
theorem Z11.eq (l xs':List S38) (hq:∀ x ∈ l,M.okS x) (hp:xs'.Perm l) (hs:xs'.Pairwise (fun a b=>¬ M.cmpS (M.toN b) (M.toN a) < 0)):M.cpt M.eqS xs' = (M.sortS (l.map M.toN)).map M.ofN:=by
 have h1:xs'.map M.toN = (l.map M.toN).mergeSort (fun a b=>decide (¬ M.cmpS b a < 0)):=M.sort_uniq (hp.map _) (by rw [List.pairwise_map];exact hs)
 have h2:(M.cpt M.eqS xs').map M.toN = M.cpt (fun a b=>decide (a = b)) (xs'.map M.toN):=M.cpt_map M.toN (fun a b=>decide (a = b)) xs'
 have h3:((M.cpt M.eqS xs').map M.toN).map M.ofN = M.cpt M.eqS xs':=by
  rw [List.map_map]
  conv=>rhs;rw [← List.map_id (M.cpt M.eqS xs')]
  apply List.map_congr_left
  intro x hx
  exact M.okS_of (hq x (hp.mem_iff.1 ((M.cpt_sub M.eqS xs').subset hx)))
 rw [← h3,h2,h1]
 rfl
set_option maxHeartbeats 8000000 in
set_option maxRecDepth 100000 in
theorem Z11.callsS (P0_:Nat→Prop) (u9000_:Value) (l0:List S38) (r:List S38) (w0 w:World) (hB:Below w0.heap.size w0 w) (ho0:Kd.S k38 38 w w0.heap.size P0_ u9000_ l0) (h:Z11.f l0 = some r) :
  Calls Tryz.prog 39 #[u9000_] w fun e w'=>∃ v0_:Value,e = .returned v0_∧Kd.S k38 38 w' w0.heap.size P0_ v0_ r∧Below w0.heap.size w0 w'∧Kept w w' (fun k=>some k = u9000_.ownBlock):=by
 unfold Z11.f at h
 split at h
 ·rename_i hq
  obtain rfl:=Option.some.inj h
  have HV:∃ A c,u9000_ = .slice A l0.length c:=Kd.R_slice (Kd.S_R ho0)
  obtain ⟨f_,hr_⟩:=ho0
  have hs1:=(M.sortN (d:=Kd.tag f_ k38) (Q:=fun p:S38 × Nat=>M.okS p.1) (cf:=fun p q:S38 × Nat=>M.cmpS (M.toN p.1) (M.toN q.1)) Tryz.sortB58 Tryz.isAgg38 Tryz.sizeOf38 M.ordS.fst 57 (enters_of Tryz.func57 (by kernel_rfl) rfl)
   (fun W x y cx cy hx hy h1 h2=>M.cmp_exact W x.1 y.1 cx cy hx hy h1 h2) hr_ (M.zip_all hq.1) (by rw [List.length_zipIdx];exact hq.2))
  have hs0:Calls Tryz.prog _ _ w fun e' w'=>e' = .returned (.tuple #[])∧M.SortedToS k38 (fun x y:S38=>M.cmpS (M.toN x) (M.toN y)) 38 w w' w0.heap.size P0_ u9000_ l0:=hs1.mono (fun e w2 h=>⟨h.1,M.sortedS_of (cf:=fun x y:S38=>M.cmpS (M.toN x) (M.toN y)) h.2⟩)
  clear hs1
  change Calls Tryz.prog 58 _ _ _ at hs0
  have HS:=A_ hs0
  clear hs0
  have HL:=A_ (show ∀ xs':List S38,xs'.Perm l0→(∀ x ∈ xs',M.okS x)∧xs'.length < 4611686018427387904 from fun xs' hp=>⟨fun x hx=>hq.1 x (hp.mem_iff.1 hx),by rw [hp.length_eq];exact hq.2⟩)
  have HQ:=A_ hq.1
  have HB:=A_ hB
  clear hq hr_ h hB
  obtain ⟨Av,cv,rfl⟩:=HV
  generalize l0.length = nv at HS ⊢
  go_enter Tryz.func39,Tryz.ntmps39
  go_wp2_with (first | (go_at_call 58;(with_reducible refine HS.out.mono ?_);rintro e w1 ⟨rfl,xs',hp,hs,hN,hK,hB1⟩;have HP:=A_ hp;have HO:=A_ hs;have HN:=A_ hN;have HK:=A_ hK;have HB1:=A_ hB1;clear hp hs hN hK hB1) | (go_at_call 59;(refine (M.comp_S HN.out (HL.out xs' HP.out).1 (HL.out xs' HP.out).2).mono ?_);rintro e w2 ⟨v',rfl,hC,hK2,hB2⟩;have HC:=A_ hC;have HK2:=A_ hK2;have HB2:=A_ hB2;clear hC hK2 hB2))
  go_ret
  refine ⟨_,rfl,?_,HB.out.trans (HB1.out.trans HB2.out),⟨Nat.le_trans HK.out.1 HK2.out.1,fun i hi hn=>(HK2.out.2 i (Nat.lt_of_lt_of_le hi HK.out.1) hn).trans (HK.out.2 i hi hn)⟩⟩
  rw [← Z11.eq l0 xs' HQ.out HP.out (HO.out.imp (fun h=>by omega))]
  exact HC.out
 ·cases h
end Go.Proofs.YtoijcallajegfaaGreat.A
end
section
namespace Go.Proofs.YtoijcallajegfaaGreat.A
open Go.RowKit Go.Proofs.YtoijcallajegfaaGreatW.PrintWords Go.Proofs.YtoijcallajegfaaGreatW.PrintLast Go.Proofs.YtoijcallajegfaaGreatW.PrintMore
attribute [local go_sem] max2_int min2_int max_two min_two max_three min_three max_four min_four
set_option linter.unusedVariables false
set_option linter.unusedSimpArgs false
mutual
def Z10.j0:Nat→Int→Bool→Option ((List (S38)))
 | 0,_,_=>none
 | k + 1,x0,x15=>if x15 = true then (some ([]:List (S38))) else ((Z44.f k x0).bind fun t573=>(Z10.l0 k x0 (([]:List (S38))) t573 (t573.length:Int) 0))
def Z10.l0:Nat→Int→List (S38)→List (List Int)→Int→Int→Option ((List (S38)))
 | 0,_,_,_,_,_=>none
 | k + 1,x0,x3,x18,x19,x20=>if x20 < x19 then (if 0≤x20 then (if x20 < (x18.length:Int) then ((Z44.f k x0).bind fun t580=>(Z10.l1 k x0 x3 (rd_L1 x18 x20) x18 x19 x20 t580 (t580.length:Int) 0)) else (none)) else (none)) else ((Z11.f x3).bind fun t576=>(some t576))
def Z10.l1:Nat→Int→List (S38)→List Int→List (List Int)→Int→Int→List (List Int)→Int→Int→Option ((List (S38)))
 | 0,_,_,_,_,_,_,_,_,_=>none
 | k + 1,x0,x3,x5,x18,x19,x20,x25,x26,x27=>if x27 < x26 then (if 0≤x27 then (if x27 < (x25.length:Int) then ((Z55.f k x5 (rd_L1 x25 x27)).bind fun bt584=>(if bt584.2.2 = true then (if x3.length < 2932031007402 then (Z10.l1 k x0 (x3 ++ [(⟨bt584.1,bt584.2.1⟩:S38)]) x5 x18 x19 x20 x25 x26 (wrap64 (x27 + 1))) else (none)) else (Z10.l1 k x0 x3 x5 x18 x19 x20 x25 x26 (wrap64 (x27 + 1))))) else (none)) else (none)) else (Z10.l0 k x0 x3 x18 x19 (wrap64 (x20 + 1)))
end
def Z10.f (k:Nat) (a0:Int):Option ((List (S38))):=if a0 < 1 then (Z10.j0 k a0 true) else (Z10.j0 k a0 (decide (a0 > 4)))
theorem Z10.mono_l:∀ k,(∀ y0 y1,LeO (Z10.j0 k y0 y1) (Z10.j0 (k + 1) y0 y1))∧(∀ y0 y1 y2 y3 y4,LeO (Z10.l0 k y0 y1 y2 y3 y4) (Z10.l0 (k + 1) y0 y1 y2 y3 y4))∧(∀ y0 y1 y2 y3 y4 y5 y6 y7 y8,LeO (Z10.l1 k y0 y1 y2 y3 y4 y5 y6 y7 y8) (Z10.l1 (k + 1) y0 y1 y2 y3 y4 y5 y6 y7 y8))
 | 0=>⟨fun _ _ r h=>by simp [Z10.j0] at h,fun _ _ _ _ _ r h=>by simp [Z10.l0] at h,fun _ _ _ _ _ _ _ _ _ r h=>by simp [Z10.l1] at h⟩
 | k + 1=>by
  obtain ⟨ih0,ih1,ih2⟩:=Z10.mono_l k
  refine ⟨?_,?_,?_⟩
  ·intro y0 y1
   unfold Z10.j0
   repeat' first|exact ih0 _ _|exact ih1 _ _ _ _ _|exact ih2 _ _ _ _ _ _ _ _ _|exact Z55.mono _ _ _|exact Z44.mono _ _|exact lo_|refine LeO.ite ?_ ?_|refine LeO.bind ?_ (fun _=>?_)
  ·intro y0 y1 y2 y3 y4
   unfold Z10.l0
   repeat' first|exact ih0 _ _|exact ih1 _ _ _ _ _|exact ih2 _ _ _ _ _ _ _ _ _|exact Z55.mono _ _ _|exact Z44.mono _ _|exact lo_|refine LeO.ite ?_ ?_|refine LeO.bind ?_ (fun _=>?_)
  ·intro y0 y1 y2 y3 y4 y5 y6 y7 y8
   unfold Z10.l1
   repeat' first|exact ih0 _ _|exact ih1 _ _ _ _ _|exact ih2 _ _ _ _ _ _ _ _ _|exact Z55.mono _ _ _|exact Z44.mono _ _|exact lo_|refine LeO.ite ?_ ?_|refine LeO.bind ?_ (fun _=>?_)
theorem Z10.mono:∀ a0 k,LeO (Z10.f k a0) (Z10.f (k + 1) a0):=by
 intro a0 k
 obtain ⟨ih0,ih1,ih2⟩:=Z10.mono_l k
 unfold Z10.f
 repeat' first|exact ih0 _ _|exact ih1 _ _ _ _ _|exact ih2 _ _ _ _ _ _ _ _ _|exact Z55.mono _ _ _|exact Z44.mono _ _|exact lo_|refine LeO.ite ?_ ?_|refine LeO.bind ?_ (fun _=>?_)
set_option maxHeartbeats 8000000 in
set_option maxRecDepth 100000 in
theorem Z10.calls (k:Nat) (a0:Int) (r:List (S38)) (w:World) (h:Z10.f k a0 = some r) :
  Calls Tryz.prog 22 #[.int .i64 a0] w fun e w'=>∃ v0_:Value,e = .returned (v0_)∧Kd.S k38 38 w' w.heap.size (fun _=>True) v0_ r∧Below w.heap.size w w':=by
 have hu38:=Tryz.underlying38
 have HB:=A_ (Below.refl w.heap.size w)
 have H:=h
 unfold Z10.f at H
 clear h
 have HC2:=A_ H
 clear H
 go_enter Tryz.func22,Tryz.ntmps22
 go_upto_region 1 with (fail)
 go_cut [15] (fun v15 wc=>∃ (kq:Nat) (x15_1:Bool),v15 = .bool x15_1∧Aside0 (Z10.j0 kq a0 x15_1 = some r)∧Aside0 (kq≤k)∧Aside0 (Below w.heap.size w wc))
 case first =>
  have H:=HC2.out
  clear HC2
  by_cases c3:a0 < 1
  ·rw [if_pos c3] at H
   have c3b0:=oC_ c3
   clear c3
   (first | rw [c3b0] | (simp only [i64_w,i32_w];rw [c3b0]) | skip)
   have H':=A_ H
   clear H
   go_wp2
   go_meet
   case rel=>exact ⟨_,(true),qc_,H',⟨qd_⟩,⟨hB_⟩⟩
  ·rw [if_neg c3] at H
   have c3b0:=oD_ c3
   clear c3
   (first | rw [c3b0] | (simp only [i64_w,i32_w];rw [c3b0]) | skip)
   have H':=A_ H
   clear H
   go_wp2
   go_meet
   case rel=>exact ⟨_,(decide (a0 > 4)),qc_,H',⟨qd_⟩,⟨hB_⟩⟩
 case rest =>
  clear HC2
  obtain ⟨kq,x15_1,rfl,HA,HJ1,HB⟩:=hcut
  cases kq with
  | zero=>exact absurd HA.out (by simp [Z10.j0])
  | succ kj1 =>
   have H:=HA.out
   clear HA
   simp only [Z10.j0] at H
   by_cases c4:x15_1 = true
   ·subst c4
    rw [if_pos rfl] at H
    obtain rfl:=Option.some.inj H
    go_wp2
    go_ret
    exact ⟨_,qb_,by first | exact Kd.S_nil _ _ _ _ _ | exact Kd.N_nil _ _ _ _ _ | exact Kd.V_nil _ _ _ _ _ | exact Kd.Q_nil _ _ _ _ _ | exact Kd.R_nil _ _ _ _ _,hB_⟩
   ·replace c4:=Bool.eq_false_iff.mpr c4
    subst c4
    have H1:((Z44.f kj1 a0).bind fun t573=>(Z10.l0 kj1 a0 (([]:List (S38))) t573 (t573.length:Int) 0)) = some r:=by rw [if_neg (show ¬ (false = true) by decide)] at H;exact H
    clear H
    have H:=H1
    clear H1
    obtain ⟨y570,hy570⟩:∃ y_:List (S38),y_ = (([]:List (S38))):=⟨_,rfl⟩
    replace H:((Z44.f kj1 a0).bind fun t573=>(Z10.l0 kj1 a0 y570 t573 (t573.length:Int) 0)) = some r:=by first | (rw [hy570];exact H) | exact H
    have Ny570:=A_ hy570
    clear hy570
    obtain ⟨t573,A5,H⟩:=bi_ H
    have H':=A_ H
    clear H
    go_wp2_with (first | ((with_reducible refine gB_ (N:=16) rfl ?_);refine Kd.S_lit k38 _ 38 ?hg (N:=16) ?hd (xs:=([]:List (S38))) (inner:=[]) (ok:=(fun k_=>(w.heap.size≤k_))) (okp:=(fun k_=>(w.heap.size≤k_))) ?hr ?hp (fun _ hk=>hk) ((show ∀ k_,wc.heap.size≤k_→(fun k_=>(w.heap.size≤k_)) k_ from fun k_ hk=>(Nat.le_trans (bF_ hB_) hk)) _ (nA_ _)) (Below.refl _ _) (nA_ _) (by simp) ?_;(case hd=>rfl);(case hg=>rfl);(case hr=>first | (go_simp;done) | (go_simp;rfl));(case hp=>exact (Reps.none _ _));intro v571 w6 ho7 hb hg_ hnew_;clear hg_ hnew_;(first | rw [← Ny570.out] at ho7 | (simp only [Int.reduceToNat] at ho7;rw [← Ny570.out] at ho7));have HO572:=A_ (Kd.S_lower ho7 (bF_ hB_));replace HB:=b1_ hb;clear hb ho7) | ((with_reducible refine gA_ (f:=37) rfl ?_);refine gL_ (some 18) Tryz.func37 #[.int .i64 a0] rfl qa_ ?_;(with_reducible refine (Z44.calls kj1 a0 t573 _ A5.out).mono ?_);rintro e w8 ⟨v574,rfl,ho0,hb⟩;refine ⟨_,rfl,?_⟩;have HO575:=A_ (Kd.N_lower (Kd.N_mono (ok':=fun k_=>(w.heap.size≤k_)∧some k_≠(v571:Value).ownBlock) ho0 (fun k_ hk_=>⟨(Nat.le_trans (bF_ hB_) hk_),(Kd.fresh' (Kd.S_lt (ss_ HO572)) k_ hk_)⟩)) (bF_ hB_));replace HO572:=A_ (Kd.S_elder' (ss_ HO572) (Kd.N_base ho0) hb);replace HB:=b1_ hb;clear hb ho0;obtain ⟨Ao9,co9,eo9⟩:=Kd.N_slice HO575.out;subst eo9))
    go_loopg [3,20] kj1 (fun kq v3 v20 w'=>∃ (x3_2:List (S38)) (x20_2:Int),v20 = .int .i64 x20_2∧Aside0 (Z10.l0 kq a0 x3_2 t573 (t573.length:Int) x20_2 = some r)∧Aside0 (kq≤kj1)∧Aside0 (Kd.S k38 38 w' w.heap.size (fun k_=>(w.heap.size≤k_)∧some k_≠((.slice Ao9 t573.length co9):Value).ownBlock) v3 x3_2)∧Aside0 (Kd.N (Kd.slice 3 (Kd.int .i64)) 27 w' w.heap.size (fun k_=>(w.heap.size≤k_)∧some k_≠(v3:Value).ownBlock) (.slice Ao9 t573.length co9) t573)∧Aside0 (Below w.heap.size w w'))
    case atStart=>exact ⟨(y570),(0),qc_,H',⟨nA_ _⟩,⟨(ss_ HO572)⟩,⟨by (with_reducible repeat (first | apply Kd.N_alloc | apply Kd.N_drewN | apply Kd.N_drew));exact HO575.out⟩,⟨hB_⟩⟩
    case round =>
     clear H'
     obtain ⟨x3_2,x20_2,rfl,HA,HK2,HO_3,HO_18,HB⟩:=hrel
     cases gk with
     | zero=>exact absurd HA.out (by simp [Z10.l0])
     | succ k2 =>
      have H:=HA.out
      clear HA
      simp only [Z10.l0] at H
      by_cases c10:x20_2 < (t573.length:Int)
      ·rw [if_pos c10] at H
       have c10b0:=oC_ c10
       clear c10
       have c11:=cp_ H
       replace H:=ca_ H
       have c11b0:=oC_ c11
       clear c11
       have c12:=cp_ H
       replace H:=ca_ H
       have c12b0:=oC_ c12
       clear c12
       obtain ⟨t580,A13,H⟩:=bi_ H
       have H':=A_ H
       clear H
       have p579:0≤(x20_2:Int):=oB_ qe_
       have q579:x20_2 < (t573.length:Int):=oB_ qe_
       obtain ⟨ad579,A579_0,c579_0,e579,hx579_0,hl579_0,hi579_0⟩:=at_L1 (Kd.N_reads' HO_18.out).2.2 x20_2 p579 q579
       cases e579
       obtain ⟨ce579,hce579,hMe579,hcc579⟩:=Kd.N_get HO_18.out [] x20_2 p579 (by first | exact q579 | exact oB_ qe_ | (have e_:=(Kd.N_reads' HO_18.out).1;omega))
       obtain ⟨ua579_0,uc579_0,rfl,ul579_0,ge579_0⟩:=Kd.FK_slice_open hMe579
       have hv579_0:=hcc579 0 _ rfl
       rw [Nat.add_zero,show ((Kd.slice 3 (Kd.int .i64))).sz = 1 from rfl,Nat.mul_one] at hv579_0
       replace hv579_0:=Option.some.inj (hv579_0.symm.trans hx579_0)
       injection hv579_0 with hva_ hvn_ hvc_
       rw [hva_] at ge579_0
       rw [hvc_] at ul579_0
       have HL579_0:=A_ (show Kd.V (Kd.int .i64) 3 _ w.heap.size _ _ (rd_L1 t573 x20_2) from Kd.V_mk ul579_0 ge579_0)
       clear hva_ hvn_ hvc_ ge579_0 ul579_0
       clear hcc579 hce579
       have HR579_0:=A_ hi579_0
       have HC579_0:=A_ hl579_0
       clear hi579_0 hl579_0
       replace p579:=eq_true p579
       replace q579:=eq_true q579
       go_wp2_with (first | ((with_reducible refine gA_ (f:=37) rfl ?_);refine gL_ (some 25) Tryz.func37 #[.int .i64 a0] rfl qa_ ?_;(with_reducible refine (Z44.calls k2 a0 t580 _ A13.out).mono ?_);rintro e w14 ⟨v581,rfl,ho0,hb⟩;refine ⟨_,rfl,?_⟩;replace HL579_0:=A_ (Kd.V_elder' (by (with_reducible repeat (first | apply Kd.V_alloc | apply Kd.V_drewN | apply Kd.V_drew));exact HL579_0.out) (Kd.N_base ho0) hb);have HO582:=A_ (Kd.N_lower (Kd.N_mono (ok':=fun k_=>(w.heap.size≤k_)∧some k_≠(u3:Value).ownBlock∧some k_≠(.slice (some ad579) t573.length co9:Value).ownBlock) ho0 (fun k_ hk_=>⟨(Nat.le_trans (bF_ hB_) hk_),(Kd.fresh' (Kd.S_lt (ss_ HO_3)) k_ hk_),(Kd.fresh' (Kd.N_lt (by (with_reducible repeat (first | apply Kd.N_alloc | apply Kd.N_drewN | apply Kd.N_drew));exact HO_18.out)) k_ hk_)⟩)) (bF_ hB_));replace HO_3:=A_ (Kd.S_elder' (ss_ HO_3) (Kd.N_base ho0) hb);replace HO_18:=A_ (Kd.N_elder' (by (with_reducible repeat (first | apply Kd.N_alloc | apply Kd.N_drewN | apply Kd.N_drew));exact HO_18.out) (Kd.N_base ho0) hb);replace HR579_0:=A_ (cD_ (by repeat (first | (with_reducible exact HR579_0.out) | (with_reducible refine cA_ ?_ _) | (with_reducible refine cB_ ?_ _) | (with_reducible refine cC_ ?_) | exact HR579_0.out)) hb);replace HB:=b1_ hb;clear hb ho0;obtain ⟨Ao15,co15,eo15⟩:=Kd.N_slice HO582.out;subst eo15))
       go_loopg [3,27] k2 (fun kq v3 v27 w'=>∃ (x3_3:List (S38)) (x27_3:Int),v27 = .int .i64 x27_3∧Aside0 (Z10.l1 kq a0 x3_3 (rd_L1 t573 x20_2) t573 (t573.length:Int) x20_2 t580 (t580.length:Int) x27_3 = some r)∧Aside0 (kq≤k2)∧Aside0 (Kd.S k38 38 w' w.heap.size (fun k_=>(w.heap.size≤k_)∧some k_≠((.slice (some ad579) t573.length co9):Value).ownBlock∧some k_≠((.slice Ao15 t580.length co15):Value).ownBlock) v3 x3_3)∧Aside0 (Kd.V (Kd.int .i64) 3 w' w.heap.size (fun k_=>(w.heap.size≤k_)∧some k_≠(v3:Value).ownBlock∧some k_≠((.slice (some ad579) t573.length co9):Value).ownBlock∧some k_≠((.slice Ao15 t580.length co15):Value).ownBlock) (.slice A579_0 (rd_L1 t573 x20_2).length c579_0) (rd_L1 t573 x20_2))∧Aside0 (Kd.N (Kd.slice 3 (Kd.int .i64)) 27 w' w.heap.size (fun k_=>(w.heap.size≤k_)∧some k_≠(v3:Value).ownBlock∧some k_≠((.slice Ao15 t580.length co15):Value).ownBlock) (.slice (some ad579) t573.length co9) t573)∧Aside0 (Kd.N (Kd.slice 3 (Kd.int .i64)) 27 w' w.heap.size (fun k_=>(w.heap.size≤k_)∧some k_≠(v3:Value).ownBlock∧some k_≠((.slice (some ad579) t573.length co9):Value).ownBlock) (.slice Ao15 t580.length co15) t580)∧Aside0 (Below w.heap.size w w'))
       case atStart=>exact ⟨(x3_2),(0),qc_,H',⟨nA_ _⟩,⟨(sw_ (Kd.S_mono HO_3.out (fun _ hk=>⟨hk.1.1,⟨hk.1.2,hk.2⟩⟩)))⟩,⟨by (with_reducible repeat (first | apply Kd.V_alloc | apply Kd.V_drewN | apply Kd.V_drew));exact Kd.V_mono HL579_0.out (fun _ hk=>⟨hk.1.1.1,⟨hk.1.1.2,⟨hk.1.2,hk.2⟩⟩⟩)⟩,⟨by (with_reducible repeat (first | apply Kd.N_alloc | apply Kd.N_drewN | apply Kd.N_drew));exact Kd.N_mono HO_18.out (fun _ hk=>⟨hk.1.1,⟨hk.1.2,hk.2⟩⟩)⟩,⟨by (with_reducible repeat (first | apply Kd.N_alloc | apply Kd.N_drewN | apply Kd.N_drew));exact HO582.out⟩,⟨hB_⟩⟩
       case round =>
        clear H'
        obtain ⟨x3_3,x27_3,rfl,HA,HK3,HO_3,HO_5,HO_18,HO_25,HB⟩:=hrel
        cases gk with
        | zero=>exact absurd HA.out (by simp [Z10.l1])
        | succ k3 =>
         have H:=HA.out
         clear HA
         simp only [Z10.l1] at H
         by_cases c16:x27_3 < (t580.length:Int)
         ·rw [if_pos c16] at H
          have c16b0:=oC_ c16
          clear c16
          have c17:=cp_ H
          replace H:=ca_ H
          have c17b0:=oC_ c17
          clear c17
          have c18:=cp_ H
          replace H:=ca_ H
          have c18b0:=oC_ c18
          clear c18
          obtain ⟨⟨t584,t587,t590⟩,A19,H⟩:=bi_ H
          try dsimp only at H
          by_cases c20:t590 = true
          ·subst c20
           rw [if_pos rfl] at H
           have c21:=cp_ H
           replace H:=ca_ H
           have LMc21:=A_ c21
           clear c21
           obtain ⟨y592,hy592⟩:∃ y_:List (S38),y_ = (x3_3 ++ [(⟨t584,t587⟩:S38)]):=⟨_,rfl⟩
           replace H:(Z10.l1 k3 a0 y592 (rd_L1 t573 x20_2) t573 (t573.length:Int) x20_2 t580 (t580.length:Int) (wrap64 (x27_3 + 1))) = some r:=by first | (rw [hy592];exact H) | exact H
           have Ny592:=A_ hy592
           clear hy592
           have H':=A_ H
           clear H
           have p583:0≤(x27_3:Int):=oB_ qe_
           have q583:x27_3 < (t580.length:Int):=oB_ qe_
           obtain ⟨ad583,A583_0,c583_0,e583,hx583_0,hl583_0,hi583_0⟩:=at_L1 (Kd.N_reads' HO_25.out).2.2 x27_3 p583 q583
           cases e583
           obtain ⟨ce583,hce583,hMe583,hcc583⟩:=Kd.N_get HO_25.out [] x27_3 p583 (by first | exact q583 | exact oB_ qe_ | (have e_:=(Kd.N_reads' HO_25.out).1;omega))
           obtain ⟨ua583_0,uc583_0,rfl,ul583_0,ge583_0⟩:=Kd.FK_slice_open hMe583
           have hv583_0:=hcc583 0 _ rfl
           rw [Nat.add_zero,show ((Kd.slice 3 (Kd.int .i64))).sz = 1 from rfl,Nat.mul_one] at hv583_0
           replace hv583_0:=Option.some.inj (hv583_0.symm.trans hx583_0)
           injection hv583_0 with hva_ hvn_ hvc_
           rw [hva_] at ge583_0
           rw [hvc_] at ul583_0
           have HL583_0:=A_ (show Kd.V (Kd.int .i64) 3 _ w.heap.size _ _ (rd_L1 t580 x27_3) from Kd.V_mk ul583_0 ge583_0)
           clear hva_ hvn_ hvc_ ge583_0 ul583_0
           clear hcc583 hce583
           have HR583_0:=A_ hi583_0
           have HC583_0:=A_ hl583_0
           clear hi583_0 hl583_0
           replace p583:=eq_true p583
           replace q583:=eq_true q583
           go_wp2_with (first | ((with_reducible refine gA_ (f:=38) rfl ?_);refine gL_ (some 35) Tryz.func38 #[.agg #[.slice A579_0 (rd_L1 t573 x20_2).length c579_0,.slice A583_0 (rd_L1 t580 x27_3).length c583_0]] rfl qa_ ?_;(with_reducible refine (Z55.calls k3 _ _ (rd_L1 t573 x20_2) _ _ (rd_L1 t580 x27_3) t584 t587 true _ ?side1 ?side2 ?side3 ?side4 A19.out).mono ?_);(case side1=>exact cw_ ((Kd.V_reads' HO_5.out).2.2));(case side2=>exact (Kd.V_reads' HO_5.out).2.1);(case side3=>repeat (first | exact (by repeat (first | (with_reducible exact HR583_0.out) | (with_reducible refine cA_ ?_ _) | (with_reducible refine cB_ ?_ _) | (with_reducible refine cC_ ?_) | exact HR583_0.out)) | (with_reducible first | refine cA_ ?_ _ | refine cB_ ?_ _ | refine cC_ ?_)));(case side4=>exact HC583_0.out);rintro e w22 ⟨v585,v588,rfl,ho0,ho1,hb⟩;refine ⟨_,rfl,?_⟩;replace HO_3:=A_ (Kd.S_mono (Kd.S_told (Kd.S_told (Kd.S_old (ss_ HO_3) hb) (Kd.R_base ho0)) (Kd.R_base ho1)) (fun _ h_=>h_.1));replace HO_5:=A_ (Kd.V_mono (Kd.V_told (Kd.V_told (Kd.V_old (by (with_reducible repeat (first | apply Kd.V_alloc | apply Kd.V_drewN | apply Kd.V_drew));exact HO_5.out) hb) (Kd.R_base ho0)) (Kd.R_base ho1)) (fun _ h_=>h_.1));replace HO_18:=A_ (Kd.N_mono (Kd.N_told (Kd.N_told (Kd.N_old (by (with_reducible repeat (first | apply Kd.N_alloc | apply Kd.N_drewN | apply Kd.N_drew));exact HO_18.out) hb) (Kd.R_base ho0)) (Kd.R_base ho1)) (fun _ h_=>h_.1));replace HO_25:=A_ (Kd.N_mono (Kd.N_told (Kd.N_told (Kd.N_old (by (with_reducible repeat (first | apply Kd.N_alloc | apply Kd.N_drewN | apply Kd.N_drew));exact HO_25.out) hb) (Kd.R_base ho0)) (Kd.R_base ho1)) (fun _ h_=>h_.1));replace HL583_0:=A_ (Kd.V_mono (Kd.V_told (Kd.V_told (Kd.V_old (by (with_reducible repeat (first | apply Kd.V_alloc | apply Kd.V_drewN | apply Kd.V_drew));exact HL583_0.out) hb) (Kd.R_base ho0)) (Kd.R_base ho1)) (fun _ h_=>h_.1));have HO586:=A_ (rE_ (Kd.R_newM (M:=fun k_=>(w.heap.size≤k_)) ho0 (bF_ hB_) (fun k_ h_=>h_)) (bF_ hB_));have HO589:=A_ (rE_ (Kd.R_newM (M:=fun k_=>(w.heap.size≤k_)) ho1 (bF_ hB_) (fun k_ h_=>h_)) (bF_ hB_));replace HR583_0:=A_ (cD_ (by repeat (first | (with_reducible exact HR583_0.out) | (with_reducible refine cA_ ?_ _) | (with_reducible refine cB_ ?_ _) | (with_reducible refine cC_ ?_) | exact HR583_0.out)) hb);replace HB:=b1_ hb;clear hb ho0 ho1) | ((with_reducible refine gB_ (N:=8) rfl ?_);refine bx_ 8 #[.slice none 0 0,.slice none 0 0] 38 ?_;intro gb591 hg w23 hbox hb;replace HO_3:=A_ (Kd.S_below (Kd.S_elderB (ss_ HO_3) gb591 (Nat.le_of_eq hg.symm)) hb);replace HO_5:=A_ (Kd.V_below (Kd.V_elderB (by (with_reducible repeat (first | apply Kd.V_alloc | apply Kd.V_drewN | apply Kd.V_drew));exact HO_5.out) gb591 (Nat.le_of_eq hg.symm)) hb);replace HO_18:=A_ (Kd.N_below (Kd.N_elderB (by (with_reducible repeat (first | apply Kd.N_alloc | apply Kd.N_drewN | apply Kd.N_drew));exact HO_18.out) gb591 (Nat.le_of_eq hg.symm)) hb);replace HO_25:=A_ (Kd.N_below (Kd.N_elderB (by (with_reducible repeat (first | apply Kd.N_alloc | apply Kd.N_drewN | apply Kd.N_drew));exact HO_25.out) gb591 (Nat.le_of_eq hg.symm)) hb);replace HL583_0:=A_ (Kd.V_below (Kd.V_elderB (by (with_reducible repeat (first | apply Kd.V_alloc | apply Kd.V_drewN | apply Kd.V_drew));exact HL583_0.out) gb591 (Nat.le_of_eq hg.symm)) hb);replace HO586:=rb_ HO586 hb;replace HO589:=rb_ HO589 hb;replace HR583_0:=A_ (cD_ (by repeat (first | (with_reducible exact HR583_0.out) | (with_reducible refine cA_ ?_ _) | (with_reducible refine cB_ ?_ _) | (with_reducible refine cC_ ?_) | exact HR583_0.out)) hb);have BK591:=A_ hbox;have GW591:=gw_ w hg;have GE591:=GW591;replace HB:=b1_ hb;clear hb hbox hg;obtain ⟨Ao24,co24,eo24⟩:=Kd.R_slice HO586.out;subst eo24;obtain ⟨hcz25_0,hcz25_1,hfz25_0,hfz25_1⟩:=c2_ BK591;obtain ⟨Ao26,co26,eo26⟩:=Kd.R_slice HO589.out;subst eo26) | ((with_reducible refine gate_store (t:=38) (p:=8) rfl ?_);refine store_event (t:=38) (p:=8) (v:=?vo_w27) (w1:=((w23.setCell ⟨gb591,0,none⟩ (.slice Ao24 t584.length co24)).setCell ⟨gb591,1,none⟩ (.slice Ao26 t587.length co26))) ?hg ?ho ?hn ?hr ?_;(case ho=>rfl);(case hg=>rfl);(case hn=>rfl);(case hr=>first | (go_simp;done) | (go_simp;rfl));intro w27 hw;have n0_:Aside0 (Kd.S k38 38 w27 w.heap.size (fun k_=>(w.heap.size≤k_)∧some k_≠(.slice (some ad579) t573.length co9:Value).ownBlock∧some k_≠(.slice (some ad583) t580.length co15:Value).ownBlock∧some k_≠(.slice Ao24 t584.length co24:Value).ownBlock∧some k_≠(.slice Ao26 t587.length co26:Value).ownBlock∧k_≠gb591) u3 x3_3):=⟨(by rw [hw];exact (sw_ (Kd.S_mono (Kd.S_far (p:=⟨gb591,1,none⟩) (Kd.S_far (p:=⟨gb591,0,none⟩) (Kd.S_mono HO_3.out (fun k_ hk=>(⟨hk,hk.2⟩:_∧k_≠gb591))) (fun _ hk=>hk.2) (.slice Ao24 t584.length co24)) (fun _ hk=>hk.2) (.slice Ao26 t587.length co26)) (fun _ hk=>⟨hk.1.1.1.1.1,⟨hk.1.1.1.1.2.1,⟨hk.1.1.1.1.2.2,⟨hk.1.1.1.2,⟨hk.1.1.2,hk.1.2⟩⟩⟩⟩⟩))))⟩;have n1_:Aside0 (Kd.V (Kd.int .i64) 3 w27 w.heap.size (fun k_=>(w.heap.size≤k_)∧some k_≠(u3:Value).ownBlock∧some k_≠(.slice (some ad579) t573.length co9:Value).ownBlock∧some k_≠(.slice (some ad583) t580.length co15:Value).ownBlock∧some k_≠(.slice Ao24 t584.length co24:Value).ownBlock∧some k_≠(.slice Ao26 t587.length co26:Value).ownBlock∧k_≠gb591) (.slice A579_0 (rd_L1 t573 x20_2).length c579_0) (rd_L1 t573 x20_2)):=⟨(by rw [hw];exact (by (with_reducible repeat (first | apply Kd.V_alloc | apply Kd.V_drewN | apply Kd.V_drew));exact Kd.V_mono (Kd.V_far (p:=⟨gb591,1,none⟩) (Kd.V_far (p:=⟨gb591,0,none⟩) (Kd.V_mono HO_5.out (fun k_ hk=>(⟨hk,hk.2⟩:_∧k_≠gb591))) (fun _ hk=>hk.2) (.slice Ao24 t584.length co24)) (fun _ hk=>hk.2) (.slice Ao26 t587.length co26)) (fun _ hk=>⟨hk.1.1.1.1.1,⟨hk.1.1.1.1.2.1,⟨hk.1.1.1.1.2.2.1,⟨hk.1.1.1.1.2.2.2,⟨hk.1.1.1.2,⟨hk.1.1.2,hk.1.2⟩⟩⟩⟩⟩⟩)))⟩;have n2_:Aside0 (Kd.N (Kd.slice 3 (Kd.int .i64)) 27 w27 w.heap.size (fun k_=>(w.heap.size≤k_)∧some k_≠(u3:Value).ownBlock∧some k_≠(.slice (some ad583) t580.length co15:Value).ownBlock∧some k_≠(.slice Ao24 t584.length co24:Value).ownBlock∧some k_≠(.slice Ao26 t587.length co26:Value).ownBlock∧k_≠gb591) (.slice (some ad579) t573.length co9) t573):=⟨(by rw [hw];exact (by (with_reducible repeat (first | apply Kd.N_alloc | apply Kd.N_drewN | apply Kd.N_drew));exact Kd.N_mono (Kd.N_far (p:=⟨gb591,1,none⟩) (Kd.N_far (p:=⟨gb591,0,none⟩) (Kd.N_mono HO_18.out (fun k_ hk=>(⟨hk,hk.2⟩:_∧k_≠gb591))) (fun _ hk=>hk.2) (.slice Ao24 t584.length co24)) (fun _ hk=>hk.2) (.slice Ao26 t587.length co26)) (fun _ hk=>⟨hk.1.1.1.1.1,⟨hk.1.1.1.1.2.1,⟨hk.1.1.1.1.2.2,⟨hk.1.1.1.2,⟨hk.1.1.2,hk.1.2⟩⟩⟩⟩⟩)))⟩;have n3_:Aside0 (Kd.N (Kd.slice 3 (Kd.int .i64)) 27 w27 w.heap.size (fun k_=>(w.heap.size≤k_)∧some k_≠(u3:Value).ownBlock∧some k_≠(.slice (some ad579) t573.length co9:Value).ownBlock∧some k_≠(.slice Ao24 t584.length co24:Value).ownBlock∧some k_≠(.slice Ao26 t587.length co26:Value).ownBlock∧k_≠gb591) (.slice (some ad583) t580.length co15) t580):=⟨(by rw [hw];exact (by (with_reducible repeat (first | apply Kd.N_alloc | apply Kd.N_drewN | apply Kd.N_drew));exact Kd.N_mono (Kd.N_far (p:=⟨gb591,1,none⟩) (Kd.N_far (p:=⟨gb591,0,none⟩) (Kd.N_mono HO_25.out (fun k_ hk=>(⟨hk,hk.2⟩:_∧k_≠gb591))) (fun _ hk=>hk.2) (.slice Ao24 t584.length co24)) (fun _ hk=>hk.2) (.slice Ao26 t587.length co26)) (fun _ hk=>⟨hk.1.1.1.1.1,⟨hk.1.1.1.1.2.1,⟨hk.1.1.1.1.2.2,⟨hk.1.1.1.2,⟨hk.1.1.2,hk.1.2⟩⟩⟩⟩⟩)))⟩;have n4_:Aside0 (Kd.V (Kd.int .i64) 3 w27 w.heap.size (fun k_=>(w.heap.size≤k_)∧some k_≠(u3:Value).ownBlock∧some k_≠(.slice (some ad579) t573.length co9:Value).ownBlock∧some k_≠(.slice (some ad583) t580.length co15:Value).ownBlock∧some k_≠(.slice Ao24 t584.length co24:Value).ownBlock∧some k_≠(.slice Ao26 t587.length co26:Value).ownBlock∧k_≠gb591) (.slice A583_0 (rd_L1 t580 x27_3).length c583_0) (rd_L1 t580 x27_3)):=⟨(by rw [hw];exact (by (with_reducible repeat (first | apply Kd.V_alloc | apply Kd.V_drewN | apply Kd.V_drew));exact Kd.V_mono (Kd.V_far (p:=⟨gb591,1,none⟩) (Kd.V_far (p:=⟨gb591,0,none⟩) (Kd.V_mono HL583_0.out (fun k_ hk=>(⟨hk,hk.2⟩:_∧k_≠gb591))) (fun _ hk=>hk.2) (.slice Ao24 t584.length co24)) (fun _ hk=>hk.2) (.slice Ao26 t587.length co26)) (fun _ hk=>⟨hk.1.1.1.1.1.1,⟨hk.1.1.1.1.1.2.1,⟨hk.1.1.1.1.1.2.2,⟨hk.1.1.1.1.2,⟨hk.1.1.1.2,⟨hk.1.1.2,hk.1.2⟩⟩⟩⟩⟩⟩)))⟩;have n5_:Aside0 (Kd.R (Kd.int .i64) 3 w27 w.heap.size (fun k_=>(w.heap.size≤k_)∧some k_≠(.slice Ao26 t587.length co26:Value).ownBlock) (.slice Ao24 t584.length co24) t584):=⟨(by rw [hw];exact (rw_ (Kd.R_mono (Kd.R_far (p:=⟨gb591,1,none⟩) (Kd.R_far (p:=⟨gb591,0,none⟩) (Kd.R_types HO586.out BK591.out (by decide)) (fun _ hk=>hk.2) (.slice Ao24 t584.length co24)) (fun _ hk=>hk.2) (.slice Ao26 t587.length co26)) (fun _ hk=>⟨hk.1.1,hk.1.2⟩))))⟩;have n6_:Aside0 (Kd.R (Kd.int .i64) 3 w27 w.heap.size (fun k_=>(w.heap.size≤k_)∧some k_≠(.slice Ao24 t584.length co24:Value).ownBlock) (.slice Ao26 t587.length co26) t587):=⟨(by rw [hw];exact (rw_ (Kd.R_mono (Kd.R_far (p:=⟨gb591,1,none⟩) (Kd.R_far (p:=⟨gb591,0,none⟩) (Kd.R_types HO589.out BK591.out (by decide)) (fun _ hk=>hk.2) (.slice Ao24 t584.length co24)) (fun _ hk=>hk.2) (.slice Ao26 t587.length co26)) (fun _ hk=>⟨hk.1.1,hk.1.2⟩))))⟩;have n7_:Aside0 (w27.heap[gb591]? = some (.cells #[.slice Ao24 t584.length co24,.slice Ao26 t587.length co26] 38 (0,0))):=⟨(by rw [hw];exact qp_)⟩;have n8_:Aside0 (Below w.heap.size w w27):=⟨(by rw [hw];exact hB_)⟩;clear hw;clear HO_3;clear HO_5;clear HO_18;clear HO_25;clear HL583_0;clear HO586;clear HO589;clear BK591;clear HB;have HO_3:=n0_;have HO_5:=n1_;have HO_18:=n2_;have HO_25:=n3_;have HL583_0:=n4_;have HO586:=n5_;have HO589:=n6_;have BK591:=n7_;have HB:=n8_;clear n0_ n1_ n2_ n3_ n4_ n5_ n6_ n7_ n8_;obtain ⟨hcz28_0,hcz28_1,hfz28_0,hfz28_1⟩:=c2_ BK591) | ((with_reducible refine gate_builtin (b:=.append) (xs:=#[.tmp 39,.tmp 41]) rfl ?_);at_builtin;refine Kd.S_append k38 (w0:=w) w.heap.size rfl (.tmp 39) (.tmp 41) 28 38 (.agg #[(.slice none 0 0),(.slice none 0 0)]) 48 rfl Tryz.underlying28 info38 rfl (by decide) (by omega) u3 x3_3 (⟨t584,t587⟩:S38) [.slice Ao24 t584.length co24,.slice Ao26 t587.length co26] (fun k_=>(w.heap.size≤k_)∧some k_≠(.slice (some ad579) t573.length co9:Value).ownBlock∧some k_≠(.slice (some ad583) t580.length co15:Value).ownBlock∧k_≠gb591) (fun k_=>some k_ = (.slice Ao24 t584.length co24:Value).ownBlock ∨ some k_ = (.slice Ao26 t587.length co26:Value).ownBlock) rfl rfl ?aP ?aK ?aF ?aO ?aB ?aS ?aL ?_;(case aP=>exact k38_mkM _ _ _ (⟨t584,t587⟩:S38) (Kd.R_mono (Kd.R_tight rfl (Kd.R_mono (ok':=(fun k_=>((fun k_=>(w.heap.size≤k_)∧some k_≠(.slice (some ad579) t573.length co9:Value).ownBlock∧some k_≠(.slice (some ad583) t580.length co15:Value).ownBlock∧k_≠gb591)) k_∧some k_≠(u3:Value).ownBlock)) (Kd.R_types (Kd.R_apart' (Kd.R_apart' (Kd.R_apart' (HO586.out) (Kd.N_typed HO_18.out) (by decide)) (Kd.N_typed HO_25.out) (by decide)) (Kd.S_typed HO_3.out) (by decide)) BK591.out (by decide)) (fun k_ hk=>⟨⟨hk.1.1.1.1.1,⟨hk.1.1.1.2,⟨hk.1.1.2,hk.2⟩⟩⟩,hk.1.2⟩))) (fun _ hk=>.inl hk)) (Kd.R_mono (Kd.R_tight rfl (Kd.R_mono (ok':=(fun k_=>((fun k_=>(w.heap.size≤k_)∧some k_≠(.slice (some ad579) t573.length co9:Value).ownBlock∧some k_≠(.slice (some ad583) t580.length co15:Value).ownBlock∧k_≠gb591)) k_∧some k_≠(u3:Value).ownBlock)) (Kd.R_types (Kd.R_apart' (Kd.R_apart' (Kd.R_apart' (HO589.out) (Kd.N_typed HO_18.out) (by decide)) (Kd.N_typed HO_25.out) (by decide)) (Kd.S_typed HO_3.out) (by decide)) BK591.out (by decide)) (fun k_ hk=>⟨⟨hk.1.1.1.1.1,⟨hk.1.1.1.2,⟨hk.1.1.2,hk.2⟩⟩⟩,hk.1.2⟩))) (fun _ hk=>.inr hk)) (fun k_ h0_ h1_=>(HO586.out.1 k_ h0_).2 h1_.symm));(case aK=>exact (fun k_ hk=>hk.elim (fun e_=>((Kd.R_mono (ok':=(fun k_=>((fun k_=>(w.heap.size≤k_)∧some k_≠(.slice (some ad579) t573.length co9:Value).ownBlock∧some k_≠(.slice (some ad583) t580.length co15:Value).ownBlock∧k_≠gb591)) k_∧some k_≠(u3:Value).ownBlock)) (Kd.R_types (Kd.R_apart' (Kd.R_apart' (Kd.R_apart' (HO586.out) (Kd.N_typed HO_18.out) (by decide)) (Kd.N_typed HO_25.out) (by decide)) (Kd.S_typed HO_3.out) (by decide)) BK591.out (by decide)) (fun k_ hk=>⟨⟨hk.1.1.1.1.1,⟨hk.1.1.1.2,⟨hk.1.1.2,hk.2⟩⟩⟩,hk.1.2⟩))).1 k_ e_.symm) (fun e_=>((Kd.R_mono (ok':=(fun k_=>((fun k_=>(w.heap.size≤k_)∧some k_≠(.slice (some ad579) t573.length co9:Value).ownBlock∧some k_≠(.slice (some ad583) t580.length co15:Value).ownBlock∧k_≠gb591)) k_∧some k_≠(u3:Value).ownBlock)) (Kd.R_types (Kd.R_apart' (Kd.R_apart' (Kd.R_apart' (HO589.out) (Kd.N_typed HO_18.out) (by decide)) (Kd.N_typed HO_25.out) (by decide)) (Kd.S_typed HO_3.out) (by decide)) BK591.out (by decide)) (fun k_ hk=>⟨⟨hk.1.1.1.1.1,⟨hk.1.1.1.2,⟨hk.1.1.2,hk.2⟩⟩⟩,hk.1.2⟩))).1 k_ e_.symm)));(case aB=>exact hB_);(case aF=>exact (fun k_ hk=>⟨(Nat.le_trans (bF_ hB_) hk),Kd.fresh' (Kd.N_lt (by (with_reducible repeat (first | apply Kd.N_alloc | apply Kd.N_drewN | apply Kd.N_drew));exact HO_18.out)) k_ hk,Kd.fresh' (Kd.N_lt (by (with_reducible repeat (first | apply Kd.N_alloc | apply Kd.N_drewN | apply Kd.N_drew));exact HO_25.out)) k_ hk,Kd.freshB (kk_ BK591) k_ hk⟩));(case aO=>exact (sw_ (Kd.S_mono HO_3.out (fun _ hk=>⟨⟨hk.1,⟨hk.2.1,⟨hk.2.2.1,hk.2.2.2.2.2⟩⟩⟩,fun e_=>e_.elim hk.2.2.2.1 hk.2.2.2.2.1⟩))));(case aS=>exact (bF_ hB_));(case aL=>have:=LMc21.out;omega);intro v593 w29 ho hb hg hat;rw [← Ny592.out] at ho;replace HO_5:=A_ (Kd.V_afterv (ok:=(fun k_=>(w.heap.size≤k_)∧some k_≠(.slice (some ad579) t573.length co9:Value).ownBlock∧some k_≠(.slice (some ad583) t580.length co15:Value).ownBlock∧some k_≠(.slice Ao24 t584.length co24:Value).ownBlock∧some k_≠(.slice Ao26 t587.length co26:Value).ownBlock∧k_≠gb591)) (by (with_reducible repeat (first | apply Kd.V_alloc | apply Kd.V_drewN | apply Kd.V_drew));exact Kd.V_mono HO_5.out (fun _ hk=>⟨⟨hk.1,⟨hk.2.2.1,⟨hk.2.2.2.1,⟨hk.2.2.2.2.1,⟨hk.2.2.2.2.2.1,hk.2.2.2.2.2.2⟩⟩⟩⟩⟩,hk.2.1⟩)) hg hat);replace HO_18:=A_ (Kd.N_afterv (ok:=(fun k_=>(w.heap.size≤k_)∧some k_≠(.slice (some ad583) t580.length co15:Value).ownBlock∧some k_≠(.slice Ao24 t584.length co24:Value).ownBlock∧some k_≠(.slice Ao26 t587.length co26:Value).ownBlock∧k_≠gb591)) (by (with_reducible repeat (first | apply Kd.N_alloc | apply Kd.N_drewN | apply Kd.N_drew));exact Kd.N_mono HO_18.out (fun _ hk=>⟨⟨hk.1,⟨hk.2.2.1,⟨hk.2.2.2.1,⟨hk.2.2.2.2.1,hk.2.2.2.2.2⟩⟩⟩⟩,hk.2.1⟩)) hg hat);replace HO_25:=A_ (Kd.N_afterv (ok:=(fun k_=>(w.heap.size≤k_)∧some k_≠(.slice (some ad579) t573.length co9:Value).ownBlock∧some k_≠(.slice Ao24 t584.length co24:Value).ownBlock∧some k_≠(.slice Ao26 t587.length co26:Value).ownBlock∧k_≠gb591)) (by (with_reducible repeat (first | apply Kd.N_alloc | apply Kd.N_drewN | apply Kd.N_drew));exact Kd.N_mono HO_25.out (fun _ hk=>⟨⟨hk.1,⟨hk.2.2.1,⟨hk.2.2.2.1,⟨hk.2.2.2.2.1,hk.2.2.2.2.2⟩⟩⟩⟩,hk.2.1⟩)) hg hat);replace HL583_0:=A_ (Kd.V_afterv (ok:=(fun k_=>(w.heap.size≤k_)∧some k_≠(.slice (some ad579) t573.length co9:Value).ownBlock∧some k_≠(.slice (some ad583) t580.length co15:Value).ownBlock∧some k_≠(.slice Ao24 t584.length co24:Value).ownBlock∧some k_≠(.slice Ao26 t587.length co26:Value).ownBlock∧k_≠gb591)) (by (with_reducible repeat (first | apply Kd.V_alloc | apply Kd.V_drewN | apply Kd.V_drew));exact Kd.V_mono HL583_0.out (fun _ hk=>⟨⟨hk.1,⟨hk.2.2.1,⟨hk.2.2.2.1,⟨hk.2.2.2.2.1,⟨hk.2.2.2.2.2.1,hk.2.2.2.2.2.2⟩⟩⟩⟩⟩,hk.2.1⟩)) hg hat);replace BK591:=A_ (blk_grown (kk_ BK591) hg (Kd.S_away HO_3.out (fun _ hk=>hk.2.2.2.2.2)));replace HB:=A_ hb;have HO594:=A_ ho;clear HO_3 HO586 HO589;clear ho hb hg hat))
           go_roundg k3
           case measure=>have:=HJ1.out;have:=HK2.out;have:=HK3.out;omega
           case rel=>exact ⟨(y592),(wrap64 (x27_3 + 1)),qc_,H',⟨by have:=HJ1.out;have:=HK2.out;have:=HK3.out;omega⟩,⟨(sw_ (Kd.S_mono HO594.out (fun _ hk=>⟨hk.1,⟨hk.2.1,hk.2.2.1⟩⟩)))⟩,⟨by (with_reducible repeat (first | apply Kd.V_alloc | apply Kd.V_drewN | apply Kd.V_drew));exact Kd.V_mono HO_5.out (fun _ hk=>⟨hk.1.1,⟨hk.2,⟨hk.1.2.1,hk.1.2.2.1⟩⟩⟩)⟩,⟨by (with_reducible repeat (first | apply Kd.N_alloc | apply Kd.N_drewN | apply Kd.N_drew));exact Kd.N_mono HO_18.out (fun _ hk=>⟨hk.1.1,⟨hk.2,hk.1.2.1⟩⟩)⟩,⟨by (with_reducible repeat (first | apply Kd.N_alloc | apply Kd.N_drewN | apply Kd.N_drew));exact Kd.N_mono HO_25.out (fun _ hk=>⟨hk.1.1,⟨hk.2,hk.1.2.1⟩⟩)⟩,⟨hB_⟩⟩
          ·replace c20:=Bool.eq_false_iff.mpr c20
           subst c20
           have H1:(Z10.l1 k3 a0 x3_3 (rd_L1 t573 x20_2) t573 (t573.length:Int) x20_2 t580 (t580.length:Int) (wrap64 (x27_3 + 1))) = some r:=by rw [if_neg (show ¬ (false = true) by decide)] at H;exact H
           clear H
           have H:=H1
           clear H1
           have H':=A_ H
           clear H
           have p583:0≤(x27_3:Int):=oB_ qe_
           have q583:x27_3 < (t580.length:Int):=oB_ qe_
           obtain ⟨ad583,A583_0,c583_0,e583,hx583_0,hl583_0,hi583_0⟩:=at_L1 (Kd.N_reads' HO_25.out).2.2 x27_3 p583 q583
           cases e583
           obtain ⟨ce583,hce583,hMe583,hcc583⟩:=Kd.N_get HO_25.out [] x27_3 p583 (by first | exact q583 | exact oB_ qe_ | (have e_:=(Kd.N_reads' HO_25.out).1;omega))
           obtain ⟨ua583_0,uc583_0,rfl,ul583_0,ge583_0⟩:=Kd.FK_slice_open hMe583
           have hv583_0:=hcc583 0 _ rfl
           rw [Nat.add_zero,show ((Kd.slice 3 (Kd.int .i64))).sz = 1 from rfl,Nat.mul_one] at hv583_0
           replace hv583_0:=Option.some.inj (hv583_0.symm.trans hx583_0)
           injection hv583_0 with hva_ hvn_ hvc_
           rw [hva_] at ge583_0
           rw [hvc_] at ul583_0
           have HL583_0:=A_ (show Kd.V (Kd.int .i64) 3 _ w.heap.size _ _ (rd_L1 t580 x27_3) from Kd.V_mk ul583_0 ge583_0)
           clear hva_ hvn_ hvc_ ge583_0 ul583_0
           clear hcc583 hce583
           have HR583_0:=A_ hi583_0
           have HC583_0:=A_ hl583_0
           clear hi583_0 hl583_0
           replace p583:=eq_true p583
           replace q583:=eq_true q583
           go_wp2_with (first | ((with_reducible refine gA_ (f:=38) rfl ?_);refine gL_ (some 35) Tryz.func38 #[.agg #[.slice A579_0 (rd_L1 t573 x20_2).length c579_0,.slice A583_0 (rd_L1 t580 x27_3).length c583_0]] rfl qa_ ?_;(with_reducible refine (Z55.calls k3 _ _ (rd_L1 t573 x20_2) _ _ (rd_L1 t580 x27_3) t584 t587 false _ ?side1 ?side2 ?side3 ?side4 A19.out).mono ?_);(case side1=>exact cw_ ((Kd.V_reads' HO_5.out).2.2));(case side2=>exact (Kd.V_reads' HO_5.out).2.1);(case side3=>repeat (first | exact (by repeat (first | (with_reducible exact HR583_0.out) | (with_reducible refine cA_ ?_ _) | (with_reducible refine cB_ ?_ _) | (with_reducible refine cC_ ?_) | exact HR583_0.out)) | (with_reducible first | refine cA_ ?_ _ | refine cB_ ?_ _ | refine cC_ ?_)));(case side4=>exact HC583_0.out);rintro e w30 ⟨v585,v588,rfl,ho0,ho1,hb⟩;refine ⟨_,rfl,?_⟩;replace HO_3:=A_ (Kd.S_mono (Kd.S_told (Kd.S_told (Kd.S_old (ss_ HO_3) hb) (Kd.R_base ho0)) (Kd.R_base ho1)) (fun _ h_=>h_.1));replace HO_5:=A_ (Kd.V_mono (Kd.V_told (Kd.V_told (Kd.V_old (by (with_reducible repeat (first | apply Kd.V_alloc | apply Kd.V_drewN | apply Kd.V_drew));exact HO_5.out) hb) (Kd.R_base ho0)) (Kd.R_base ho1)) (fun _ h_=>h_.1));replace HO_18:=A_ (Kd.N_mono (Kd.N_told (Kd.N_told (Kd.N_old (by (with_reducible repeat (first | apply Kd.N_alloc | apply Kd.N_drewN | apply Kd.N_drew));exact HO_18.out) hb) (Kd.R_base ho0)) (Kd.R_base ho1)) (fun _ h_=>h_.1));replace HO_25:=A_ (Kd.N_mono (Kd.N_told (Kd.N_told (Kd.N_old (by (with_reducible repeat (first | apply Kd.N_alloc | apply Kd.N_drewN | apply Kd.N_drew));exact HO_25.out) hb) (Kd.R_base ho0)) (Kd.R_base ho1)) (fun _ h_=>h_.1));replace HL583_0:=A_ (Kd.V_mono (Kd.V_told (Kd.V_told (Kd.V_old (by (with_reducible repeat (first | apply Kd.V_alloc | apply Kd.V_drewN | apply Kd.V_drew));exact HL583_0.out) hb) (Kd.R_base ho0)) (Kd.R_base ho1)) (fun _ h_=>h_.1));have HO586:=A_ (rE_ (Kd.R_newM (M:=fun k_=>(w.heap.size≤k_)) ho0 (bF_ hB_) (fun k_ h_=>h_)) (bF_ hB_));have HO589:=A_ (rE_ (Kd.R_newM (M:=fun k_=>(w.heap.size≤k_)) ho1 (bF_ hB_) (fun k_ h_=>h_)) (bF_ hB_));replace HR583_0:=A_ (cD_ (by repeat (first | (with_reducible exact HR583_0.out) | (with_reducible refine cA_ ?_ _) | (with_reducible refine cB_ ?_ _) | (with_reducible refine cC_ ?_) | exact HR583_0.out)) hb);replace HB:=b1_ hb;clear hb ho0 ho1) | ((with_reducible refine gB_ (N:=8) rfl ?_);refine bx_ 8 #[.slice none 0 0,.slice none 0 0] 38 ?_;intro gb591 hg w31 hbox hb;replace HO_3:=A_ (Kd.S_below (Kd.S_elderB (ss_ HO_3) gb591 (Nat.le_of_eq hg.symm)) hb);replace HO_5:=A_ (Kd.V_below (Kd.V_elderB (by (with_reducible repeat (first | apply Kd.V_alloc | apply Kd.V_drewN | apply Kd.V_drew));exact HO_5.out) gb591 (Nat.le_of_eq hg.symm)) hb);replace HO_18:=A_ (Kd.N_below (Kd.N_elderB (by (with_reducible repeat (first | apply Kd.N_alloc | apply Kd.N_drewN | apply Kd.N_drew));exact HO_18.out) gb591 (Nat.le_of_eq hg.symm)) hb);replace HO_25:=A_ (Kd.N_below (Kd.N_elderB (by (with_reducible repeat (first | apply Kd.N_alloc | apply Kd.N_drewN | apply Kd.N_drew));exact HO_25.out) gb591 (Nat.le_of_eq hg.symm)) hb);replace HL583_0:=A_ (Kd.V_below (Kd.V_elderB (by (with_reducible repeat (first | apply Kd.V_alloc | apply Kd.V_drewN | apply Kd.V_drew));exact HL583_0.out) gb591 (Nat.le_of_eq hg.symm)) hb);replace HO586:=rb_ HO586 hb;replace HO589:=rb_ HO589 hb;replace HR583_0:=A_ (cD_ (by repeat (first | (with_reducible exact HR583_0.out) | (with_reducible refine cA_ ?_ _) | (with_reducible refine cB_ ?_ _) | (with_reducible refine cC_ ?_) | exact HR583_0.out)) hb);have BK591:=A_ hbox;have GW591:=gw_ w hg;have GE591:=GW591;replace HB:=b1_ hb;clear hb hbox hg;obtain ⟨Ao32,co32,eo32⟩:=Kd.R_slice HO586.out;subst eo32;obtain ⟨hcz33_0,hcz33_1,hfz33_0,hfz33_1⟩:=c2_ BK591;obtain ⟨Ao34,co34,eo34⟩:=Kd.R_slice HO589.out;subst eo34))
           go_roundg k3
           case measure=>have:=HJ1.out;have:=HK2.out;have:=HK3.out;omega
           case rel=>exact ⟨(x3_3),(wrap64 (x27_3 + 1)),qc_,H',⟨by have:=HJ1.out;have:=HK2.out;have:=HK3.out;omega⟩,⟨(sw_ (Kd.S_mono (Kd.S_far (p:=⟨gb591,1,none⟩) (Kd.S_far (p:=⟨gb591,0,none⟩) (Kd.S_mono HO_3.out (fun k_ hk=>(⟨hk,hk.2⟩:_∧k_≠gb591))) (fun _ hk=>hk.2) (.slice Ao32 t584.length co32)) (fun _ hk=>hk.2) (.slice Ao34 t587.length co34)) (fun _ hk=>⟨hk.1.1.1.1.1,⟨hk.1.1.1.1.2.1,hk.1.1.1.1.2.2⟩⟩)))⟩,⟨by (with_reducible repeat (first | apply Kd.V_alloc | apply Kd.V_drewN | apply Kd.V_drew));exact Kd.V_mono (Kd.V_far (p:=⟨gb591,1,none⟩) (Kd.V_far (p:=⟨gb591,0,none⟩) (Kd.V_mono HO_5.out (fun k_ hk=>(⟨hk,hk.2⟩:_∧k_≠gb591))) (fun _ hk=>hk.2) (.slice Ao32 t584.length co32)) (fun _ hk=>hk.2) (.slice Ao34 t587.length co34)) (fun _ hk=>⟨hk.1.1.1.1.1,⟨hk.1.1.1.1.2.1,⟨hk.1.1.1.1.2.2.1,hk.1.1.1.1.2.2.2⟩⟩⟩)⟩,⟨by (with_reducible repeat (first | apply Kd.N_alloc | apply Kd.N_drewN | apply Kd.N_drew));exact Kd.N_mono (Kd.N_far (p:=⟨gb591,1,none⟩) (Kd.N_far (p:=⟨gb591,0,none⟩) (Kd.N_mono HO_18.out (fun k_ hk=>(⟨hk,hk.2⟩:_∧k_≠gb591))) (fun _ hk=>hk.2) (.slice Ao32 t584.length co32)) (fun _ hk=>hk.2) (.slice Ao34 t587.length co34)) (fun _ hk=>⟨hk.1.1.1.1.1,⟨hk.1.1.1.1.2.1,hk.1.1.1.1.2.2⟩⟩)⟩,⟨by (with_reducible repeat (first | apply Kd.N_alloc | apply Kd.N_drewN | apply Kd.N_drew));exact Kd.N_mono (Kd.N_far (p:=⟨gb591,1,none⟩) (Kd.N_far (p:=⟨gb591,0,none⟩) (Kd.N_mono HO_25.out (fun k_ hk=>(⟨hk,hk.2⟩:_∧k_≠gb591))) (fun _ hk=>hk.2) (.slice Ao32 t584.length co32)) (fun _ hk=>hk.2) (.slice Ao34 t587.length co34)) (fun _ hk=>⟨hk.1.1.1.1.1,⟨hk.1.1.1.1.2.1,hk.1.1.1.1.2.2⟩⟩)⟩,⟨hB_⟩⟩
         ·rw [if_neg c16] at H
          have c16b0:=oD_ c16
          clear c16
          have H':=A_ H
          clear H
          go_wp2
          go_roundg k3
          case measure=>have:=HJ1.out;have:=HK2.out;have:=HK3.out;omega
          case rel=>exact ⟨(x3_3),(wrap64 (x20_2 + 1)),qc_,H',⟨by have:=HJ1.out;have:=HK2.out;have:=HK3.out;omega⟩,⟨(sw_ (Kd.S_mono HO_3.out (fun _ hk=>⟨hk.1,hk.2.1⟩)))⟩,⟨by (with_reducible repeat (first | apply Kd.N_alloc | apply Kd.N_drewN | apply Kd.N_drew));exact Kd.N_mono HO_18.out (fun _ hk=>⟨hk.1,hk.2.1⟩)⟩,⟨hB_⟩⟩
      ·rw [if_neg c10] at H
       have c10b0:=oD_ c10
       clear c10
       obtain ⟨t576,A35,H⟩:=bi_ H
       obtain rfl:=Option.some.inj H
       obtain ⟨Ao36,co36,eo36⟩:=Kd.S_slice HO_3.out
       subst eo36
       have HZ:=A_ (Z11.callsS _ _ _ _ w _ HB.out HO_3.out A35.out)
       go_wp2_with (first | ((with_reducible refine gA_ (f:=39) rfl ?_);refine gL_ (some 46) Tryz.func39 #[.slice Ao36 x3_2.length co36] rfl qa_ ?_;(with_reducible refine HZ.out.mono ?_);rintro e wZ ⟨vZ,rfl,hoZ,hbZ,hkZ⟩;refine ⟨_,rfl,?_⟩;have HO578:=A_ hoZ;replace HB:=A_ hbZ;clear hoZ hbZ hkZ))
       go_ret
       exact ⟨_,qb_,(sw_ (Kd.S_mono HO578.out (fun _ _=>trivial))),hB_⟩
end Go.Proofs.YtoijcallajegfaaGreat.A
end
section
namespace Go.Proofs.YtoijcallajegfaaGreat.A
open Go.RowKit Go.Proofs.YtoijcallajegfaaGreatW.PrintWords Go.Proofs.YtoijcallajegfaaGreatW.PrintLast Go.Proofs.YtoijcallajegfaaGreatW.PrintMore
attribute [local go_sem] max2_int min2_int max_two min_two max_three min_three max_four min_four
set_option linter.unusedVariables false
set_option linter.unusedSimpArgs false
mutual
def Z41.l0:Nat→List Int→List Bool→List (List Int)→Int→Int→Option ((List (List Int)))
 | 0,_,_,_,_,_=>none
 | k + 1,x0,x3,x4,x16,x17=>if x17 < x16 then (if 0≤x17 then (if x17 < (x3.length:Int) then (if rdOf false x3 x17 = true then (Z41.l0 k x0 x3 x4 x16 (wrap64 (x17 + 1))) else (Z41.l1 k x0 x3 x4 (([]:List Int)) x17 x16 x17)) else (none)) else (none)) else (some x4)
def Z41.l1:Nat→List Int→List Bool→List (List Int)→List Int→Int→Int→Int→Option ((List (List Int)))
 | 0,_,_,_,_,_,_,_=>none
 | k + 1,x0,x3,x4,x6,x7,x16,x17=>if 0≤x7 then (if x7 < (x3.length:Int) then (if rdOf false x3 x7 = true then (if x4.length < 5864062014805 then (Z41.l0 k x0 x3 (x4 ++ [x6]) x16 (wrap64 (x17 + 1))) else (none)) else (if x6.length < 17592186044416 then (if x7 < (x0.length:Int) then (Z41.l1 k x0 (x3.set (x7:Int).toNat true) x4 (x6 ++ [x7]) (rd x0 x7) x16 x17) else (none)) else (none))) else (none)) else (none)
end
def Z41.f (k:Nat) (l0:List Int):Option ((List (List Int))):=(Z61.f k l0).bind fun t595=>(if t595 = true then (if 0≤(l0.length:Int) then (if ((l0.length:Int):Int).toNat≤281474976710656 then (Z41.l0 k l0 (List.replicate ((l0.length:Int):Int).toNat false) (([]:List (List Int))) (l0.length:Int) 0) else (none)) else (none)) else (some ([]:List (List Int))))
theorem Z41.mono_l:∀ k,(∀ y0 y1 y2 y3 y4,LeO (Z41.l0 k y0 y1 y2 y3 y4) (Z41.l0 (k + 1) y0 y1 y2 y3 y4))∧(∀ y0 y1 y2 y3 y4 y5 y6,LeO (Z41.l1 k y0 y1 y2 y3 y4 y5 y6) (Z41.l1 (k + 1) y0 y1 y2 y3 y4 y5 y6))
 | 0=>⟨fun _ _ _ _ _ r h=>by simp [Z41.l0] at h,fun _ _ _ _ _ _ _ r h=>by simp [Z41.l1] at h⟩
 | k + 1=>by
  obtain ⟨ih0,ih1⟩:=Z41.mono_l k
  refine ⟨?_,?_⟩
  ·intro y0 y1 y2 y3 y4
   unfold Z41.l0
   repeat' first|exact ih0 _ _ _ _ _|exact ih1 _ _ _ _ _ _ _|exact Z61.mono _ _|exact lo_|refine LeO.ite ?_ ?_|refine LeO.bind ?_ (fun _=>?_)
  ·intro y0 y1 y2 y3 y4 y5 y6
   unfold Z41.l1
   repeat' first|exact ih0 _ _ _ _ _|exact ih1 _ _ _ _ _ _ _|exact Z61.mono _ _|exact lo_|refine LeO.ite ?_ ?_|refine LeO.bind ?_ (fun _=>?_)
theorem Z41.mono:∀ a0 k,LeO (Z41.f k a0) (Z41.f (k + 1) a0):=by
 intro a0 k
 obtain ⟨ih0,ih1⟩:=Z41.mono_l k
 unfold Z41.f
 repeat' first|exact ih0 _ _ _ _ _|exact ih1 _ _ _ _ _ _ _|exact Z61.mono _ _|exact lo_|refine LeO.ite ?_ ?_|refine LeO.bind ?_ (fun _=>?_)
set_option maxHeartbeats 8000000 in
set_option maxRecDepth 100000 in
theorem Z41.calls (k:Nat) (A0:Option Addr) (c0:Nat) (l0:List Int) (r:List (List Int)) (w:World) (hr0:Kd.C (Kd.int .i64) w A0 l0.length l0) (hc0:l0.length≤c0) (h:Z41.f k l0 = some r) :
  Calls Tryz.prog 89 #[.slice A0 l0.length c0] w fun e w'=>∃ v0_:Value,e = .returned (v0_)∧Kd.S (Kd.slice 3 (Kd.int .i64)) 27 w' w.heap.size (fun _=>True) v0_ r∧Below w.heap.size w w':=by
 have HR0:=A_ hr0
 have HC0:=A_ hc0
 clear hr0 hc0
 have HB:=A_ (Below.refl w.heap.size w)
 have H:=h
 unfold Z41.f at H
 clear h
 obtain ⟨t595,A2,H⟩:=bi_ H
 by_cases c3:t595 = true
 ·subst c3
  rw [if_pos rfl] at H
  have c4:=cp_ H
  replace H:=ca_ H
  have c4b0:=eq_true c4
  have c4b1:=oC_ c4
  clear c4
  have c5:=cp_ H
  replace H:=ca_ H
  have c5b0:=eq_true c5
  have c5b1:=oC_ c5
  clear c5
  obtain ⟨y596,hy596⟩:∃ y_:List Bool,y_ = (List.replicate ((l0.length:Int):Int).toNat false):=⟨_,rfl⟩
  replace H:(Z41.l0 k l0 y596 (([]:List (List Int))) (l0.length:Int) 0) = some r:=by first | (rw [hy596];exact H) | exact H
  have Ny596:=A_ hy596
  clear hy596
  obtain ⟨y599,hy599⟩:∃ y_:List (List Int),y_ = (([]:List (List Int))):=⟨_,rfl⟩
  replace H:(Z41.l0 k l0 y596 y599 (l0.length:Int) 0) = some r:=by first | (rw [hy599];exact H) | exact H
  have Ny599:=A_ hy599
  clear hy599
  have H':=A_ H
  clear H
  go_enter Tryz.func89,Tryz.ntmps89
  go_wp2_with (first | ((with_reducible refine gA_ (f:=98) rfl ?_);refine gL_ (some 9) Tryz.func98 #[.slice A0 l0.length c0] rfl qa_ ?_;(with_reducible refine (Z61.calls k _ _ l0 true _ (cc_ HR0) HC0.out A2.out).mono ?_);rintro e w6 ⟨rfl,hb⟩;refine ⟨_,rfl,?_⟩;replace HB:=b1_ hb;clear hb) | ((with_reducible refine gB_ (N:=13) rfl ?_);refine Kd.R_make Kd.bool _ 4 rfl (N:=13) rfl 92 _ _ rfl (l0.length:Int) rfl rfl Tryz.underlying92 (.bool false) 1 info4 rfl (by decide) (by omega) false (ok:=fun _=>True) (okp:=fun _=>True) rfl (fun _ hk=>hk) trivial (oB_ qe_) (Nat.le_trans (Nat.mul_le_mul_right _ (oB_ qe_:(l0.length:Int).toNat≤281474976710656)) (by omega)) (Below.refl _ _) (nA_ _) ?_;intro v597 w7 ho8 hb hg_ hnew_;clear hg_ hnew_;(first | rw [← Ny596.out] at ho8 | (simp only [Int.reduceToNat] at ho8;rw [← Ny596.out] at ho8));have HO598:=rl_ w ho8;replace HB:=b1_ hb;clear hb ho8) | ((with_reducible refine gB_ (N:=14) rfl ?_);refine Kd.S_lit (Kd.slice 3 (Kd.int .i64)) _ 27 ?hg (N:=14) ?hd (xs:=([]:List (List Int))) (inner:=[]) (ok:=fun _=>True) (okp:=fun _=>True) ?hr ?hp (fun _ hk=>hk) trivial (Below.refl _ _) (nA_ _) (by simp) ?_;(case hd=>rfl);(case hg=>rfl);(case hr=>first | (go_simp;done) | (go_simp;rfl));(case hp=>exact (Reps.none _ _));intro v600 w9 ho10 hb hg_ hnew_;clear hg_ hnew_;(first | rw [← Ny599.out] at ho10 | (simp only [Int.reduceToNat] at ho10;rw [← Ny599.out] at ho10));replace HO598:=rb_ HO598 hb;have HO601:=A_ (Kd.S_lower ho10 (bF_ hB_));replace HB:=b1_ hb;clear hb ho10))
  go_loopg [4,17] k (fun kq v4 v17 w'=>∃ (x3_1:List Bool) (x4_1:List (List Int)) (x17_1:Int),v17 = .int .i64 x17_1∧Aside0 (Z41.l0 kq l0 x3_1 x4_1 (l0.length:Int) x17_1 = some r)∧Aside0 (kq≤k)∧Aside0 (Kd.R Kd.bool 4 w' w.heap.size (fun _=>True) v597 x3_1)∧Aside0 (Kd.S (Kd.slice 3 (Kd.int .i64)) 27 w' w.heap.size (fun _=>True) v4 x4_1)∧Aside0 (Below w.heap.size w w'))
  case atStart=>exact ⟨(y596),(y599),(0),qc_,H',⟨nA_ _⟩,⟨(rr_ HO598)⟩,⟨(ss_ HO601)⟩,⟨hB_⟩⟩
  case round =>
   clear H'
   obtain ⟨x3_1,x4_1,x17_1,rfl,HA,HK1,HO_3,HO_4,HB⟩:=hrel
   cases gk with
   | zero=>exact absurd HA.out (by simp [Z41.l0])
   | succ k1 =>
    have H:=HA.out
    clear HA
    simp only [Z41.l0] at H
    by_cases c11:x17_1 < (l0.length:Int)
    ·rw [if_pos c11] at H
     have c11b0:=oC_ c11
     clear c11
     have c12:=cp_ H
     replace H:=ca_ H
     have c12b0:=oC_ c12
     clear c12
     have c13:=cp_ H
     replace H:=ca_ H
     have c13b0:=oC_ c13
     clear c13
     obtain ⟨bq14,hbq14⟩:∃ b_:Bool,b_ = (rdOf false x3_1 x17_1):=⟨_,rfl⟩
     replace H:(if bq14 = true then (Z41.l0 k1 l0 x3_1 x4_1 (l0.length:Int) (wrap64 (x17_1 + 1))) else (Z41.l1 k1 l0 x3_1 x4_1 (([]:List Int)) x17_1 (l0.length:Int) x17_1)) = some r:=by rw [← hbq14] at H;exact H
     have Nbq14:=A_ hbq14
     clear hbq14
     by_cases c15:bq14 = true
     ·subst c15
      rw [if_pos rfl] at H
      have H':=A_ H
      clear H
      obtain ⟨Ao16,co16,eo16⟩:=Kd.R_slice HO_3.out
      subst eo16
      have p602:0≤(x17_1:Int):=oB_ qe_
      have q602:x17_1 < (x3_1.length:Int):=oB_ qe_
      obtain ⟨ad602,e602,hx602_0⟩:=Kd.at_bool (Kd.R_reads' HO_3.out).2.2 x17_1 p602 q602
      (try rw [← Nbq14.out] at hx602_0)
      cases e602
      replace p602:=eq_true p602
      replace q602:=eq_true q602
      go_wp2
      go_roundg k1
      case measure=>have:=HK1.out;omega
      case rel=>exact ⟨(x3_1),(x4_1),(wrap64 (x17_1 + 1)),qc_,H',⟨by have:=HK1.out;omega⟩,⟨(rr_ HO_3)⟩,⟨(ss_ HO_4)⟩,⟨hB_⟩⟩
     ·replace c15:=Bool.eq_false_iff.mpr c15
      subst c15
      have H1:(Z41.l1 k1 l0 x3_1 x4_1 (([]:List Int)) x17_1 (l0.length:Int) x17_1) = some r:=by rw [if_neg (show ¬ (false = true) by decide)] at H;exact H
      clear H
      have H:=H1
      clear H1
      obtain ⟨y603,hy603⟩:∃ y_:List Int,y_ = (([]:List Int)):=⟨_,rfl⟩
      replace H:(Z41.l1 k1 l0 x3_1 x4_1 y603 x17_1 (l0.length:Int) x17_1) = some r:=by first | (rw [hy603];exact H) | exact H
      have Ny603:=A_ hy603
      clear hy603
      have H':=A_ H
      clear H
      obtain ⟨Ao17,co17,eo17⟩:=Kd.R_slice HO_3.out
      subst eo17
      have p602:0≤(x17_1:Int):=oB_ qe_
      have q602:x17_1 < (x3_1.length:Int):=oB_ qe_
      obtain ⟨ad602,e602,hx602_0⟩:=Kd.at_bool (Kd.R_reads' HO_3.out).2.2 x17_1 p602 q602
      (try rw [← Nbq14.out] at hx602_0)
      cases e602
      obtain ⟨g602,rfl⟩:∃ g_,ad602 = (⟨g_,0,none⟩:Addr):=Kd.R_head HO_3.out
      (try simp only [add_plain] at hx602_0)
      replace p602:=eq_true p602
      replace q602:=eq_true q602
      go_wp2_with (first | ((with_reducible refine gB_ (N:=24) rfl ?_);refine Kd.R_lit (Kd.int .i64) _ 3 ?hg (N:=24) ?hd (xs:=([]:List Int)) (inner:=[]) (ok:=fun _=>True) (okp:=fun _=>True) ?hr ?hp (fun _ hk=>hk) trivial (Below.refl _ _) (nA_ _) (by simp) ?_;(case hd=>rfl);(case hg=>rfl);(case hr=>first | (go_simp;done) | (go_simp;rfl));(case hp=>exact (Reps.none _ _));intro v604 w18 ho19 hb hg_ hnew_;clear hg_ hnew_;(first | rw [← Ny603.out] at ho19 | (simp only [Int.reduceToNat] at ho19;rw [← Ny603.out] at ho19));replace HO_3:=rb_ HO_3 hb;replace HO_4:=A_ (Kd.S_elder' (ss_ HO_4) (Kd.R_base ho19) hb);have HO605:=rl_ w ho19;replace HB:=b1_ hb;clear hb ho19))
      go_loopg [6,7] k1 (fun kq v6 v7 w'=>∃ (x3_2:List Bool) (x6_2:List Int) (x7_2:Int),v7 = .int .i64 x7_2∧Aside0 (Z41.l1 kq l0 x3_2 x4_1 x6_2 x7_2 (l0.length:Int) x17_1 = some r)∧Aside0 (kq≤k1)∧Aside0 (Kd.R Kd.bool 4 w' w.heap.size (fun _=>True) (.slice (some (⟨g602,0,none⟩:Addr)) x3_1.length co17) x3_2)∧Aside0 (Kd.S (Kd.slice 3 (Kd.int .i64)) 27 w' w.heap.size (fun k_=>some k_≠(v6:Value).ownBlock) u4 x4_1)∧Aside0 (Kd.R (Kd.int .i64) 3 w' w.heap.size (fun _=>True) v6 x6_2)∧Aside0 (Below w.heap.size w w'))
      case atStart=>exact ⟨(x3_1),(y603),(x17_1),qc_,H',⟨nA_ _⟩,⟨(rr_ HO_3)⟩,⟨(sw_ (Kd.S_mono HO_4.out (fun _ hk=>hk.2)))⟩,⟨(rr_ HO605)⟩,⟨hB_⟩⟩
      case round =>
       clear H'
       obtain ⟨x3_2,x6_2,x7_2,rfl,HA,HK2,HO_3,HO_4,HO_6,HB⟩:=hrel
       have hl3_2:=(Kd.R_reads' HO_3.out).1
       rw [hl3_2] at HO_3
       (try simp only [hl3_2])
       (try simp only [hl3_2] at HO_4)
       (try simp only [hl3_2] at HO_6)
       cases gk with
       | zero=>exact absurd HA.out (by simp [Z41.l1])
       | succ k2 =>
        have H:=HA.out
        clear HA
        simp only [Z41.l1] at H
        have c20:=cp_ H
        replace H:=ca_ H
        have c20b0:=oC_ c20
        clear c20
        have c21:=cp_ H
        replace H:=ca_ H
        have c21b0:=oC_ c21
        clear c21
        obtain ⟨bq22,hbq22⟩:∃ b_:Bool,b_ = (rdOf false x3_2 x7_2):=⟨_,rfl⟩
        replace H:(if bq22 = true then (if x4_1.length < 5864062014805 then (Z41.l0 k2 l0 x3_2 (x4_1 ++ [x6_2]) (l0.length:Int) (wrap64 (x17_1 + 1))) else (none)) else (if x6_2.length < 17592186044416 then (if x7_2 < (l0.length:Int) then (Z41.l1 k2 l0 (x3_2.set (x7_2:Int).toNat true) x4_1 (x6_2 ++ [x7_2]) (rd l0 x7_2) (l0.length:Int) x17_1) else (none)) else (none))) = some r:=by rw [← hbq22] at H;exact H
        have Nbq22:=A_ hbq22
        clear hbq22
        by_cases c23:bq22 = true
        ·subst c23
         rw [if_pos rfl] at H
         have c24:=cp_ H
         replace H:=ca_ H
         have LMc24:=A_ c24
         clear c24
         obtain ⟨y607,hy607⟩:∃ y_:List (List Int),y_ = (x4_1 ++ [x6_2]):=⟨_,rfl⟩
         replace H:(Z41.l0 k2 l0 x3_2 y607 (l0.length:Int) (wrap64 (x17_1 + 1))) = some r:=by first | (rw [hy607];exact H) | exact H
         have Ny607:=A_ hy607
         clear hy607
         have H':=A_ H
         clear H
         have p606:0≤(x7_2:Int):=oB_ qe_
         have q606:x7_2 < (x3_2.length:Int):=oB_ qe_
         obtain ⟨ad606,e606,hx606_0⟩:=Kd.at_bool (Kd.R_reads' HO_3.out).2.2 x7_2 p606 q606
         (try rw [← Nbq14.out] at hx606_0)
         (try rw [← Nbq22.out] at hx606_0)
         obtain rfl:(⟨g602,0,none⟩:Addr) = ad606:=(by injection e606)
         (try simp only [add_plain] at hx606_0)
         replace p606:=eq_true p606
         replace q606:=eq_true q606
         obtain ⟨Ao26,co26,eo26⟩:=Kd.R_slice HO_6.out
         subst eo26
         go_wp2_with (first | ((with_reducible refine gate_builtin (b:=.append) (xs:=#[.tmp 42,.tmp 44]) rfl ?_);at_builtin;refine Kd.S_append (Kd.slice 3 (Kd.int .i64)) (w0:=w) w.heap.size rfl (.tmp 42) (.tmp 44) 22 27 (.slice none 0 0) 24 rfl Tryz.underlying22 info27 rfl (by decide) (by omega) u4 x4_1 x6_2 [.slice Ao26 x6_2.length co26] (fun _=>True) (fun k_=>some k_ = (.slice Ao26 x6_2.length co26:Value).ownBlock) rfl rfl ?aP (fun k_ hk_=>((Kd.R_mono (ok':=fun k_=>((fun _=>True)) k_∧some k_≠(u4:Value).ownBlock) (Kd.R_apart' (HO_6.out) (Kd.S_typed HO_4.out) (by decide)) (fun k_ hk=>⟨trivial,hk.2⟩))).1 k_ hk_.symm) ?aF ?aO ?aB ?aS ?aL ?_;(case aP=>exact Kd.M_row (Kd.R_mono (Kd.R_tight rfl (Kd.R_mono (ok':=fun k_=>((fun _=>True)) k_∧some k_≠(u4:Value).ownBlock) (Kd.R_apart' (HO_6.out) (Kd.S_typed HO_4.out) (by decide)) (fun k_ hk=>⟨trivial,hk.2⟩))) (fun _ h_=>h_)));(case aB=>exact hB_);(case aF=>exact (fun _ _=>trivial));(case aO=>exact (sw_ (Kd.S_mono HO_4.out (fun k_ hk=>⟨trivial,fun e_=>hk e_⟩))));(case aS=>exact (bF_ hB_));(case aL=>have:=LMc24.out;omega);intro v608 w25 ho hb hg hat;rw [← Ny607.out] at ho;replace HO_3:=A_ (Kd.R_over' (rr_ HO_3) (Kd.S_typed (ss_ HO_4)) (by decide) hg);replace HB:=A_ hb;have HO609:=A_ ho;clear HO_4 HO_6;clear ho hb hg hat))
         (try simp only [← hl3_2])
         go_roundg k2
         case measure=>have:=HK1.out;have:=HK2.out;omega
         case rel=>exact ⟨(x3_2),(y607),(wrap64 (x17_1 + 1)),qc_,H',⟨by have:=HK1.out;have:=HK2.out;omega⟩,⟨by (try simp only [hl3_2]);(with_reducible repeat (first | apply rA_ | apply rB_ | apply rC_));exact HO_3.out⟩,⟨by (try simp only [hl3_2]);(with_reducible repeat (first | apply Kd.S_alloc | apply Kd.S_drewN | apply Kd.S_drew));exact HO609.out⟩,⟨hB_⟩⟩
        ·replace c23:=Bool.eq_false_iff.mpr c23
         subst c23
         have H1:(if x6_2.length < 17592186044416 then (if x7_2 < (l0.length:Int) then (Z41.l1 k2 l0 (x3_2.set (x7_2:Int).toNat true) x4_1 (x6_2 ++ [x7_2]) (rd l0 x7_2) (l0.length:Int) x17_1) else (none)) else (none)) = some r:=by rw [if_neg (show ¬ (false = true) by decide)] at H;exact H
         clear H
         have H:=H1
         clear H1
         obtain ⟨y610,hy610⟩:∃ y_:List Bool,y_ = (x3_2.set (x7_2:Int).toNat true):=⟨_,rfl⟩
         replace H:(if x6_2.length < 17592186044416 then (if x7_2 < (l0.length:Int) then (Z41.l1 k2 l0 y610 x4_1 (x6_2 ++ [x7_2]) (rd l0 x7_2) (l0.length:Int) x17_1) else (none)) else (none)) = some r:=by first | (rw [hy610];exact H) | exact H
         have Ny610:=A_ hy610
         clear hy610
         have c28:=cp_ H
         replace H:=ca_ H
         have LMc28:=A_ c28
         clear c28
         obtain ⟨y611,hy611⟩:∃ y_:List Int,y_ = (x6_2 ++ [x7_2]):=⟨_,rfl⟩
         replace H:(if x7_2 < (l0.length:Int) then (Z41.l1 k2 l0 y610 x4_1 y611 (rd l0 x7_2) (l0.length:Int) x17_1) else (none)) = some r:=by first | (rw [hy611];exact H) | exact H
         have Ny611:=A_ hy611
         clear hy611
         have c29:=cp_ H
         replace H:=ca_ H
         have c29b0:=oC_ c29
         clear c29
         have H':=A_ H
         clear H
         have p606:0≤(x7_2:Int):=oB_ qe_
         have q606:x7_2 < (x3_2.length:Int):=oB_ qe_
         obtain ⟨ad606,e606,hx606_0⟩:=Kd.at_bool (Kd.R_reads' HO_3.out).2.2 x7_2 p606 q606
         (try rw [← Nbq14.out] at hx606_0)
         (try rw [← Nbq22.out] at hx606_0)
         obtain rfl:(⟨g602,0,none⟩:Addr) = ad606:=(by injection e606)
         (try simp only [add_plain] at hx606_0)
         replace p606:=eq_true p606
         replace q606:=eq_true q606
         have p27:0≤(x7_2:Int):=oB_ qe_
         have q27:(x7_2:Int) < ((x3_2.length:Int):Int):=oB_ qe_
         obtain ⟨go27,co27,eo27,gb27,gl27,cl27,HG27⟩:=Kd.R_form HO_3.out (by omega)
         (first | cases eo27 | (injection eo27 with ea_ en_ ec_;(first | subst ea_ | (injection ea_ with ea_;subst ea_));subst ec_;clear en_))
         have GB27:=A_ gb27
         have GG27:=A_ HG27
         clear gb27 gl27 HG27
         (first | simp only [add_plain] at hx602_0 | skip)
         (first | simp only [add_plain] at hx606_0 | skip)
         obtain ⟨hx27_0,hf27_0⟩:=Kd.R_celln false HO_3.out (x7_2:Int) p27 q27
         replace p27:=eq_true p27
         replace q27:=eq_true q27
         have HP30:=Kd.R_putg HO_3.out (x7_2:Int) true
         go_wp2_with (first | ((with_reducible refine gate_store (t:=4) (p:=37) rfl ?_);refine store_event (t:=4) (p:=37) (v:=?vo_w31) (w1:=(wr.setCell ⟨g602,(x7_2:Int).toNat,none⟩ (.bool true))) ?hg ?ho ?hn ?hr ?_;(case ho=>rfl);(case hg=>rfl);(case hn=>rfl);(case hr=>first | (go_simp;done) | (go_simp;rfl));intro w31 hw;have hg:wr.grownBy w31 (some g602):=(by rw [hw];exact HP30.2);have hp_:Kd.R Kd.bool 4 w31 w.heap.size (fun _=>True) (.slice (some ⟨g602,0,none⟩) x3_2.length co17) y610:=(by rw [hw,Ny610.out];exact HP30.1);clear HP30;replace HO_4:=A_ (Kd.S_over' (v:=(.slice (some ⟨g602,0,none⟩) x3_2.length co17)) (ss_ HO_4) (Kd.R_typed HO_3.out) (by decide) hg);replace HO_6:=A_ (Kd.R_over' (v:=(.slice (some ⟨g602,0,none⟩) x3_2.length co17)) (rr_ HO_6) (Kd.R_typed HO_3.out) (by decide) hg);replace HO_3:=A_ (hp_);replace HB:=A_ ((by rw [hw];exact bD_ (HB.out) GB27.out:Below w.heap.size w w31));clear hg hw hp_) | ((with_reducible refine gate_builtin (b:=.append) (xs:=#[.tmp 38,.tmp 40]) rfl ?_);at_builtin;refine Kd.R_append (Kd.int .i64) (w0:=w) w.heap.size rfl (.tmp 38) (.tmp 40) 27 3 (.int .i64 0) 8 rfl Tryz.underlying27 info3 rfl (by decide) (by omega) u6 x6_2 x7_2 [.int .i64 x7_2] (fun _=>True) (fun _=>False) rfl rfl ?aP (fun _ hk=>hk.elim) ?aF ?aO ?aB ?aS ?aL ?_;(case aP=>exact rfl);(case aB=>exact hB_);(case aF=>exact (fun _ _=>trivial));(case aO=>exact (rr_ HO_6));(case aS=>exact (bF_ hB_));(case aL=>have:=LMc28.out;omega);intro v612 w32 ho hb hg hat;rw [← Ny611.out] at ho;replace HO_3:=A_ (Kd.R_over' (rr_ HO_3) (Kd.R_typed (rr_ HO_6)) (by decide) hg);replace HO_4:=A_ (Kd.S_after (ok:=(fun _=>True)) (sw_ (Kd.S_mono HO_4.out (fun _ hk=>⟨trivial,hk⟩))) hg hat);replace HB:=A_ hb;have HO613:=A_ ho;clear HO_6;clear ho hb hg hat;have p614:0≤(x7_2:Int):=oB_ qe_;have q614:x7_2 < (l0.length:Int):=oB_ qe_;obtain ⟨ad614,e614,hx614_0⟩:=Kd.at_int HR0.out x7_2 p614 q614;cases e614;replace hx614_0:=(HB.out.cell (World.block_lt_of_cell? w _ hx614_0)).trans hx614_0;replace p614:=eq_true p614;replace q614:=eq_true q614))
         (try simp only [← hl3_2])
         go_roundg k2
         case measure=>have:=HK1.out;have:=HK2.out;omega
         case rel=>exact ⟨(y610),(y611),(rd l0 x7_2),qc_,H',⟨by have:=HK1.out;have:=HK2.out;omega⟩,⟨by (try simp only [hl3_2]);(with_reducible repeat (first | apply rA_ | apply rB_ | apply rC_));exact HO_3.out⟩,⟨by (try simp only [hl3_2]);(with_reducible repeat (first | apply Kd.S_alloc | apply Kd.S_drewN | apply Kd.S_drew));exact Kd.S_mono HO_4.out (fun _ hk=>hk.2)⟩,⟨by (try simp only [hl3_2]);(with_reducible repeat (first | apply rA_ | apply rB_ | apply rC_));exact HO613.out⟩,⟨hB_⟩⟩
    ·rw [if_neg c11] at H
     have c11b0:=oD_ c11
     clear c11
     obtain rfl:=Option.some.inj H
     go_wp2
     go_ret
     exact ⟨_,qb_,(ss_ HO_4),hB_⟩
 ·replace c3:=Bool.eq_false_iff.mpr c3
  subst c3
  have H1:(some ([]:List (List Int))) = some r:=by rw [if_neg (show ¬ (false = true) by decide)] at H;exact H
  clear H
  have H:=H1
  clear H1
  obtain rfl:=Option.some.inj H
  go_enter Tryz.func89,Tryz.ntmps89
  go_wp2_with (first | ((with_reducible refine gA_ (f:=98) rfl ?_);refine gL_ (some 9) Tryz.func98 #[.slice A0 l0.length c0] rfl qa_ ?_;(with_reducible refine (Z61.calls k _ _ l0 false _ (cc_ HR0) HC0.out A2.out).mono ?_);rintro e w33 ⟨rfl,hb⟩;refine ⟨_,rfl,?_⟩;replace HB:=b1_ hb;clear hb))
  go_ret
  exact ⟨_,qb_,by first | exact Kd.S_nil _ _ _ _ _ | exact Kd.N_nil _ _ _ _ _ | exact Kd.V_nil _ _ _ _ _ | exact Kd.Q_nil _ _ _ _ _ | exact Kd.R_nil _ _ _ _ _,hB_⟩
end Go.Proofs.YtoijcallajegfaaGreat.A
end
section
namespace Go.Proofs.YtoijcallajegfaaGreat.A
open Go.RowKit Go.Proofs.YtoijcallajegfaaGreatW.PrintWords Go.Proofs.YtoijcallajegfaaGreatW.PrintLast Go.Proofs.YtoijcallajegfaaGreatW.PrintMore
attribute [local go_sem] max2_int min2_int max_two min_two max_three min_three max_four min_four
set_option linter.unusedVariables false
set_option linter.unusedSimpArgs false
mutual
def Z43.j0:Nat→List Int→List Int→Bool→Option (List Int)
 | 0,_,_,_=>none
 | k + 1,x0,x1,x22=>if x22 = true then (some ([]:List Int)) else (if 0≤(x0.length:Int) then (if ((x0.length:Int):Int).toNat≤35184372088832 then (Z43.l0 k x1 (List.replicate ((x0.length:Int):Int).toNat 0) x0 (x0.length:Int) 0) else (none)) else (none))
def Z43.l0:Nat→List Int→List Int→List Int→Int→Int→Option (List Int)
 | 0,_,_,_,_,_=>none
 | k + 1,x1,x5,x26,x27,x28=>if x28 < x27 then (if 0≤x28 then (if x28 < (x26.length:Int) then (if 0≤(rd x26 x28) then (if (rd x26 x28) < (x1.length:Int) then (if x28 < (x5.length:Int) then (Z43.l0 k x1 (x5.set (x28:Int).toNat (rd x1 (rd x26 x28))) x26 x27 (wrap64 (x28 + 1))) else (none)) else (none)) else (none)) else (none)) else (none)) else (some x5)
end
def Z43.f (k:Nat) (l0:List Int) (l1:List Int):Option (List Int):=(Z61.f k l0).bind fun t615=>(if t615 = true then ((Z61.f k l1).bind fun t616=>(if t616 = true then (Z43.j0 k l0 l1 ((l0.length:Int) != (l1.length:Int))) else (Z43.j0 k l0 l1 true))) else (Z43.j0 k l0 l1 true))
theorem Z43.mono_l:∀ k,(∀ y0 y1 y2,LeO (Z43.j0 k y0 y1 y2) (Z43.j0 (k + 1) y0 y1 y2))∧(∀ y0 y1 y2 y3 y4,LeO (Z43.l0 k y0 y1 y2 y3 y4) (Z43.l0 (k + 1) y0 y1 y2 y3 y4))
 | 0=>⟨fun _ _ _ r h=>by simp [Z43.j0] at h,fun _ _ _ _ _ r h=>by simp [Z43.l0] at h⟩
 | k + 1=>by
  obtain ⟨ih0,ih1⟩:=Z43.mono_l k
  refine ⟨?_,?_⟩
  ·intro y0 y1 y2
   unfold Z43.j0
   repeat' first|exact ih0 _ _ _|exact ih1 _ _ _ _ _|exact Z61.mono _ _|exact lo_|refine LeO.ite ?_ ?_|refine LeO.bind ?_ (fun _=>?_)
  ·intro y0 y1 y2 y3 y4
   unfold Z43.l0
   repeat' first|exact ih0 _ _ _|exact ih1 _ _ _ _ _|exact Z61.mono _ _|exact lo_|refine LeO.ite ?_ ?_|refine LeO.bind ?_ (fun _=>?_)
theorem Z43.mono:∀ a0 a1 k,LeO (Z43.f k a0 a1) (Z43.f (k + 1) a0 a1):=by
 intro a0 a1 k
 obtain ⟨ih0,ih1⟩:=Z43.mono_l k
 unfold Z43.f
 repeat' first|exact ih0 _ _ _|exact ih1 _ _ _ _ _|exact Z61.mono _ _|exact lo_|refine LeO.ite ?_ ?_|refine LeO.bind ?_ (fun _=>?_)
set_option maxHeartbeats 8000000 in
set_option maxRecDepth 100000 in
theorem Z43.calls (k:Nat) (A0:Option Addr) (c0:Nat) (l0:List Int) (A1:Option Addr) (c1:Nat) (l1:List Int) (r:List Int) (w:World) (hr0:Kd.C (Kd.int .i64) w A0 l0.length l0) (hc0:l0.length≤c0) (hr1:Kd.C (Kd.int .i64) w A1 l1.length l1) (hc1:l1.length≤c1) (h:Z43.f k l0 l1 = some r) :
  Calls Tryz.prog 109 #[.slice A0 l0.length c0,.slice A1 l1.length c1] w fun e w'=>∃ v0_:Value,e = .returned (v0_)∧Kd.R (Kd.int .i64) 3 w' w.heap.size (fun _=>True) v0_ r∧Below w.heap.size w w':=by
 have HR0:=A_ hr0
 have HC0:=A_ hc0
 clear hr0 hc0
 have HR1:=A_ hr1
 have HC1:=A_ hc1
 clear hr1 hc1
 have HB:=A_ (Below.refl w.heap.size w)
 have H:=h
 unfold Z43.f at H
 clear h
 have HC3:=A_ H
 clear H
 go_enter Tryz.func109,Tryz.ntmps109
 go_upto_region 1 with (fail)
 go_cut [22] (fun v22 wc=>∃ (kq:Nat) (x22_2:Bool),v22 = .bool x22_2∧Aside0 (Z43.j0 kq l0 l1 x22_2 = some r)∧Aside0 (kq≤k)∧Aside0 (Below w.heap.size w wc))
 case first =>
  have H:=HC3.out
  clear HC3
  obtain ⟨t615,A4,H⟩:=bi_ H
  by_cases c5:t615 = true
  ·subst c5
   rw [if_pos rfl] at H
   obtain ⟨t616,A6,H⟩:=bi_ H
   by_cases c7:t616 = true
   ·subst c7
    rw [if_pos rfl] at H
    have H':=A_ H
    clear H
    go_wp2_with (first | ((with_reducible refine gA_ (f:=98) rfl ?_);refine gL_ (some 9) Tryz.func98 #[.slice A0 l0.length c0] rfl qa_ ?_;(with_reducible refine (Z61.calls k _ _ l0 true _ (cb_ HR0) HC0.out A4.out).mono ?_);rintro e w8 ⟨rfl,hb⟩;refine ⟨_,rfl,?_⟩;replace HB:=b1_ hb;clear hb) | (go_at_call 98;(with_reducible refine (Z61.calls k _ _ l1 true _ (cb_ HR1) HC1.out A6.out).mono ?_);rintro e w9 ⟨rfl,hb⟩;replace HB:=b1_ hb;clear hb))
    go_meet
    case rel=>exact ⟨_,(((l0.length:Int) != (l1.length:Int))),qc_,H',⟨qd_⟩,⟨hB_⟩⟩
   ·replace c7:=Bool.eq_false_iff.mpr c7
    subst c7
    have H1:(Z43.j0 k l0 l1 true) = some r:=by rw [if_neg (show ¬ (false = true) by decide)] at H;exact H
    clear H
    have H:=H1
    clear H1
    have H':=A_ H
    clear H
    go_wp2_with (first | ((with_reducible refine gA_ (f:=98) rfl ?_);refine gL_ (some 9) Tryz.func98 #[.slice A0 l0.length c0] rfl qa_ ?_;(with_reducible refine (Z61.calls k _ _ l0 true _ (cb_ HR0) HC0.out A4.out).mono ?_);rintro e w10 ⟨rfl,hb⟩;refine ⟨_,rfl,?_⟩;replace HB:=b1_ hb;clear hb) | (go_at_call 98;(with_reducible refine (Z61.calls k _ _ l1 false _ (cb_ HR1) HC1.out A6.out).mono ?_);rintro e w11 ⟨rfl,hb⟩;replace HB:=b1_ hb;clear hb))
    go_meet
    case rel=>exact ⟨_,(true),qc_,H',⟨qd_⟩,⟨hB_⟩⟩
  ·replace c5:=Bool.eq_false_iff.mpr c5
   subst c5
   have H1:(Z43.j0 k l0 l1 true) = some r:=by rw [if_neg (show ¬ (false = true) by decide)] at H;exact H
   clear H
   have H:=H1
   clear H1
   have H':=A_ H
   clear H
   go_wp2_with (first | ((with_reducible refine gA_ (f:=98) rfl ?_);refine gL_ (some 9) Tryz.func98 #[.slice A0 l0.length c0] rfl qa_ ?_;(with_reducible refine (Z61.calls k _ _ l0 false _ (cb_ HR0) HC0.out A4.out).mono ?_);rintro e w12 ⟨rfl,hb⟩;refine ⟨_,rfl,?_⟩;replace HB:=b1_ hb;clear hb))
   go_meet
   case rel=>exact ⟨_,(true),qc_,H',⟨qd_⟩,⟨hB_⟩⟩
 case rest =>
  clear HC3
  obtain ⟨kq,x22_2,rfl,HA,HJ2,HB⟩:=hcut
  cases kq with
  | zero=>exact absurd HA.out (by simp [Z43.j0])
  | succ kj2 =>
   have H:=HA.out
   clear HA
   simp only [Z43.j0] at H
   by_cases c13:x22_2 = true
   ·subst c13
    rw [if_pos rfl] at H
    obtain rfl:=Option.some.inj H
    go_wp2
    go_ret
    exact ⟨_,qb_,by first | exact Kd.R_nil _ _ _ _ _ | exact Kd.N_nil _ _ _ _ _ | exact Kd.V_nil _ _ _ _ _ | exact Kd.Q_nil _ _ _ _ _ | exact Kd.S_nil _ _ _ _ _,hB_⟩
   ·replace c13:=Bool.eq_false_iff.mpr c13
    subst c13
    have H1:(if 0≤(l0.length:Int) then (if ((l0.length:Int):Int).toNat≤35184372088832 then (Z43.l0 kj2 l1 (List.replicate ((l0.length:Int):Int).toNat 0) l0 (l0.length:Int) 0) else (none)) else (none)) = some r:=by rw [if_neg (show ¬ (false = true) by decide)] at H;exact H
    clear H
    have H:=H1
    clear H1
    have c14:=cp_ H
    replace H:=ca_ H
    have c14b0:=eq_true c14
    have c14b1:=oC_ c14
    clear c14
    have c15:=cp_ H
    replace H:=ca_ H
    have c15b0:=eq_true c15
    have c15b1:=oC_ c15
    clear c15
    obtain ⟨y617,hy617⟩:∃ y_:List Int,y_ = (List.replicate ((l0.length:Int):Int).toNat 0):=⟨_,rfl⟩
    replace H:(Z43.l0 kj2 l1 y617 l0 (l0.length:Int) 0) = some r:=by first | (rw [hy617];exact H) | exact H
    have Ny617:=A_ hy617
    clear hy617
    have H':=A_ H
    clear H
    go_wp2_with (first | ((with_reducible refine gB_ (N:=25) rfl ?_);(try (refine gate_guard (by rfl) ?_;dsimp only));refine Kd.R_make (Kd.int .i64) _ 3 rfl (N:=25) rfl 27 _ _ rfl (l0.length:Int) rfl rfl Tryz.underlying27 (.int .i64 0) 8 info3 rfl (by decide) (by omega) 0 (ok:=fun _=>True) (okp:=fun _=>True) rfl (fun _ hk=>hk) trivial (oB_ qe_) (Nat.le_trans (Nat.mul_le_mul_right _ (oB_ qe_:(l0.length:Int).toNat≤35184372088832)) (by omega)) (Below.refl _ _) (nA_ _) ?_;intro v618 w16 ho17 hb hg_ hnew_;clear hg_ hnew_;(first | rw [← Ny617.out] at ho17 | (simp only [Int.reduceToNat] at ho17;rw [← Ny617.out] at ho17));have HO619:=rl_ w ho17;replace HB:=b1_ hb;clear hb ho17))
    go_loopg [28] kj2 (fun kq v28 w'=>∃ (x5_2:List Int) (x28_2:Int),v28 = .int .i64 x28_2∧Aside0 (Z43.l0 kq l1 x5_2 l0 (l0.length:Int) x28_2 = some r)∧Aside0 (kq≤kj2)∧Aside0 (Kd.R (Kd.int .i64) 3 w' w.heap.size (fun _=>True) v618 x5_2)∧Aside0 (Below w.heap.size w w'))
    case atStart=>exact ⟨(y617),(0),qc_,H',⟨nA_ _⟩,⟨(rr_ HO619)⟩,⟨hB_⟩⟩
    case round =>
     clear H'
     obtain ⟨x5_2,x28_2,rfl,HA,HK2,HO_5,HB⟩:=hrel
     cases gk with
     | zero=>exact absurd HA.out (by simp [Z43.l0])
     | succ k2 =>
      have H:=HA.out
      clear HA
      simp only [Z43.l0] at H
      by_cases c18:x28_2 < (l0.length:Int)
      ·rw [if_pos c18] at H
       have c18b0:=oC_ c18
       clear c18
       have c19:=cp_ H
       replace H:=ca_ H
       have c19b0:=oC_ c19
       clear c19
       have c20:=cp_ H
       replace H:=ca_ H
       have c20b0:=oC_ c20
       clear c20
       have c21:=cp_ H
       replace H:=ca_ H
       have c21b0:=oC_ c21
       clear c21
       have c22:=cp_ H
       replace H:=ca_ H
       have c22b0:=oC_ c22
       clear c22
       have c23:=cp_ H
       replace H:=ca_ H
       have c23b0:=oC_ c23
       clear c23
       obtain ⟨y622,hy622⟩:∃ y_:List Int,y_ = (x5_2.set (x28_2:Int).toNat (rd l1 (rd l0 x28_2))):=⟨_,rfl⟩
       replace H:(Z43.l0 k2 l1 y622 l0 (l0.length:Int) (wrap64 (x28_2 + 1))) = some r:=by first | (rw [hy622];exact H) | exact H
       have Ny622:=A_ hy622
       clear hy622
       have H':=A_ H
       clear H
       have p620:0≤(x28_2:Int):=oB_ qe_
       have q620:x28_2 < (l0.length:Int):=oB_ qe_
       obtain ⟨ad620,e620,hx620_0⟩:=Kd.at_int HR0.out x28_2 p620 q620
       cases e620
       replace hx620_0:=(HB.out.cell (World.block_lt_of_cell? w _ hx620_0)).trans hx620_0
       replace p620:=eq_true p620
       replace q620:=eq_true q620
       have p621:0≤((rd l0 x28_2):Int):=oB_ qe_
       have q621:(rd l0 x28_2) < (l1.length:Int):=oB_ qe_
       obtain ⟨ad621,e621,hx621_0⟩:=Kd.at_int HR1.out (rd l0 x28_2) p621 q621
       cases e621
       replace hx621_0:=(HB.out.cell (World.block_lt_of_cell? w _ hx621_0)).trans hx621_0
       replace p621:=eq_true p621
       replace q621:=eq_true q621
       have p24:0≤(x28_2:Int):=oB_ qe_
       have q24:(x28_2:Int) < ((x5_2.length:Int):Int):=oB_ qe_
       obtain ⟨go24,co24,eo24,gb24,gl24,cl24,HG24⟩:=Kd.R_form HO_5.out (by omega)
       (first | cases eo24 | (injection eo24 with ea_ en_ ec_;(first | subst ea_ | (injection ea_ with ea_;subst ea_));subst ec_;clear en_))
       have GB24:=A_ gb24
       have GG24:=A_ HG24
       clear gb24 gl24 HG24
       obtain ⟨hx24_0,hf24_0⟩:=Kd.R_celln 0 HO_5.out (x28_2:Int) p24 q24
       replace p24:=eq_true p24
       replace q24:=eq_true q24
       have HP25:=Kd.R_putg HO_5.out (x28_2:Int) (rd l1 (rd l0 x28_2))
       go_wp2_with (first | ((with_reducible refine gate_store (t:=3) (p:=39) rfl ?_);refine store_event (t:=3) (p:=39) (v:=?vo_w26) (w1:=(wr.setCell ⟨go24,(x28_2:Int).toNat,none⟩ (.int .i64 (rd l1 (rd l0 x28_2))))) ?hg ?ho ?hn ?hr ?_;(case ho=>rfl);(case hg=>rfl);(case hn=>rfl);(case hr=>first | (go_simp;done) | (go_simp;rfl));intro w26 hw;have hg:wr.grownBy w26 (some go24):=(by rw [hw];exact HP25.2);have hp_:Kd.R (Kd.int .i64) 3 w26 w.heap.size (fun _=>True) (.slice (some ⟨go24,0,none⟩) x5_2.length co24) y622:=(by rw [hw,Ny622.out];exact HP25.1);clear HP25;replace HO_5:=A_ (hp_);replace HB:=A_ ((by rw [hw];exact bD_ (HB.out) GB24.out:Below w.heap.size w w26));clear hg hw hp_))
       go_roundg k2
       case measure=>have:=HJ2.out;have:=HK2.out;omega
       case rel=>exact ⟨(y622),(wrap64 (x28_2 + 1)),qc_,H',⟨by have:=HJ2.out;have:=HK2.out;omega⟩,⟨(rr_ HO_5)⟩,⟨hB_⟩⟩
      ·rw [if_neg c18] at H
       have c18b0:=oD_ c18
       clear c18
       obtain rfl:=Option.some.inj H
       go_wp2
       go_ret
       exact ⟨_,qb_,(rr_ HO_5),hB_⟩
end Go.Proofs.YtoijcallajegfaaGreat.A
end
section
namespace Go.Proofs.YtoijcallajegfaaGreat.A
open Go.RowKit Go.Proofs.YtoijcallajegfaaGreatW.PrintWords Go.Proofs.YtoijcallajegfaaGreatW.PrintLast Go.Proofs.YtoijcallajegfaaGreatW.PrintMore
attribute [local go_sem] max2_int min2_int max_two min_two max_three min_three max_four min_four
set_option linter.unusedVariables false
set_option linter.unusedSimpArgs false
def Z40.f (k:Nat) (l0_0:List Int) (l0_1:List Int):Option (List Int):=(Z26.f k l0_0 l0_1).bind fun t630=>(if t630 = true then ((Z43.f k l0_0 l0_1).bind fun t631=>((Z14.f k l0_0).bind fun t634=>((Z14.f k l0_1).bind fun t637=>((Z43.f k t634 t637).bind fun t640=>((Z43.f k t631 t640).bind fun t643=>(some t643)))))) else (some ([]:List Int)))
theorem Z40.mono:∀ a0 a1 k,LeO (Z40.f k a0 a1) (Z40.f (k + 1) a0 a1):=by
 intro a0 a1 k
 unfold Z40.f
 repeat' first|exact Z14.mono _ _|exact Z26.mono _ _ _|exact Z43.mono _ _ _|exact lo_|refine LeO.ite ?_ ?_|refine LeO.bind ?_ (fun _=>?_)
def Z40.T3:Bool × List (List Nat × List Nat):=(true,[([],[]),([0],[0]),([],[]),([2],[2]),([1,3],[1,3]),([],[]),([5],[5]),([6,4],[6]),([],[]),([8],[8]),([9,7],[9]),([7,10,10],[7,10]),([4,11,11],[4,11]),([12,12,0,1,2,3,4,5,6,7,8,9,10,11,12],[12])])
def Z40.B3:List Nat:=[0,1,0,4,15,0,32,127,0,256,1023,2047,4095,8191]
theorem Z40.tab3:rtab .any (opsOf Tryz.f90 3) = Z40.T3:=by kernel_rfl
theorem Z40.bits3:waitsOk Z40.T3.2 Z40.B3 = true:=by kernel_rfl
set_option maxHeartbeats 8000000 in
set_option maxRecDepth 100000 in
theorem Z40.calls (k:Nat) (A0_0:Option Addr) (c0_0:Nat) (l0_0:List Int) (A0_1:Option Addr) (c0_1:Nat) (l0_1:List Int) (r:List Int) (w:World) (hr0_0:Kd.C (Kd.int .i64) w A0_0 l0_0.length l0_0) (hc0_0:l0_0.length≤c0_0) (hr0_1:Kd.C (Kd.int .i64) w A0_1 l0_1.length l0_1) (hc0_1:l0_1.length≤c0_1) (h:Z40.f k l0_0 l0_1 = some r) :
  Calls Tryz.prog 90 #[.agg #[.slice A0_0 l0_0.length c0_0,.slice A0_1 l0_1.length c0_1]] w fun e w'=>∃ v0_:Value,e = .returned (v0_)∧Kd.R (Kd.int .i64) 3 w' w.heap.size (fun _=>True) v0_ r∧Below w.heap.size w w':=by
 have hu38:=Tryz.underlying38
 have HR0_0:=A_ hr0_0
 have HC0_0:=A_ hc0_0
 clear hr0_0 hc0_0
 have HR0_1:=A_ hr0_1
 have HC0_1:=A_ hc0_1
 clear hr0_1 hc0_1
 have HB:=A_ (Below.refl w.heap.size w)
 have H:=h
 unfold Z40.f at H
 clear h
 obtain ⟨t630,A2,H⟩:=bi_ H
 by_cases c3:t630 = true
 ·subst c3
  rw [if_pos rfl] at H
  obtain ⟨t631,A4,H⟩:=bi_ H
  obtain ⟨t634,A5,H⟩:=bi_ H
  obtain ⟨t637,A6,H⟩:=bi_ H
  obtain ⟨t640,A7,H⟩:=bi_ H
  obtain ⟨t643,A8,H⟩:=bi_ H
  obtain rfl:=Option.some.inj H
  go_enter Tryz.func90,Tryz.ntmps90
  try go_wp2_with (first | ((with_reducible refine gB_ (N:=1) rfl ?_);refine bx_ 1 #[.slice A0_0 l0_0.length c0_0,.slice A0_1 l0_1.length c0_1] 38 ?_;intro gb629 hg w9 hbox hb;have BK629:=A_ hbox;have GW629:=gw_ w hg;have GE629:=GW629;replace HB:=b1_ hb;clear hb hbox hg;obtain ⟨hcz10_0,hcz10_1,hfz10_0,hfz10_1⟩:=c2_ BK629) | ((with_reducible refine gA_ (f:=88) rfl ?_);refine gL_ (some 4) Tryz.func88 #[.agg #[.slice A0_0 l0_0.length c0_0,.slice A0_1 l0_1.length c0_1]] rfl qa_ ?_;(with_reducible refine (Z26.calls k _ _ l0_0 _ _ l0_1 true _ (cb_ HR0_0) HC0_0.out (cb_ HR0_1) HC0_1.out A2.out).mono ?_);rintro e w11 ⟨rfl,hb⟩;refine ⟨_,rfl,?_⟩;replace BK629:=bb_ BK629 hb;replace HB:=b1_ hb;clear hb))
  replace BK629:=A_ (kB_ BK629.out)
  replace HB:=A_ (bC_ HB.out)
  refine start_ (n:=14) (S:=fun w'=>w'.cell? ⟨gb629,0,none⟩ = some (.slice A0_0 l0_0.length c0_0)∧w'.cell? ⟨gb629,1,none⟩ = some (.slice A0_1 l0_1.length c0_1)) (ds:=[]) (bl_ 14 0) (by kernel_rfl) rfl (by kernel_rfl) ⟨cz0_ BK629,cz1_ BK629⟩ (fun hHeld=>?_);refine with_tabW Z40.tab3 Z40.bits3 (fun HT_ HW_=>?_)
  generalize w11.drew = w12 at BK629 HB hHeld ⊢
  refine pu_ 0 (some 6) (bl_ 14 1) HT_ ?_
  refine pu_ 2 (some 8) (bl_ 14 5) HT_ ?_
  refine pu_ 5 (some 11) (bl_ 14 37) HT_ ?_
  refine pu_ 8 (some 14) (bl_ 14 293) HT_ ?_
  refine ta_ 1 (some 7) (bl_ 14 295) HT_ HW_ hHeld ?_
  refine ta_ 3 (some 9) (bl_ 14 303) HT_ HW_ hHeld ?_
  refine ta_ 6 (some 12) (bl_ 14 367) HT_ HW_ hHeld ?_
  refine ta_ 9 (some 15) (bl_ 14 879) HT_ HW_ hHeld ?_
  refine on_ 4 (some 10) (bl_ 14 895) HT_ (fun K hK=>?_)
  refine gO_ Tryz.func109 #[.slice A0_0 l0_0.length c0_0,.slice A0_1 l0_1.length c0_1] (by rfl) rfl rfl qa_ ?_
  with_reducible refine (Z43.calls k _ _ l0_0 _ _ l0_1 t631 _ (cb_ HR0_0) HC0_0.out (cb_ HR0_1) HC0_1.out A4.out).mono ?_
  rintro e w13 ⟨v632,rfl,ho0,hb⟩
  refine ⟨_,rfl,?_⟩
  have HO633:=rl_ w ho0
  replace BK629:=bb_ BK629 hb
  replace HB:=b1_ hb
  clear hb ho0
  refine hK.out _ _ ⟨cz0_ BK629,cz1_ BK629⟩ (fun hHeld=>?_)
  clear hK K
  refine no_ (some 10) ?_
  refine on_ 7 (some 13) (bl_ 14 1023) HT_ (fun K hK=>?_)
  refine gO_ Tryz.func110 #[.slice A0_0 l0_0.length c0_0] (by rfl) rfl rfl qa_ ?_
  with_reducible refine (Z14.calls k _ _ l0_0 t634 _ (cb_ HR0_0) HC0_0.out A5.out).mono ?_
  rintro e w14 ⟨v635,rfl,ho0,hb⟩
  refine ⟨_,rfl,?_⟩
  have HO636:=A_ (rE_ (Kd.R_new' ho0 (Kd.R_lt (rr_ HO633))) (bF_ hB_))
  replace HO633:=A_ (Kd.R_elder' (rr_ HO633) (Kd.R_base ho0) hb)
  replace BK629:=bb_ BK629 hb
  replace HB:=b1_ hb
  clear hb ho0
  refine hK.out _ _ ⟨cz0_ BK629,cz1_ BK629⟩ (fun hHeld=>?_)
  clear hK K
  refine no_ (some 13) ?_
  refine on_ 10 (some 16) (bl_ 14 2047) HT_ (fun K hK=>?_)
  refine gO_ Tryz.func110 #[.slice A0_1 l0_1.length c0_1] (by rfl) rfl rfl qa_ ?_
  with_reducible refine (Z14.calls k _ _ l0_1 t637 _ (cb_ HR0_1) HC0_1.out A6.out).mono ?_
  rintro e w15 ⟨v638,rfl,ho0,hb⟩
  refine ⟨_,rfl,?_⟩
  have HO639:=A_ (rE_ (Kd.R_new' (Kd.R_new' ho0 (Kd.R_lt (rr_ HO633))) (Kd.R_lt (rr_ HO636))) (bF_ hB_))
  replace HO633:=A_ (Kd.R_elder' (rr_ HO633) (Kd.R_base ho0) hb)
  replace HO636:=A_ (Kd.R_elder' (rr_ HO636) (Kd.R_base ho0) hb)
  replace BK629:=bb_ BK629 hb
  replace HB:=b1_ hb
  clear hb ho0
  obtain ⟨Ao16,co16,eo16⟩:=Kd.R_slice HO636.out
  (first | subst eo16 | (injection eo16 with f1_ f2_ f3_;have f4_:=f1_.symm;have f5_:=f3_.symm;clear f1_ f2_ f3_;subst f4_;subst f5_))
  obtain ⟨Ao17,co17,eo17⟩:=Kd.R_slice HO639.out
  (first | subst eo17 | (injection eo17 with f1_ f2_ f3_;have f4_:=f1_.symm;have f5_:=f3_.symm;clear f1_ f2_ f3_;subst f4_;subst f5_))
  refine hK.out _ _ ⟨cz0_ BK629,cz1_ BK629⟩ (fun hHeld=>?_)
  clear hK K
  refine no_ (some 16) ?_
  refine on_ 11 (some 17) (bl_ 14 4095) HT_ (fun K hK=>?_)
  refine gO_ Tryz.func109 #[.slice Ao16 t634.length co16,.slice Ao17 t637.length co17] (by rfl) rfl rfl qa_ ?_
  with_reducible refine (Z43.calls k _ _ t634 _ _ t637 t640 _ (cr_ HO636) ((Kd.R_reads' HO636.out).2.1) (cr_ HO639) ((Kd.R_reads' HO639.out).2.1) A7.out).mono ?_
  rintro e w18 ⟨v641,rfl,ho0,hb⟩
  refine ⟨_,rfl,?_⟩
  have HO642:=A_ (rE_ (Kd.R_new' (Kd.R_new' (Kd.R_new' ho0 (Kd.R_lt (rr_ HO633))) (Kd.R_lt (rr_ HO636))) (Kd.R_lt (rr_ HO639))) (bF_ hB_))
  replace HO633:=A_ (Kd.R_elder' (rr_ HO633) (Kd.R_base ho0) hb)
  replace HO636:=A_ (Kd.R_elder' (rr_ HO636) (Kd.R_base ho0) hb)
  replace HO639:=A_ (Kd.R_elder' (rr_ HO639) (Kd.R_base ho0) hb)
  replace BK629:=bb_ BK629 hb
  replace HB:=b1_ hb
  clear hb ho0
  obtain ⟨Ao19,co19,eo19⟩:=Kd.R_slice HO633.out
  (first | subst eo19 | (injection eo19 with f1_ f2_ f3_;have f4_:=f1_.symm;have f5_:=f3_.symm;clear f1_ f2_ f3_;subst f4_;subst f5_))
  obtain ⟨Ao20,co20,eo20⟩:=Kd.R_slice HO642.out
  (first | subst eo20 | (injection eo20 with f1_ f2_ f3_;have f4_:=f1_.symm;have f5_:=f3_.symm;clear f1_ f2_ f3_;subst f4_;subst f5_))
  refine hK.out _ _ ⟨cz0_ BK629,cz1_ BK629⟩ (fun hHeld=>?_)
  clear hK K
  refine no_ (some 17) ?_
  refine on_ 12 (some 18) (bl_ 14 8191) HT_ (fun K hK=>?_)
  refine gO_ Tryz.func109 #[.slice Ao19 t631.length co19,.slice Ao20 t640.length co20] (by rfl) rfl rfl qa_ ?_
  with_reducible refine (Z43.calls k _ _ t631 _ _ t640 t643 _ (cr_ HO633) ((Kd.R_reads' HO633.out).2.1) (cr_ HO642) ((Kd.R_reads' HO642.out).2.1) A8.out).mono ?_
  rintro e w21 ⟨v644,rfl,ho0,hb⟩
  refine ⟨_,rfl,?_⟩
  have HO645:=A_ (rE_ (Kd.R_new' (Kd.R_new' (Kd.R_new' (Kd.R_new' ho0 (Kd.R_lt (rr_ HO633))) (Kd.R_lt (rr_ HO636))) (Kd.R_lt (rr_ HO639))) (Kd.R_lt (rr_ HO642))) (bF_ hB_))
  replace HO633:=A_ (Kd.R_elder' (rr_ HO633) (Kd.R_base ho0) hb)
  replace HO636:=A_ (Kd.R_elder' (rr_ HO636) (Kd.R_base ho0) hb)
  replace HO639:=A_ (Kd.R_elder' (rr_ HO639) (Kd.R_base ho0) hb)
  replace HO642:=A_ (Kd.R_elder' (rr_ HO642) (Kd.R_base ho0) hb)
  replace BK629:=bb_ BK629 hb
  replace HB:=b1_ hb
  clear hb ho0
  refine hK.out _ _ ⟨cz0_ BK629,cz1_ BK629⟩ (fun hHeld=>?_)
  clear hK K
  refine no_ (some 18) ?_
  refine pu_ 13 (some 2) (bl_ 14 16383) HT_ ?_
  refine done_ (done_of HT_.out (by kernel_rfl)) ?_
  try go_wp2
  go_ret
  exact ⟨_,qb_,(rw_ (Kd.R_mono HO645.out (fun _ hk=>trivial))),hB_⟩
 ·replace c3:=Bool.eq_false_iff.mpr c3
  subst c3
  have H1:(some ([]:List Int)) = some r:=by rw [if_neg (show ¬ (false = true) by decide)] at H;exact H
  clear H
  have H:=H1
  clear H1
  obtain rfl:=Option.some.inj H
  go_enter Tryz.func90,Tryz.ntmps90
  go_wp2_with (first | ((with_reducible refine gB_ (N:=1) rfl ?_);refine bx_ 1 #[.slice A0_0 l0_0.length c0_0,.slice A0_1 l0_1.length c0_1] 38 ?_;intro gb629 hg w22 hbox hb;have BK629:=A_ hbox;have GW629:=gw_ w hg;have GE629:=GW629;replace HB:=b1_ hb;clear hb hbox hg;obtain ⟨hcz23_0,hcz23_1,hfz23_0,hfz23_1⟩:=c2_ BK629) | ((with_reducible refine gA_ (f:=88) rfl ?_);refine gL_ (some 4) Tryz.func88 #[.agg #[.slice A0_0 l0_0.length c0_0,.slice A0_1 l0_1.length c0_1]] rfl qa_ ?_;(with_reducible refine (Z26.calls k _ _ l0_0 _ _ l0_1 false _ (cb_ HR0_0) HC0_0.out (cb_ HR0_1) HC0_1.out A2.out).mono ?_);rintro e w24 ⟨rfl,hb⟩;refine ⟨_,rfl,?_⟩;replace BK629:=bb_ BK629 hb;replace HB:=b1_ hb;clear hb))
  go_ret
  exact ⟨_,qb_,by first | exact Kd.R_nil _ _ _ _ _ | exact Kd.N_nil _ _ _ _ _ | exact Kd.V_nil _ _ _ _ _ | exact Kd.Q_nil _ _ _ _ _ | exact Kd.S_nil _ _ _ _ _,hB_⟩
def Z23.f (k:Nat) (l0_0:List Int) (l0_1:List Int):Option ((List (List Int))):=(Z26.f k l0_0 l0_1).bind fun t647=>(if t647 = true then ((Z40.f k l0_0 l0_1).bind fun t648=>((Z41.f k t648).bind fun t651=>(some t651))) else (some ([]:List (List Int))))
theorem Z23.mono:∀ a0 a1 k,LeO (Z23.f k a0 a1) (Z23.f (k + 1) a0 a1):=by
 intro a0 a1 k
 unfold Z23.f
 repeat' first|exact Z40.mono _ _ _|exact Z41.mono _ _|exact Z26.mono _ _ _|exact lo_|refine LeO.ite ?_ ?_|refine LeO.bind ?_ (fun _=>?_)
set_option maxHeartbeats 8000000 in
set_option maxRecDepth 100000 in
theorem Z23.calls (k:Nat) (A0_0:Option Addr) (c0_0:Nat) (l0_0:List Int) (A0_1:Option Addr) (c0_1:Nat) (l0_1:List Int) (r:List (List Int)) (w:World) (hr0_0:Kd.C (Kd.int .i64) w A0_0 l0_0.length l0_0) (hc0_0:l0_0.length≤c0_0) (hr0_1:Kd.C (Kd.int .i64) w A0_1 l0_1.length l0_1) (hc0_1:l0_1.length≤c0_1) (h:Z23.f k l0_0 l0_1 = some r) :
  Calls Tryz.prog 61 #[.agg #[.slice A0_0 l0_0.length c0_0,.slice A0_1 l0_1.length c0_1]] w fun e w'=>∃ v0_:Value,e = .returned (v0_)∧Kd.S (Kd.slice 3 (Kd.int .i64)) 27 w' w.heap.size (fun _=>True) v0_ r∧Below w.heap.size w w':=by
 have hu38:=Tryz.underlying38
 have HR0_0:=A_ hr0_0
 have HC0_0:=A_ hc0_0
 clear hr0_0 hc0_0
 have HR0_1:=A_ hr0_1
 have HC0_1:=A_ hc0_1
 clear hr0_1 hc0_1
 have HB:=A_ (Below.refl w.heap.size w)
 have H:=h
 unfold Z23.f at H
 clear h
 obtain ⟨t647,A2,H⟩:=bi_ H
 by_cases c3:t647 = true
 ·subst c3
  rw [if_pos rfl] at H
  obtain ⟨t648,A4,H⟩:=bi_ H
  obtain ⟨t651,A5,H⟩:=bi_ H
  obtain rfl:=Option.some.inj H
  go_enter Tryz.func61,Tryz.ntmps61
  go_wp2_with (first | ((with_reducible refine gB_ (N:=1) rfl ?_);refine bx_ 1 #[.slice A0_0 l0_0.length c0_0,.slice A0_1 l0_1.length c0_1] 38 ?_;intro gb646 hg w6 hbox hb;have BK646:=A_ hbox;have GW646:=gw_ w hg;have GE646:=GW646;replace HB:=b1_ hb;clear hb hbox hg;obtain ⟨hcz7_0,hcz7_1,hfz7_0,hfz7_1⟩:=c2_ BK646) | ((with_reducible refine gA_ (f:=88) rfl ?_);refine gL_ (some 4) Tryz.func88 #[.agg #[.slice A0_0 l0_0.length c0_0,.slice A0_1 l0_1.length c0_1]] rfl qa_ ?_;(with_reducible refine (Z26.calls k _ _ l0_0 _ _ l0_1 true _ (cb_ HR0_0) HC0_0.out (cb_ HR0_1) HC0_1.out A2.out).mono ?_);rintro e w8 ⟨rfl,hb⟩;refine ⟨_,rfl,?_⟩;replace BK646:=bb_ BK646 hb;replace HB:=b1_ hb;clear hb;obtain ⟨hcz9_0,hcz9_1,hfz9_0,hfz9_1⟩:=c2_ BK646) | ((with_reducible refine gA_ (f:=90) rfl ?_);refine gL_ (some 7) Tryz.func90 #[.agg #[.slice A0_0 l0_0.length c0_0,.slice A0_1 l0_1.length c0_1]] rfl qa_ ?_;(with_reducible refine (Z40.calls k _ _ l0_0 _ _ l0_1 t648 _ (cb_ HR0_0) HC0_0.out (cb_ HR0_1) HC0_1.out A4.out).mono ?_);rintro e w10 ⟨v649,rfl,ho0,hb⟩;refine ⟨_,rfl,?_⟩;have HO650:=rl_ w ho0;replace BK646:=bb_ BK646 hb;replace HB:=b1_ hb;clear hb ho0;obtain ⟨Ao11,co11,eo11⟩:=Kd.R_slice HO650.out;subst eo11) | ((with_reducible refine gA_ (f:=89) rfl ?_);refine gL_ (some 8) Tryz.func89 #[.slice Ao11 t648.length co11] rfl qa_ ?_;(with_reducible refine (Z41.calls k _ _ t648 t651 _ (cr_ HO650) ((Kd.R_reads' HO650.out).2.1) A5.out).mono ?_);rintro e w12 ⟨v652,rfl,ho0,hb⟩;refine ⟨_,rfl,?_⟩;have HO653:=A_ (Kd.S_lower (Kd.S_new' ho0 (Kd.R_lt (rr_ HO650))) (bF_ hB_));replace HO650:=rb_ HO650 hb;replace BK646:=bb_ BK646 hb;replace HB:=b1_ hb;clear hb ho0))
  go_ret
  exact ⟨_,qb_,(sw_ (Kd.S_mono HO653.out (fun _ hk=>trivial))),hB_⟩
 ·replace c3:=Bool.eq_false_iff.mpr c3
  subst c3
  have H1:(some ([]:List (List Int))) = some r:=by rw [if_neg (show ¬ (false = true) by decide)] at H;exact H
  clear H
  have H:=H1
  clear H1
  obtain rfl:=Option.some.inj H
  go_enter Tryz.func61,Tryz.ntmps61
  go_wp2_with (first | ((with_reducible refine gB_ (N:=1) rfl ?_);refine bx_ 1 #[.slice A0_0 l0_0.length c0_0,.slice A0_1 l0_1.length c0_1] 38 ?_;intro gb646 hg w13 hbox hb;have BK646:=A_ hbox;have GW646:=gw_ w hg;have GE646:=GW646;replace HB:=b1_ hb;clear hb hbox hg;obtain ⟨hcz14_0,hcz14_1,hfz14_0,hfz14_1⟩:=c2_ BK646) | ((with_reducible refine gA_ (f:=88) rfl ?_);refine gL_ (some 4) Tryz.func88 #[.agg #[.slice A0_0 l0_0.length c0_0,.slice A0_1 l0_1.length c0_1]] rfl qa_ ?_;(with_reducible refine (Z26.calls k _ _ l0_0 _ _ l0_1 false _ (cb_ HR0_0) HC0_0.out (cb_ HR0_1) HC0_1.out A2.out).mono ?_);rintro e w15 ⟨rfl,hb⟩;refine ⟨_,rfl,?_⟩;replace BK646:=bb_ BK646 hb;replace HB:=b1_ hb;clear hb))
  go_ret
  exact ⟨_,qb_,by first | exact Kd.S_nil _ _ _ _ _ | exact Kd.N_nil _ _ _ _ _ | exact Kd.V_nil _ _ _ _ _ | exact Kd.Q_nil _ _ _ _ _ | exact Kd.R_nil _ _ _ _ _,hB_⟩
end Go.Proofs.YtoijcallajegfaaGreat.A
end
section
/- Plain mathematics: lists that fall, and the lengths of cycles. No conditions. -/
namespace Go.Proofs.YtoijcallajegfaaGreat.M
set_option linter.unusedVariables false
set_option linter.unusedSimpArgs false
def insD (x:Nat):List Nat→List Nat
 | []=>[x]
 | y :: l=>if y < x then x :: y :: l else y :: insD x l
def sortD (l:List Nat):List Nat:=l.foldl (fun a x=>insD x a) []
def Fall (l:List Nat):Prop:=l.Pairwise (fun a b=>b≤a)
theorem insD_perm (x:Nat) (l:List Nat):(insD x l).Perm (x :: l):=by
 induction l with
 | nil=>exact List.Perm.refl _
 | cons y l ih =>
  unfold insD
  split
  ·exact List.Perm.refl _
  ·exact (List.Perm.cons y ih).trans (List.Perm.swap x y l)
theorem insD_fall {x:Nat} {l:List Nat} (h:Fall l):Fall (insD x l):=by
 induction l with
 | nil=>exact List.pairwise_singleton _ _
 | cons y l ih =>
  obtain ⟨h1,h2⟩:=List.pairwise_cons.mp h
  unfold insD
  split
  ·rename_i hy
   refine List.pairwise_cons.mpr ⟨fun b hb=>?_,h⟩
   rcases List.mem_cons.mp hb with rfl | hb
   ·omega
   ·have:=h1 b hb
    omega
  ·rename_i hy
   refine List.pairwise_cons.mpr ⟨fun b hb=>?_,ih h2⟩
   rcases List.mem_cons.mp ((insD_perm x l).mem_iff.mp hb) with rfl | hb
   ·omega
   ·exact h1 b hb
theorem sortD_aux:∀ (l a:List Nat),Fall a→Fall (l.foldl (fun a x=>insD x a) a)∧(l.foldl (fun a x=>insD x a) a).Perm (a ++ l):=by
 intro l
 induction l with
 | nil=>intro a h;exact ⟨h,by simp⟩
 | cons x l ih =>
  intro a h
  obtain ⟨h1,h2⟩:=ih (insD x a) (insD_fall h)
  refine ⟨h1,h2.trans ?_⟩
  exact ((insD_perm x a).append_right l).trans (List.perm_middle (l₁:=a) (a:=x) (l₂:=l)).symm
theorem sortD_fall (l:List Nat):Fall (sortD l):=(sortD_aux l [] List.Pairwise.nil).1
theorem sortD_perm (l:List Nat):(sortD l).Perm l:=(sortD_aux l [] List.Pairwise.nil).2
theorem fall_uniq:∀ {a b:List Nat},Fall a→Fall b→a.Perm b→a = b:=by
 intro a
 induction a with
 | nil=>intro b _ _ h;exact (List.nil_perm.mp h).symm
 | cons x a ih =>
  intro b ha hb h
  cases b with
  | nil=>exact absurd (List.perm_nil.mp h) (by simp)
  | cons y b =>
   obtain ⟨a1,a2⟩:=List.pairwise_cons.mp ha
   obtain ⟨b1,b2⟩:=List.pairwise_cons.mp hb
   have e:x = y:=by
    have h1:x ∈ y :: b:=h.mem_iff.mp (by simp)
    have h2:y ∈ x :: a:=h.mem_iff.mpr (by simp)
    rcases List.mem_cons.mp h1 with e | h1
    ·exact e
    ·rcases List.mem_cons.mp h2 with e | h2
     ·exact e.symm
     ·have:=b1 x h1
      have:=a1 y h2
      omega
   subst e
   rw [ih a2 b2 (List.Perm.cons_inv h)]
theorem sortD_len (l:List Nat):(sortD l).length = l.length:=(sortD_perm l).length_eq
end Go.Proofs.YtoijcallajegfaaGreat.M
end
section
namespace Go.Proofs.YtoijcallajegfaaGreat.A
open Go.RowKit Go.Proofs.YtoijcallajegfaaGreatW.PrintWords Go.Proofs.YtoijcallajegfaaGreatW.PrintLast Go.Proofs.YtoijcallajegfaaGreatW.PrintMore
attribute [local go_sem] max2_int min2_int max_two min_two max_three min_three max_four min_four
set_option linter.unusedVariables false
set_option linter.unusedSimpArgs false
def Z0.f (l0:List Int):Option (List Int):=if (∀ x ∈ l0,0≤x∧x≤4611686018427387904)∧l0.length < 4611686018427387904 then some ((M.sortD (l0.map Int.toNat)).map fun (n:Nat)=>(n:Int)) else none
theorem Z0.closure (x y:Int) (W:World):Calls Tryz.prog 63 #[.int .i64 x,.int .i64 y] W fun e w'=>e = .returned (.int .i64 (wrap64 (y - x)))∧∃ q os',w' = Go.Sort.grow (W.drewN q) os':=by
 go_enter Tryz.func63,Tryz.ntmps63
 go_wp2
 go_ret
 exact ⟨by first | rfl | (rw [i64_w]),0,#[],by rw [Go.Sort.grow_empty];rfl⟩
theorem Z0.ord:M.Ord3 (fun x:Int=>0≤x∧x≤4611686018427387904) (fun x y=>wrap64 (y - x)) where
 irr x hx:=by unfold wrap64;omega
 tr x y z hx hy hz h1 h2:=by unfold wrap64 at *;omega
 nt x y z hx hy hz h1 h2:=by unfold wrap64 at *;omega
set_option maxHeartbeats 8000000 in
set_option maxRecDepth 100000 in
theorem Z0.calls (P0_:Nat→Prop) (u9000_:Value) (l0:List Int) (r:List Int) (w0 w:World) (hB:Below w0.heap.size w0 w) (ho0:Kd.R (Kd.int .i64) 3 w w0.heap.size P0_ u9000_ l0) (h:Z0.f l0 = some r) :
  Calls Tryz.prog 62 #[u9000_,.func (.func 63) #[] #[]] w fun e w'=>e = .returned (.tuple #[])∧Kd.R (Kd.int .i64) 3 w' w0.heap.size (fun k_=>(P0_ k_ ∨ w.heap.size≤k_)) u9000_ r∧Below w0.heap.size w0 w'∧Kept w w' (fun k_=>P0_ k_):=by
 unfold Z0.f at h
 split at h
 ·rename_i hq
  obtain rfl:=Option.some.inj h
  have key:=M.sortN1 (d:=Kd.int .i64) (Q:=fun x:Int=>0≤x∧x≤4611686018427387904) (cf:=fun x y=>wrap64 (y - x)) Tryz.sortA62 Tryz.sortB62 rfl Z0.ord 63 (enters_of Tryz.func63 (by kernel_rfl) rfl)
   (fun W x y cx cy _ _ hx hy=>by
    have e1:cx = .int .i64 x:=(List.cons.inj hx).1
    have e2:cy = .int .i64 y:=(List.cons.inj hy).1
    subst e1 e2
    exact Z0.closure x y W) ho0 hq.1 hq.2
  refine key.mono ?_
  rintro e w' ⟨rfl,xs',hp,hs,hR,hK,hB2⟩
  have hx:xs' = (M.sortD (l0.map Int.toNat)).map fun (n:Nat)=>(n:Int):=by
   have hnn:∀ x ∈ xs',0≤x∧x≤4611686018427387904:=fun x hx=>hq.1 x (hp.mem_iff.1 hx)
   have h1:xs' = (xs'.map Int.toNat).map fun (n:Nat)=>(n:Int):=by
    rw [List.map_map]
    conv=>lhs;rw [← List.map_id xs']
    apply List.map_congr_left
    intro x hx
    have:=hnn x hx
    simp only [id,Function.comp]
    omega
   have h2:M.Fall (xs'.map Int.toNat):=by
    unfold M.Fall
    rw [List.pairwise_map]
    refine hs.imp_of_mem ?_
    intro a b ha hb hab
    have:=hnn a ha
    have:=hnn b hb
    have hab':¬ wrap64 (a - b) < 0:=hab
    unfold wrap64 at hab'
    clear hab
    omega
   have h3:xs'.map Int.toNat = M.sortD (l0.map Int.toNat):=M.fall_uniq h2 (M.sortD_fall _) ((hp.map _).trans (M.sortD_perm _).symm)
   rw [← h3]
   exact h1
  rw [← hx]
  exact ⟨rfl,Kd.R_mono hR (fun _ hk=>.inl hk),hB.trans hB2,⟨hK.1,fun i hi hn=>hK.2 i hi (fun e_=>hn (ho0.1 i e_.symm))⟩⟩
 ·cases h
def Z39.l0:Nat→List Int→List (List Int)→Int→Int→Option (List Int)
 | 0,_,_,_,_=>none
 | k + 1,x3,x8,x9,x10=>if x10 < x9 then (if 0≤x10 then (if x10 < (x8.length:Int) then (if x3.length < 17592186044416 then (Z39.l0 k (x3 ++ [((rd_L1 x8 x10).length:Int)]) x8 x9 (wrap64 (x10 + 1))) else (none)) else (none)) else (none)) else ((Z0.f x3).bind fun t665=>(some t665))
def Z39.f (k:Nat) (l0_0:List Int) (l0_1:List Int):Option (List Int):=(Z23.f k l0_0 l0_1).bind fun t658=>(Z39.l0 k (([]:List Int)) t658 (t658.length:Int) 0)
theorem Z39.mono_l:∀ k,(∀ y0 y1 y2 y3,LeO (Z39.l0 k y0 y1 y2 y3) (Z39.l0 (k + 1) y0 y1 y2 y3))
 | 0=>fun _ _ _ _ r h=>by simp [Z39.l0] at h
 | k + 1=>by
  have ih0:=Z39.mono_l k
  ·intro y0 y1 y2 y3
   unfold Z39.l0
   repeat' first|exact ih0 _ _ _ _|exact Z23.mono _ _ _|exact lo_|refine LeO.ite ?_ ?_|refine LeO.bind ?_ (fun _=>?_)
theorem Z39.mono:∀ a0 a1 k,LeO (Z39.f k a0 a1) (Z39.f (k + 1) a0 a1):=by
 intro a0 a1 k
 have ih0:=Z39.mono_l k
 unfold Z39.f
 repeat' first|exact ih0 _ _ _ _|exact Z23.mono _ _ _|exact lo_|refine LeO.ite ?_ ?_|refine LeO.bind ?_ (fun _=>?_)
set_option maxHeartbeats 8000000 in
set_option maxRecDepth 100000 in
theorem Z39.calls (k:Nat) (A0_0:Option Addr) (c0_0:Nat) (l0_0:List Int) (A0_1:Option Addr) (c0_1:Nat) (l0_1:List Int) (r:List Int) (w:World) (hr0_0:Kd.C (Kd.int .i64) w A0_0 l0_0.length l0_0) (hc0_0:l0_0.length≤c0_0) (hr0_1:Kd.C (Kd.int .i64) w A0_1 l0_1.length l0_1) (hc0_1:l0_1.length≤c0_1) (h:Z39.f k l0_0 l0_1 = some r) :
  Calls Tryz.prog 40 #[.agg #[.slice A0_0 l0_0.length c0_0,.slice A0_1 l0_1.length c0_1]] w fun e w'=>∃ v0_:Value,e = .returned (v0_)∧Kd.R (Kd.int .i64) 3 w' w.heap.size (fun _=>True) v0_ r∧Below w.heap.size w w':=by
 have hu38:=Tryz.underlying38
 have HR0_0:=A_ hr0_0
 have HC0_0:=A_ hc0_0
 clear hr0_0 hc0_0
 have HR0_1:=A_ hr0_1
 have HC0_1:=A_ hc0_1
 clear hr0_1 hc0_1
 have HB:=A_ (Below.refl w.heap.size w)
 have H:=h
 unfold Z39.f at H
 clear h
 obtain ⟨y655,hy655⟩:∃ y_:List Int,y_ = (([]:List Int)):=⟨_,rfl⟩
 replace H:((Z23.f k l0_0 l0_1).bind fun t658=>(Z39.l0 k y655 t658 (t658.length:Int) 0)) = some r:=by first | (rw [hy655];exact H) | exact H
 have Ny655:=A_ hy655
 clear hy655
 obtain ⟨t658,A2,H⟩:=bi_ H
 have H':=A_ H
 clear H
 go_enter Tryz.func40,Tryz.ntmps40
 go_wp2_with (first | ((with_reducible refine gB_ (N:=1) rfl ?_);refine bx_ 1 #[.slice A0_0 l0_0.length c0_0,.slice A0_1 l0_1.length c0_1] 38 ?_;intro gb654 hg w3 hbox hb;have BK654:=A_ hbox;have GW654:=gw_ w hg;have GE654:=GW654;replace HB:=b1_ hb;clear hb hbox hg) | ((with_reducible refine gB_ (N:=6) rfl ?_);refine Kd.R_lit (Kd.int .i64) _ 3 ?hg (N:=6) ?hd (xs:=([]:List Int)) (inner:=[]) (ok:=fun _=>True) (okp:=fun _=>True) ?hr ?hp (fun _ hk=>hk) trivial (Below.refl _ _) (nA_ _) (by simp) ?_;(case hd=>rfl);(case hg=>rfl);(case hr=>first | (go_simp;done) | (go_simp;rfl));(case hp=>exact (Reps.none _ _));intro v656 w4 ho5 hb hg_ hnew_;clear hg_ hnew_;(first | rw [← Ny655.out] at ho5 | (simp only [Int.reduceToNat] at ho5;rw [← Ny655.out] at ho5));have HO657:=rl_ w ho5;replace BK654:=bb_ BK654 hb;replace HB:=b1_ hb;clear hb ho5;obtain ⟨hcz6_0,hcz6_1,hfz6_0,hfz6_1⟩:=c2_ BK654) | ((with_reducible refine gA_ (f:=61) rfl ?_);refine gL_ (some 8) Tryz.func61 #[.agg #[.slice A0_0 l0_0.length c0_0,.slice A0_1 l0_1.length c0_1]] rfl qa_ ?_;(with_reducible refine (Z23.calls k _ _ l0_0 _ _ l0_1 t658 _ (cb_ HR0_0) HC0_0.out (cb_ HR0_1) HC0_1.out A2.out).mono ?_);rintro e w7 ⟨v659,rfl,ho0,hb⟩;refine ⟨_,rfl,?_⟩;have HO660:=A_ (Kd.S_lower (Kd.S_new' ho0 (Kd.R_lt (rr_ HO657))) (bF_ hB_));replace HO657:=rb_ HO657 hb;replace BK654:=bb_ BK654 hb;replace HB:=b1_ hb;clear hb ho0;obtain ⟨Ao8,co8,eo8⟩:=Kd.S_slice HO660.out;subst eo8))
 go_loopg [3,10] k (fun kq v3 v10 w'=>∃ (x3_1:List Int) (x10_1:Int),v10 = .int .i64 x10_1∧Aside0 (Z39.l0 kq x3_1 t658 (t658.length:Int) x10_1 = some r)∧Aside0 (kq≤k)∧Aside0 (Kd.R (Kd.int .i64) 3 w' w.heap.size (fun _=>True) v3 x3_1)∧Aside0 (Kd.S (Kd.slice 3 (Kd.int .i64)) 27 w' w.heap.size (fun k_=>some k_≠(v3:Value).ownBlock) (.slice Ao8 t658.length co8) t658)∧Aside0 (w'.heap[gb654]? = some (.cells #[(.slice A0_0 l0_0.length c0_0),(.slice A0_1 l0_1.length c0_1)] 38 (0,0)))∧Aside0 (Below w.heap.size w w'))
 case atStart=>exact ⟨(y655),(0),qc_,H',⟨nA_ _⟩,⟨(rr_ HO657)⟩,⟨(sw_ (Kd.S_mono HO660.out (fun _ hk=>hk.2)))⟩,⟨(kk_ BK654)⟩,⟨hB_⟩⟩
 case round =>
  clear H'
  obtain ⟨x3_1,x10_1,rfl,HA,HK1,HO_3,HO_8,BK654,HB⟩:=hrel
  cases gk with
  | zero=>exact absurd HA.out (by simp [Z39.l0])
  | succ k1 =>
   have H:=HA.out
   clear HA
   simp only [Z39.l0] at H
   by_cases c9:x10_1 < (t658.length:Int)
   ·rw [if_pos c9] at H
    have c9b0:=oC_ c9
    clear c9
    have c10:=cp_ H
    replace H:=ca_ H
    have c10b0:=oC_ c10
    clear c10
    have c11:=cp_ H
    replace H:=ca_ H
    have c11b0:=oC_ c11
    clear c11
    have c12:=cp_ H
    replace H:=ca_ H
    have LMc12:=A_ c12
    clear c12
    obtain ⟨y662,hy662⟩:∃ y_:List Int,y_ = (x3_1 ++ [((rd_L1 t658 x10_1).length:Int)]):=⟨_,rfl⟩
    replace H:(Z39.l0 k1 y662 t658 (t658.length:Int) (wrap64 (x10_1 + 1))) = some r:=by first | (rw [hy662];exact H) | exact H
    have Ny662:=A_ hy662
    clear hy662
    have H':=A_ H
    clear H
    have p661:0≤(x10_1:Int):=oB_ qe_
    have q661:x10_1 < (t658.length:Int):=oB_ qe_
    obtain ⟨ad661,A661_0,c661_0,e661,hx661_0,hl661_0,hi661_0⟩:=at_L1 (Kd.S_reads' HO_8.out).2.2 x10_1 p661 q661
    cases e661
    obtain ⟨ce661,hce661,hMe661,hcc661⟩:=Kd.S_get HO_8.out [] x10_1 p661 (by first | exact q661 | exact oB_ qe_ | (have e_:=(Kd.S_reads' HO_8.out).1;omega))
    obtain ⟨ve661_0,rfl,ge661_0⟩:=hMe661
    have hv661_0:=hcc661 0 _ rfl
    rw [Nat.add_zero,show ((Kd.slice 3 (Kd.int .i64))).sz = 1 from rfl,Nat.mul_one] at hv661_0
    replace hv661_0:=Option.some.inj (hv661_0.symm.trans hx661_0)
    rw [hv661_0] at ge661_0
    have HL661_0:=A_ (show Kd.R (Kd.int .i64) 3 _ _ _ _ (rd_L1 t658 x10_1) from ge661_0)
    clear hv661_0 ge661_0
    clear hcc661 hce661
    have HR661_0:=A_ hi661_0
    have HC661_0:=A_ hl661_0
    clear hi661_0 hl661_0
    replace p661:=eq_true p661
    replace q661:=eq_true q661
    go_wp2_with (first | ((with_reducible refine gate_builtin (b:=.append) (xs:=#[.tmp 14,.tmp 17]) rfl ?_);at_builtin;refine Kd.R_append (Kd.int .i64) (w0:=w) w.heap.size rfl (.tmp 14) (.tmp 17) 27 3 (.int .i64 0) 8 rfl Tryz.underlying27 info3 rfl (by decide) (by omega) u3 x3_1 ((rd_L1 t658 x10_1).length:Int) [.int .i64 ((rd_L1 t658 x10_1).length:Int)] (fun _=>True) (fun _=>False) rfl rfl ?aP (fun _ hk=>hk.elim) ?aF ?aO ?aB ?aS ?aL ?_;(case aP=>exact rfl);(case aB=>exact hB_);(case aF=>exact (fun _ _=>trivial));(case aO=>exact (rr_ HO_3));(case aS=>exact (bF_ hB_));(case aL=>have:=LMc12.out;omega);intro v663 w13 ho hb hg hat;rw [← Ny662.out] at ho;replace HO_8:=A_ (Kd.S_after (ok:=(fun _=>True)) (sw_ (Kd.S_mono HO_8.out (fun _ hk=>⟨trivial,hk⟩))) hg hat);replace BK654:=A_ (blk_grown (kk_ BK654) hg (Kd.R_ne HO_3.out BK654.out (by decide)));replace HL661_0:=A_ (Kd.R_after (ok:=(fun k_=>some k_≠(.slice (some ad661) t658.length co8:Value).ownBlock)) (rw_ (Kd.R_mono HL661_0.out (fun _ hk=>⟨hk.2,hk.1⟩))) hg hat);replace HB:=A_ hb;have HO664:=A_ ho;clear HO_3;clear ho hb hg hat))
    go_roundg k1
    case measure=>have:=HK1.out;omega
    case rel=>exact ⟨(y662),(wrap64 (x10_1 + 1)),qc_,H',⟨by have:=HK1.out;omega⟩,⟨(rr_ HO664)⟩,⟨(sw_ (Kd.S_mono HO_8.out (fun _ hk=>hk.2)))⟩,⟨(kk_ BK654)⟩,⟨hB_⟩⟩
   ·rw [if_neg c9] at H
    have c9b0:=oD_ c9
    clear c9
    obtain ⟨t665,A14,H⟩:=bi_ H
    obtain rfl:=Option.some.inj H
    obtain ⟨Ao15,co15,eo15⟩:=Kd.R_slice HO_3.out
    subst eo15
    go_wp2_with (first | ((with_reducible refine gA_ (f:=62) rfl ?_);refine gL_ (some 21) Tryz.func62 #[.slice Ao15 x3_1.length co15,.func (.func 63) #[] #[]] rfl qa_ ?_;(with_reducible refine (Z0.calls (fun k_=>some k_ = (.slice Ao15 x3_1.length co15:Value).ownBlock) (.slice Ao15 x3_1.length co15) x3_1 t665 w _ ?side1 ?side2 A14.out).mono ?_);(case side1=>repeat (first | (with_reducible first | exact HB.out | apply bA_ | apply bB_ | apply bC_ | refine bD_ ?_ GE654.out) | exact HB.out));(case side2=>exact Kd.R_tight rfl HO_3.out);rintro e w16 ⟨rfl,hy0,hb,hkp⟩;refine ⟨_,rfl,?_⟩;replace HO_8:=A_ (Kd.S_mono (ok':=fun k_=>some k_≠(.slice Ao15 x3_1.length co15:Value).ownBlock) (Kd.S_keptB (HO_8.out) hkp (fun k_ hk_ hs_=>(hk_) hs_)) (fun k_ hk_=>hk_.1));replace BK654:=A_ (blk_kept (kk_ BK654) hkp (fun hs_=>(fun e_=>(Kd.R_ne HO_3.out BK654.out (by decide)) e_) hs_));replace HO_3:=A_ (Kd.R_reok rfl hy0 (fun k_ e_=>HO_3.out.1 k_ e_));replace HB:=A_ hb;clear hb hkp hy0))
    go_ret
    exact ⟨_,qb_,(rr_ HO_3),hB_⟩
def Z25.l0:Nat→List Int→List Int→Int→Int→Option (List Int)
 | 0,_,_,_,_=>none
 | k + 1,x3,x8,x9,x10=>if x10 < x9 then (if 0≤x10 then (if x10 < (x8.length:Int) then (if (rd x8 x10) > 1 then (if x3.length < 17592186044416 then (Z25.l0 k (x3 ++ [wrap64 ((rd x8 x10) - 1)]) x8 x9 (wrap64 (x10 + 1))) else (none)) else (Z25.l0 k x3 x8 x9 (wrap64 (x10 + 1)))) else (none)) else (none)) else (some x3)
def Z25.f (k:Nat) (l0_0:List Int) (l0_1:List Int):Option (List Int):=(Z39.f k l0_0 l0_1).bind fun t670=>(Z25.l0 k (([]:List Int)) t670 (t670.length:Int) 0)
theorem Z25.mono_l:∀ k,(∀ y0 y1 y2 y3,LeO (Z25.l0 k y0 y1 y2 y3) (Z25.l0 (k + 1) y0 y1 y2 y3))
 | 0=>fun _ _ _ _ r h=>by simp [Z25.l0] at h
 | k + 1=>by
  have ih0:=Z25.mono_l k
  ·intro y0 y1 y2 y3
   unfold Z25.l0
   repeat' first|exact ih0 _ _ _ _|exact Z39.mono _ _ _|exact lo_|refine LeO.ite ?_ ?_|refine LeO.bind ?_ (fun _=>?_)
theorem Z25.mono:∀ a0 a1 k,LeO (Z25.f k a0 a1) (Z25.f (k + 1) a0 a1):=by
 intro a0 a1 k
 have ih0:=Z25.mono_l k
 unfold Z25.f
 repeat' first|exact ih0 _ _ _ _|exact Z39.mono _ _ _|exact lo_|refine LeO.ite ?_ ?_|refine LeO.bind ?_ (fun _=>?_)
set_option maxHeartbeats 8000000 in
set_option maxRecDepth 100000 in
theorem Z25.calls (k:Nat) (A0_0:Option Addr) (c0_0:Nat) (l0_0:List Int) (A0_1:Option Addr) (c0_1:Nat) (l0_1:List Int) (r:List Int) (w:World) (hr0_0:Kd.C (Kd.int .i64) w A0_0 l0_0.length l0_0) (hc0_0:l0_0.length≤c0_0) (hr0_1:Kd.C (Kd.int .i64) w A0_1 l0_1.length l0_1) (hc0_1:l0_1.length≤c0_1) (h:Z25.f k l0_0 l0_1 = some r) :
  Calls Tryz.prog 23 #[.agg #[.slice A0_0 l0_0.length c0_0,.slice A0_1 l0_1.length c0_1]] w fun e w'=>∃ v0_:Value,e = .returned (v0_)∧Kd.R (Kd.int .i64) 3 w' w.heap.size (fun _=>True) v0_ r∧Below w.heap.size w w':=by
 have hu38:=Tryz.underlying38
 have HR0_0:=A_ hr0_0
 have HC0_0:=A_ hc0_0
 clear hr0_0 hc0_0
 have HR0_1:=A_ hr0_1
 have HC0_1:=A_ hc0_1
 clear hr0_1 hc0_1
 have HB:=A_ (Below.refl w.heap.size w)
 have H:=h
 unfold Z25.f at H
 clear h
 obtain ⟨y667,hy667⟩:∃ y_:List Int,y_ = (([]:List Int)):=⟨_,rfl⟩
 replace H:((Z39.f k l0_0 l0_1).bind fun t670=>(Z25.l0 k y667 t670 (t670.length:Int) 0)) = some r:=by first | (rw [hy667];exact H) | exact H
 have Ny667:=A_ hy667
 clear hy667
 obtain ⟨t670,A2,H⟩:=bi_ H
 have H':=A_ H
 clear H
 go_enter Tryz.func23,Tryz.ntmps23
 go_wp2_with (first | ((with_reducible refine gB_ (N:=1) rfl ?_);refine bx_ 1 #[.slice A0_0 l0_0.length c0_0,.slice A0_1 l0_1.length c0_1] 38 ?_;intro gb666 hg w3 hbox hb;have BK666:=A_ hbox;have GW666:=gw_ w hg;have GE666:=GW666;replace HB:=b1_ hb;clear hb hbox hg) | ((with_reducible refine gB_ (N:=6) rfl ?_);refine Kd.R_lit (Kd.int .i64) _ 3 ?hg (N:=6) ?hd (xs:=([]:List Int)) (inner:=[]) (ok:=fun _=>True) (okp:=fun _=>True) ?hr ?hp (fun _ hk=>hk) trivial (Below.refl _ _) (nA_ _) (by simp) ?_;(case hd=>rfl);(case hg=>rfl);(case hr=>first | (go_simp;done) | (go_simp;rfl));(case hp=>exact (Reps.none _ _));intro v668 w4 ho5 hb hg_ hnew_;clear hg_ hnew_;(first | rw [← Ny667.out] at ho5 | (simp only [Int.reduceToNat] at ho5;rw [← Ny667.out] at ho5));have HO669:=rl_ w ho5;replace BK666:=bb_ BK666 hb;replace HB:=b1_ hb;clear hb ho5;obtain ⟨hcz6_0,hcz6_1,hfz6_0,hfz6_1⟩:=c2_ BK666) | ((with_reducible refine gA_ (f:=40) rfl ?_);refine gL_ (some 8) Tryz.func40 #[.agg #[.slice A0_0 l0_0.length c0_0,.slice A0_1 l0_1.length c0_1]] rfl qa_ ?_;(with_reducible refine (Z39.calls k _ _ l0_0 _ _ l0_1 t670 _ (cb_ HR0_0) HC0_0.out (cb_ HR0_1) HC0_1.out A2.out).mono ?_);rintro e w7 ⟨v671,rfl,ho0,hb⟩;refine ⟨_,rfl,?_⟩;have HO672:=A_ (rE_ (Kd.R_new' ho0 (Kd.R_lt (rr_ HO669))) (bF_ hB_));replace HO669:=A_ (Kd.R_elder' (rr_ HO669) (Kd.R_base ho0) hb);replace BK666:=bb_ BK666 hb;replace HB:=b1_ hb;clear hb ho0;obtain ⟨Ao8,co8,eo8⟩:=Kd.R_slice HO672.out;subst eo8))
 go_loopg [3,10] k (fun kq v3 v10 w'=>∃ (x3_1:List Int) (x10_1:Int),v10 = .int .i64 x10_1∧Aside0 (Z25.l0 kq x3_1 t670 (t670.length:Int) x10_1 = some r)∧Aside0 (kq≤k)∧Aside0 (Kd.R (Kd.int .i64) 3 w' w.heap.size (fun k_=>some k_≠((.slice Ao8 t670.length co8):Value).ownBlock) v3 x3_1)∧Aside0 (Kd.R (Kd.int .i64) 3 w' w.heap.size (fun k_=>some k_≠(v3:Value).ownBlock) (.slice Ao8 t670.length co8) t670)∧Aside0 (w'.heap[gb666]? = some (.cells #[(.slice A0_0 l0_0.length c0_0),(.slice A0_1 l0_1.length c0_1)] 38 (0,0)))∧Aside0 (Below w.heap.size w w'))
 case atStart=>exact ⟨(y667),(0),qc_,H',⟨nA_ _⟩,⟨(rw_ (Kd.R_mono HO669.out (fun _ hk=>hk.2)))⟩,⟨(rw_ (Kd.R_mono HO672.out (fun _ hk=>hk.2)))⟩,⟨(kk_ BK666)⟩,⟨hB_⟩⟩
 case round =>
  clear H'
  obtain ⟨x3_1,x10_1,rfl,HA,HK1,HO_3,HO_8,BK666,HB⟩:=hrel
  cases gk with
  | zero=>exact absurd HA.out (by simp [Z25.l0])
  | succ k1 =>
   have H:=HA.out
   clear HA
   simp only [Z25.l0] at H
   by_cases c9:x10_1 < (t670.length:Int)
   ·rw [if_pos c9] at H
    have c9b0:=oC_ c9
    clear c9
    have c10:=cp_ H
    replace H:=ca_ H
    have c10b0:=oC_ c10
    clear c10
    have c11:=cp_ H
    replace H:=ca_ H
    have c11b0:=oC_ c11
    clear c11
    by_cases c12:(rd t670 x10_1) > 1
    ·rw [if_pos c12] at H
     have c12b0:decide (1 < (rd t670 x10_1)) = true:=oC_ c12
     clear c12
     have c13:=cp_ H
     replace H:=ca_ H
     have LMc13:=A_ c13
     clear c13
     obtain ⟨y674,hy674⟩:∃ y_:List Int,y_ = (x3_1 ++ [wrap64 ((rd t670 x10_1) - 1)]):=⟨_,rfl⟩
     replace H:(Z25.l0 k1 y674 t670 (t670.length:Int) (wrap64 (x10_1 + 1))) = some r:=by first | (rw [hy674];exact H) | exact H
     have Ny674:=A_ hy674
     clear hy674
     have H':=A_ H
     clear H
     have p673:0≤(x10_1:Int):=oB_ qe_
     have q673:x10_1 < (t670.length:Int):=oB_ qe_
     obtain ⟨ad673,e673,hx673_0⟩:=Kd.at_int (Kd.R_reads' HO_8.out).2.2 x10_1 p673 q673
     cases e673
     replace p673:=eq_true p673
     replace q673:=eq_true q673
     go_wp2_with (first | ((with_reducible refine gate_builtin (b:=.append) (xs:=#[.tmp 16,.tmp 19]) rfl ?_);at_builtin;refine Kd.R_append (Kd.int .i64) (w0:=w) w.heap.size rfl (.tmp 16) (.tmp 19) 27 3 (.int .i64 0) 8 rfl Tryz.underlying27 info3 rfl (by decide) (by omega) u3 x3_1 (wrap64 ((rd t670 x10_1) - 1)) [.int .i64 (wrap64 ((rd t670 x10_1) - 1))] (fun k_=>some k_≠(.slice (some ad673) t670.length co8:Value).ownBlock) (fun _=>False) rfl rfl ?aP (fun _ hk=>hk.elim) ?aF ?aO ?aB ?aS ?aL ?_;(case aP=>exact rfl);(case aB=>exact hB_);(case aF=>exact (fun k_ hk=>Kd.fresh' (Kd.R_lt (rr_ HO_8)) k_ hk));(case aO=>exact (rr_ HO_3));(case aS=>exact (bF_ hB_));(case aL=>have:=LMc13.out;omega);intro v675 w14 ho hb hg hat;rw [← Ny674.out] at ho;replace HO_8:=A_ (Kd.R_after (ok:=(fun _=>True)) (rw_ (Kd.R_mono HO_8.out (fun _ hk=>⟨trivial,hk⟩))) hg hat);replace BK666:=A_ (blk_grown (kk_ BK666) hg (Kd.R_ne HO_3.out BK666.out (by decide)));replace HB:=A_ hb;have HO676:=A_ ho;clear HO_3;clear ho hb hg hat))
     go_roundg k1
     case measure=>have:=HK1.out;omega
     case rel=>exact ⟨(y674),(wrap64 (x10_1 + 1)),qc_,H',⟨by have:=HK1.out;omega⟩,⟨(rr_ HO676)⟩,⟨(rw_ (Kd.R_mono HO_8.out (fun _ hk=>hk.2)))⟩,⟨(kk_ BK666)⟩,⟨hB_⟩⟩
    ·rw [if_neg c12] at H
     have c12b0:decide (1 < (rd t670 x10_1)) = false:=oD_ c12
     clear c12
     have H':=A_ H
     clear H
     have p673:0≤(x10_1:Int):=oB_ qe_
     have q673:x10_1 < (t670.length:Int):=oB_ qe_
     obtain ⟨ad673,e673,hx673_0⟩:=Kd.at_int (Kd.R_reads' HO_8.out).2.2 x10_1 p673 q673
     cases e673
     replace p673:=eq_true p673
     replace q673:=eq_true q673
     go_wp2
     go_roundg k1
     case measure=>have:=HK1.out;omega
     case rel=>exact ⟨(x3_1),(wrap64 (x10_1 + 1)),qc_,H',⟨by have:=HK1.out;omega⟩,⟨(rr_ HO_3)⟩,⟨(rr_ HO_8)⟩,⟨(kk_ BK666)⟩,⟨hB_⟩⟩
   ·rw [if_neg c9] at H
    have c9b0:=oD_ c9
    clear c9
    obtain rfl:=Option.some.inj H
    go_wp2
    go_ret
    exact ⟨_,qb_,(rw_ (Kd.R_mono HO_3.out (fun _ hk=>trivial))),hB_⟩
end Go.Proofs.YtoijcallajegfaaGreat.A
end
section
/- Runs of equal lists struck out: the walk of slices.CompactFunc. No conditions. -/
namespace Go.Proofs.YtoijcallajegfaaGreat.M
set_option linter.unusedVariables false
set_option linter.unusedSimpArgs false
open Go Go.RowKit Go.Proofs.YtoijcallajegfaaGreatW.PrintWords Go.Proofs.YtoijcallajegfaaGreatW.PrintLast Go.Proofs.YtoijcallajegfaaGreatW.PrintMore Go.Shelf Go.Lib Go.Sort Go.Proofs
theorem one_of_len {l:List Value} (h:l.length = 1):∃ a,l = [a]:=by
 match l,h with
 | [a],_=>exact ⟨a,rfl⟩
theorem swk_cell1 {α:Type} [Inhabited α] {enc:α→List Value} {w0 W:World} {blk off:Nat} {dk d0:Array α} (h:SWK enc 1 w0 blk off dk W) (R:RowK enc 1 w0 blk off d0) (n:Nat) (os:Array Obj) {i:Nat} (hi:i < dk.size) {a:Value} (hv:enc dk[i]! = [a]) (hs:dk.size = d0.size:=by first | rfl | assumption) :
  (grow (W.drewN n) os).cell? ⟨blk,off + i,none⟩ = some a:=by
 have hh:=(h.grown n os).holds R.hblk R.hH hs
 have h0:=(hh.cell (c:=0) hi (by omega)).1
 rw [hv,Nat.mul_one] at h0
 exact h0
theorem run_clear_one (w:World) (t e ty:TypeId) (ht:Tryz.prog.underlying t = some (.slice e)) (hv:∀ w,(zeroValue e).run Tryz.prog w = .ok (.slice none 0 0) w) (b o n c:Nat) (hn:0 < n)
  (hc:∀ j,j < n→(w.cell? ⟨b,o + j,none⟩).isSome = true) (hf:∀ j,j < n→w.frozen? ⟨b,o + j,none⟩ = false) :
  ∃ vs,(Builtin.clear_ #[t] ty #[.slice (some ⟨b,o,none⟩) n c]).run Tryz.prog w = .ok (.tuple #[]) (w.setCells b o vs):=by
 obtain ⟨vs,hvs⟩:∃ vs,vs = (Builtin.zeroCells (Value.slice none 0 0).cells n).toList:=⟨_,rfl⟩
 have hl:vs.length = n:=by rw [hvs];simp [Builtin.zeroCells,Value.cells]
 have h1:∀ v ∈ vs,v.oneCell' = true:=by
  intro v hv'
  rw [hvs] at hv'
  simp only [Builtin.zeroCells,Value.cells,Array.toList_map,List.mem_map] at hv'
  obtain ⟨i,_,rfl⟩:=hv'
  have h2:i % 1 = 0:=by omega
  simp [h2,Value.oneCell']
 have hst:=run_storeCells_cells (P:=Tryz.prog) b o vs 0 w (by rw [hl];simpa using hc) (by rw [hl];simpa using hf) h1
 simp only [Nat.add_zero] at hst
 refine ⟨vs,?_⟩
 obtain ⟨m,rfl⟩:∃ m,n = m + 1:=⟨n - 1,by omega⟩
 simp [Builtin.clear_,run_underlying ht,hv,← hvs,hst]
theorem swk_put1 {α:Type} [Inhabited α] {enc:α→List Value} {w0 W:World} {blk off:Nat} {dk:Array α} (h:SWK enc 1 w0 blk off dk W) (hk:∀ x,(enc x).length = 1) (hb:blk < w0.heap.size) {i:Nat} (hi:i < dk.size) (x:α) {a:Value} (hx:enc x = [a]) :
  SWK enc 1 w0 blk off (dk.setIfInBounds i x) (W.setCell ⟨blk,off + i,none⟩ a):=by
 obtain ⟨n,os,rfl⟩:=h
 refine ⟨n,os,?_⟩
 have e0:(sortWorldK enc 1 w0 blk off n dk os).setCell ⟨blk,off + i,none⟩ a = (sortWorldK enc 1 w0 blk off n dk os).setCells blk (off + i * 1) [a]:=by rw [Nat.mul_one];rfl
 rw [e0]
 unfold sortWorldK
 rw [setCells_grow os blk _ _ _ (by rw [size_putRowK];exact hb)]
 congr 1
 unfold putRowK
 have hle:=rowK_bnd dk 1 i hi
 rw [setCells_putRow _ _ _ _ _ _ (by rw [size_flatK];simpa using hle),← hx,setMany_put enc 1 hk dk i x hi]
theorem swk_frozen1 {α:Type} [Inhabited α] {enc:α→List Value} {w0 W:World} {blk off:Nat} {dk d0:Array α} (h:SWK enc 1 w0 blk off dk W) (R:RowK enc 1 w0 blk off d0) (hs:dk.size = d0.size) {j:Nat} (hj:j < dk.size) :
  (W.cell? ⟨blk,off + j,none⟩).isSome = true∧W.frozen? ⟨blk,off + j,none⟩ = false:=by
 have hh:=h.holds R.hblk R.hH hs
 have:=hh j (by rw [size_flatK];omega)
 exact ⟨by rw [this.1];rfl,this.2⟩
set_option maxHeartbeats 4000000 in
set_option maxRecDepth 1000000 in
theorem compact_walk1 {α:Type} [Inhabited α] (enc:α→List Value) (eqf:α→α→Bool) (f blk off cap:Nat) (d:Array α) (w:World) (R:RowK enc 1 w blk off d)
  (eg:∀ args w,(callFunc f args).run Tryz.prog w = .ok (.enter f args) w)
  (hcmp:∀ (W:World),(∃ dk:Array α,dk.size = d.size∧SWK enc 1 w blk off dk W)→∀ x y a b,enc x = [a]→enc y = [b]→Calls Tryz.prog f #[a,b] W fun e w'=>e = .returned (.bool (eqf x y))∧∃ q os',w' = grow (W.drewN q) os')
  (hsl:∀ x,∃ A n c,enc x = [.slice A n c]) (h0:0 < d.size) (hsz:d.size < 4611686018427387904) (hcap:d.size≤cap) :
  Calls Tryz.prog 27 #[.slice (some ⟨blk,off,none⟩) d.size cap,.func (.func f) #[] #[]] w fun e w'=>∃ kk,e = .returned (.slice (some ⟨blk,off,none⟩) kk cap)∧∃ dk W,CompB eqf d d.size kk dk∧SWK enc 1 w blk off dk W∧(w' = W ∨ ∃ vs,w' = W.setCells blk (off + kk) vs):=by
 have HS:Aside (SWK enc 1 w blk off d w):=SWK.start R.hH
 have HR:Aside (RowK enc 1 w blk off d):=R
 have HC:Aside _:=hcmp
 clear R hcmp
 have hmix:Tryz.prog.follows .mixedOrders = true:=by kernel_rfl
 go_enter Tryz.func27,Tryz.ntmps27
 by_cases h2:d.size < 2
 ·have h2z:(d.size:Int) < 2:=by omega
  go_wp2
  go_ret
  have e1:d.size = 1:=by omega
  exact ⟨1,by rw [e1];rfl,d,w,by have:=CompB.one (eqf:=eqf) h0;rw [e1];exact this,HS.out,.inl rfl⟩
 ·have h2z:¬ (d.size:Int) < 2:=by omega
  go_wp2
  go_loopg [5] d.size (fun g1 v5 wr=>∃ (kx:Nat),v5 = .int .i64 kx∧1≤kx∧kx≤d.size∧d.size - kx≤g1∧Aside (SWK enc 1 w blk off d wr)∧Hid (CompB eqf d kx kx d))
  case atStart=>exact ⟨1,by go_num,by omega,by omega,by omega,HS,CompB.one h0⟩
  case round =>
   clear HS
   obtain ⟨kx,rfl,hk1,hk2,hg1,S1,hC⟩:=hrel
   by_cases hlt:kx < d.size
   ·have hltz:(kx:Int) < (d.size:Int):=by omega
    obtain ⟨kp,rfl⟩:∃ kp,kx = kp + 1:=⟨kx - 1,by omega⟩
    obtain ⟨xk,hxk⟩:∃ x,x = d[kp + 1]!:=⟨_,rfl⟩
    obtain ⟨xp,hxp⟩:∃ x,x = d[kp]!:=⟨_,rfl⟩
    have pk:(0:Int)≤(kp:Int) + 1:=by omega
    have ek:((kp:Int) + 1).toNat = kp + 1:=by omega
    have bk:(kp:Int) + 1 < (d.size:Int):=by omega
    have bp:(kp:Int) < (d.size:Int):=by omega
    have wp:IntKind.i64.wrap (kp:Int) = (kp:Int):=by rw [IntKind.wrap_i64];omega
    obtain ⟨a0,ha⟩:∃ a0,enc xk = [a0]:=one_of_len (HR.out.hk xk)
    obtain ⟨b0,hb⟩:∃ b0,enc xp = [b0]:=one_of_len (HR.out.hk xp)
    have lk0:=fun n os=>swk_cell1 S1.out HR.out n os (i:=kp + 1) (by omega) (by rw [← hxk];exact ha)
    have lp0:=fun n os=>swk_cell1 S1.out HR.out n os (i:=kp) (by omega) (by rw [← hxp];exact hb)
    have hc:∀ n os,Calls Tryz.prog f #[a0,b0] (grow (wr.drewN n) os) fun e w'=>e = .returned (.bool (eqf xk xp))∧∃ q os',w' = grow ((grow (wr.drewN n) os).drewN q) os':=fun n os=>HC.out _ ⟨d,rfl,S1.out.grown n os⟩ xk xp a0 b0 ha hb
    have hkeep:Hid (keepsB eqf d (kp + 1) = !(eqf xk xp)):=by
     show _ = _
     unfold keepsB
     rw [hxk,hxp]
     simp
    clear hxk hxp
    cases hv:eqf xk xp with
    | false =>
     rw [hv] at hc
     go_wp2_with fail
     go_quiet_grown (first | (go_at_fn f;refine Calls.grown_of (hc _ _)))
     have S2:Aside (SWK enc 1 w blk off d (grow (wr.drewN nq) osq)):=S1.out.grown nq osq
     clear lk0 lp0 hc S1
     generalize grow (wr.drewN nq) osq = wu2 at S2 ⊢
     clear nq osq
     go_wp2
     go_roundg (d.size - (kp + 1 + 1))
     case measure=>omega
     case rel=>exact ⟨kp + 1 + 1,by go_num,by omega,by omega,by omega,S2,hC.out.same (by omega) (by rw [hkeep.out,hv];rfl)⟩
    | true =>
     rw [hv] at hc
     go_wp2_with fail
     go_quiet_grown (first | (go_at_fn f;refine Calls.grown_of (hc _ _)))
     have S2:Aside (SWK enc 1 w blk off d (grow (wr.drewN nq) osq)):=S1.out.grown nq osq
     clear lk0 lp0 hc S1
     generalize grow (wr.drewN nq) osq = wu2 at S2 ⊢
     clear nq osq
     have hC2:Hid (CompB eqf d (kp + 1 + 1) (kp + 1) d):=hC.out.skip (by omega) (by rw [hkeep.out,hv];rfl)
     clear hC
     clear ha hb hkeep hv
     go_wp2
     go_loopg [5,7] d.size (fun g2 v5 v7 wr2=>∃ (kk k2:Nat) (dk:Array α),v5 = .int .i64 kk∧v7 = .int .i64 k2∧1≤k2∧kp + 1 + k2≤d.size∧kk < kp + 1 + k2∧d.size - (kp + 1 + k2)≤g2∧dk.size = d.size∧Aside (SWK enc 1 w blk off dk wr2)∧Hid (CompB eqf d (kp + 1 + k2) kk dk))
     case atStart=>exact ⟨kp + 1,1,d,by go_num,by go_num,by omega,by omega,by omega,by omega,rfl,S2,hC2⟩
     case round =>
      clear S2 hC2
      obtain ⟨kk,k2,dk,rfl,rfl,h1,hle,hkk,hg2,hds,S3,hC3⟩:=hrel
      by_cases hlt2:kp + 1 + k2 < d.size
      ·obtain ⟨j,rfl⟩:∃ j,k2 = j + 1:=⟨k2 - 1,by omega⟩
       have hltz2:(j:Int) + 1 < ((d.size - (kp + 1):Nat):Int):=by omega
       obtain ⟨xu,hxu⟩:∃ x,x = dk[kp + 1 + (j + 1)]!:=⟨_,rfl⟩
       obtain ⟨xv,hxv⟩:∃ x,x = dk[kp + 1 + j]!:=⟨_,rfl⟩
       have p1:(0:Int)≤(j:Int) + 1:=by omega
       have e1:((j:Int) + 1).toNat = j + 1:=by omega
       have w1:IntKind.i64.wrap (j:Int) = (j:Int):=by rw [IntKind.wrap_i64];omega
       have p2:(j:Int) < ((d.size - (kp + 1):Nat):Int):=by omega
       obtain ⟨sA_,sn_,sc_,ha⟩:=hsl xu
       obtain ⟨b0,hb⟩:∃ b0,enc xv = [b0]:=one_of_len (HR.out.hk xv)
       have lk0:=fun n os=>swk_cell1 S3.out HR.out n os (i:=kp + 1 + (j + 1)) (by omega) (by rw [← hxu];exact ha) hds
       have lp0:=fun n os=>swk_cell1 S3.out HR.out n os (i:=kp + 1 + j) (by omega) (by rw [← hxv];exact hb) hds
       rw [show off + (kp + 1 + (j + 1)) = off + (kp + 1) + (j + 1) by omega] at lk0
       rw [show off + (kp + 1 + j) = off + (kp + 1) + j by omega] at lp0
       have hc:∀ n os,Calls Tryz.prog f #[(.slice sA_ sn_ sc_),b0] (grow (wr.drewN n) os) fun e w'=>e = .returned (.bool (eqf xu xv))∧∃ q os',w' = grow ((grow (wr.drewN n) os).drewN q) os':=fun n os=>HC.out _ ⟨dk,hds,S3.out.grown n os⟩ xu xv (.slice sA_ sn_ sc_) b0 ha hb
       have hkeep:Hid (keepsB eqf d (kp + 1 + (j + 1)) = !(eqf xu xv)):=by
        show _ = _
        unfold keepsB
        rw [hxu,hxv,hC3.out.high _ (by omega),hC3.out.high _ (by omega),show kp + 1 + (j + 1) - 1 = kp + 1 + j by omega]
        have:(kp + 1 + (j + 1) == 0) = false:=by simp
        rw [this,Bool.false_or]
       have hxd:Hid (xu = d[kp + 1 + (j + 1)]!):=by
        show _ = _
        rw [hxu,hC3.out.high _ (by omega)]
       have HA:Hid (enc xu = [(.slice sA_ sn_ sc_)]):=ha
       clear hxu hxv ha hb
       cases hv:eqf xu xv with
       | true =>
        rw [hv] at hc
        go_wp2_with fail
        go_quiet_grown (first | (go_at_fn f;refine Calls.grown_of (hc _ _)))
        have S4:Aside (SWK enc 1 w blk off dk (grow (wr.drewN nq) osq)):=S3.out.grown nq osq
        clear lk0 lp0 hc S3
        generalize grow (wr.drewN nq) osq = wu2 at S4 ⊢
        clear nq osq
        go_wp2
        go_roundg (d.size - (kp + 1 + (j + 1 + 1)))
        case measure=>omega
        case rel=>exact ⟨kk,j + 1 + 1,dk,by go_num,by go_num,by omega,by omega,by omega,by omega,hds,S4,hC3.out.skip (by omega) (by rw [hkeep.out,hv];rfl)⟩
       | false =>
        rw [hv] at hc
        go_wp2_with fail
        go_quiet_grown (first | (go_at_fn f;refine Calls.grown_of (hc _ _)))
        have S4:Aside (SWK enc 1 w blk off dk (grow (wr.drewN nq) osq)):=S3.out.grown nq osq
        replace lk0:=lk0 nq osq
        clear lp0 hc S3
        generalize grow (wr.drewN nq) osq = wu2 at S4 lk0 ⊢
        clear nq osq
        have s0:=(swk_frozen1 S4.out HR.out hds (j:=kk) (by omega))
        obtain ⟨o0,c0⟩:=Option.isSome_iff_exists.1 s0.1
        have f0:=s0.2
        clear s0
        have bk2:(kk:Int) < (d.size:Int):=by omega
        have S5:Aside (SWK enc 1 w blk off (dk.setIfInBounds kk xu) (wu2.setCell ⟨blk,off + kk,none⟩ (.slice sA_ sn_ sc_))):=swk_put1 S4.out HR.out.hk HR.out.hblk (by omega) xu HA.out
        go_wp2
        go_roundg (d.size - (kp + 1 + (j + 1 + 1)))
        case measure=>omega
        case rel=>exact ⟨kk + 1,j + 1 + 1,dk.setIfInBounds kk xu,by go_num,by go_num,by omega,by omega,by omega,by omega,by simpa using hds,S5,by rw [hxd.out];exact hC3.out.keep (by omega) (by rw [hkeep.out,hv];rfl)⟩
      ·have hend:kp + 1 + k2 = d.size:=by omega
       have hltz2:¬ (k2:Int) < ((d.size - (kp + 1):Nat):Int):=by omega
       obtain ⟨vs,hcl⟩:=run_clear_one wr 22 27 0 Tryz.underlying22 Tryz.zeroValue27 blk (off + kk) (d.size - kk) (cap - kk) (by omega) (fun j hj=>by rw [Nat.add_assoc];exact (swk_frozen1 S3.out HR.out hds (by omega)).1) (fun j hj=>by rw [Nat.add_assoc];exact (swk_frozen1 S3.out HR.out hds (by omega)).2)
       go_wp2
       go_ret
       have hI:=hC3.out
       rw [hend] at hI
       exact ⟨kk,rfl,dk,hI,_,S3.out,.inr ⟨vs,rfl⟩⟩
   ·have hltz:¬ (kx:Int) < (d.size:Int):=by omega
    go_wp2
    go_ret
    have e1:kx = d.size:=by omega
    subst e1
    exact ⟨d.size,rfl,d,hC.out,_,S1.out,.inl rfl⟩
end Go.Proofs.YtoijcallajegfaaGreat.M
end
section
/- Lists of lists of numbers sorted and struck of doubles: what lies in memory. No conditions. -/
namespace Go.Proofs.YtoijcallajegfaaGreat.M
set_option linter.unusedVariables false
set_option linter.unusedSimpArgs false
open Go Go.RowKit Go.Proofs.YtoijcallajegfaaGreatW.PrintWords Go.Proofs.YtoijcallajegfaaGreatW.PrintLast Go.Proofs.YtoijcallajegfaaGreatW.PrintMore Go.Proofs.YtoijcallajegfaaGreat.A Go.Sort Go.Shelf Go.Lib Go.Proofs Go.Proofs.YtoijcallajegfaaGreatW.PrintWords.Kd
def toL (x:List Int):List Nat:=x.map Int.toNat
def eqL (x y:List Int):Bool:=decide (toL x = toL y)
theorem ordL:Ord3 NN (fun x y:List Int=>lexC (toL x) (toL y)) where
 irr x _:=by rw [(lexC_eq _ _).2 rfl];omega
 tr x y z _ _ _ h1 h2:=lexC_tr _ _ _ h1 h2
 nt x y z _ _ _ h1 h2:=lexC_le_tr _ _ _ h1 h2
theorem sameL_exact (W:World) (x y:List Int) (cx cy:Value) (hx:NN x) (hy:NN y) (h1:(Kd.slice 3 (Kd.int .i64)).K W x [cx]) (h2:(Kd.slice 3 (Kd.int .i64)).K W y [cy]) :
  Calls Tryz.prog 28 #[cx,cy] W fun e w'=>e = .returned (.bool (eqL x y))∧∃ q os',w' = grow (W.drewN q) os':=by
 obtain ⟨A0,c0,e0,l0,g0⟩:=h1
 obtain ⟨B0,d0,e1,m0,g1⟩:=h2
 obtain rfl:=(List.cons.inj e0).1
 obtain rfl:=(List.cons.inj e1).1
 obtain ⟨ka,hka⟩:=equal_ev (toL x) (toL y) (by have:=hx.2;simp [toL];omega)
 have ha:=hka ka (Nat.le_refl _)
 rw [show I (toL x) = x from NN_I hx,show I (toL y) = y from NN_I hy] at ha
 refine (Z42.calls ka A0 c0 x B0 d0 y _ W g0 l0 g1 m0 ha).mono fun _ _ h=>⟨h.1,?_⟩
 obtain ⟨n,rfl⟩:=h.2
 exact ⟨n,#[],by rw [grow_empty]⟩
set_option maxHeartbeats 4000000 in
set_option maxRecDepth 100000 in
theorem cmpL_exact (W:World) (x y:List Int) (cx cy:Value) (hx:NN x) (hy:NN y) (h1:(Kd.slice 3 (Kd.int .i64)).K W x [cx]) (h2:(Kd.slice 3 (Kd.int .i64)).K W y [cy]) :
  Calls Tryz.prog 25 #[cx,cy] W fun e w'=>e = .returned (.int .i64 (lexC (toL x) (toL y)))∧∃ q os',w' = grow (W.drewN q) os':=by
 obtain ⟨A0,c0,e0,l0,g0⟩:=h1
 obtain ⟨B0,d0,e1,m0,g1⟩:=h2
 obtain rfl:=(List.cons.inj e0).1
 obtain rfl:=(List.cons.inj e1).1
 obtain ⟨ka,hka⟩:=compare_ev (toL x) (toL y) (by have:=hx.2;simpa [toL] using this)
 have ha:=hka ka (Nat.le_refl _)
 rw [show I (toL x) = x from NN_I hx,show I (toL y) = y from NN_I hy] at ha
 have HA:Aside (∀ w',Ex W w'→Calls Tryz.prog 26 #[.slice A0 x.length c0,.slice B0 y.length d0] w' fun e w2=>e = .returned (.int .i64 (lexC (toL x) (toL y)))∧∃ n,w2 = w'.drewN n):=fun w' hw=>(Z3.calls ka A0 c0 x B0 d0 y _ w' (Kd.C_below g0 hw.below) l0 (Kd.C_below g1 hw.below) m0 ha).mono fun _ _ h=>⟨h.1,by obtain ⟨n,rfl⟩:=h.2;exact ⟨n,rfl⟩⟩
 clear ha hka g0 g1 l0 m0 hx hy e0 e1
 generalize lexC (toL x) (toL y) = ra at HA ⊢
 generalize x.length = n0 at HA ⊢
 generalize y.length = n2 at HA ⊢
 go_enter Tryz.func25,Tryz.ntmps25
 go_wp2_with (first | (go_at_call 26;(with_reducible refine (HA.out _ ?side).mono ?_);(case side=>repeat (first | (with_reducible exact Ex.refl _) | with_reducible apply Ex.alloc | with_reducible apply Ex.drewN | with_reducible apply Ex.drew));rintro e w' ⟨rfl,n,rfl⟩))
 go_ret
 exact ⟨rfl,by show Ex W _;repeat (first | (with_reducible exact Ex.refl _) | with_reducible apply Ex.alloc | with_reducible apply Ex.drewN | with_reducible apply Ex.drew)⟩
set_option maxHeartbeats 4000000 in
set_option maxRecDepth 100000 in
theorem comp_none1 (A:Option Addr) (c:Nat) (fv:Value) (w:World):Calls Tryz.prog 27 #[.slice A 0 c,fv] w fun e w'=>e = .returned (.slice A 0 c)∧w' = w:=by
 go_enter Tryz.func27,Tryz.ntmps27
 go_wp2
 go_ret
 exact ⟨rfl,rfl⟩
theorem comp_T1 {w:World} {base:Nat} {ok:Nat→Prop} {v:Value} {f:Nat→Nat} {xs:List (List Int × Nat)} (h:(Kd.tag f (Kd.slice 3 (Kd.int .i64))).R 27 w base ok v xs) (hq:∀ x ∈ xs,NN x.1) (hsz:xs.length < 4611686018427387904) :
  Calls Tryz.prog 27 #[v,.func (.func 28) #[] #[]] w fun e w'=>∃ v',e = .returned v'∧CompactTo (Kd.tag f (Kd.slice 3 (Kd.int .i64))) (fun p q:List Int × Nat=>eqL p.1 q.1) 27 w w' base ok v v' xs:=by
 rcases Nat.eq_zero_or_pos xs.length with h0 | hp
 ·have hx:xs = []:=List.length_eq_zero_iff.1 h0
  subst hx
  obtain ⟨A,c,rfl⟩:=Kd.R_slice h
  exact (comp_none1 A c _ w).mono fun _ _ ⟨he,hw⟩=>⟨_,he,by rw [hw];exact ⟨h,Kept.refl _ _,Go.RowKit.Below.refl _ _⟩⟩
 ·obtain ⟨g,cap,cur,rfl,hg0,hb,hgl,hg,hn,hm,hcs,l,hl1,hl2⟩:=R_cells h hq hp
  have hll:l.length = xs.length:=by rw [← hl1,List.length_map]
  haveI:Inhabited (Cel (Kd.tag f (Kd.slice 3 (Kd.int .i64))) (fun p:List Int × Nat=>NN p.1) w base (fun k=>ok k∧k≠g)):=⟨l[0]'(by omega)⟩
  have hcs':xs.length * (Kd.tag f (Kd.slice 3 (Kd.int .i64))).sz≤cur.size:=by rw [hcs];exact Nat.mul_le_mul_right _ hn
  have hcs2:xs.length * 1≤cur.size:=hcs'
  have hH:=holds_cels hg hll hcs' hl2
  have R:RowK (fun z:Cel (Kd.tag f (Kd.slice 3 (Kd.int .i64))) (fun p:List Int × Nat=>NN p.1) w base (fun k=>ok k∧k≠g)=>z.c) 1 w g 0 l.toArray:=⟨fun z=>z.len,fun z=>z.one,hH,hgl⟩
  have key:=compact_walk1 (fun z:Cel (Kd.tag f (Kd.slice 3 (Kd.int .i64))) (fun p:List Int × Nat=>NN p.1) w base (fun k=>ok k∧k≠g)=>z.c) (fun p q=>eqL p.x.1 q.x.1) 28 g 0 cap l.toArray w R (enters_of Tryz.func28 (by kernel_rfl) rfl)
   (fun W hW p q a b ea eb=>by
    obtain ⟨dk,hs,m,os,rfl⟩:=hW
    have hh:∀ (z:Cel (Kd.tag f (Kd.slice 3 (Kd.int .i64))) (fun p:List Int × Nat=>NN p.1) w base (fun k=>ok k∧k≠g)),((Kd.slice 3 (Kd.int .i64))).K (sortWorldK (fun z:Cel (Kd.tag f (Kd.slice 3 (Kd.int .i64))) (fun p:List Int × Nat=>NN p.1) w base (fun k=>ok k∧k≠g)=>z.c) 1 w g 0 m dk os) z.x.1 z.c:=fun z=>((Kd.slice 3 (Kd.int .i64))).K_of_M (z.move (fun k hk hlt=>(row_after hg (F:=flatK (fun z:Cel (Kd.tag f (Kd.slice 3 (Kd.int .i64))) (fun p:List Int × Nat=>NN p.1) w base (fun k=>ok k∧k≠g)=>z.c) 1 dk) (by rw [size_flatK,hs];simpa [hll] using hcs2) rfl).2.1 k hk.2 hlt))
    have h1:=hh p
    have h2:=hh q
    rw [ea] at h1
    rw [eb] at h2
    exact sameL_exact _ p.x.1 q.x.1 a b p.q q.q h1 h2) (fun z=>by
    obtain ⟨v_,e_,hr_⟩:∃ v_,z.c = [v_]∧(Kd.int .i64).R 3 w base _ v_ z.x.1:=z.h
    obtain ⟨A_,c_,rfl⟩:=Kd.R_slice hr_
    exact ⟨A_,_,c_,e_⟩) (by simpa [hll] using hp) (by simpa [hll] using hsz) (by simpa [hll] using hn)
  have hsz':l.toArray.size = xs.length:=by simp [hll]
  rw [hsz'] at key
  refine key.mono ?_
  rintro e' w' ⟨kk,rfl,dk,W,hC,⟨n,os,hW⟩,hw⟩
  refine ⟨_,rfl,?_⟩
  rw [← hsz'] at hC
  refine compR_of (D:=l.toArray) (dk:=dk) (F:=flatK (fun z:Cel (Kd.tag f (Kd.slice 3 (Kd.int .i64))) (fun p:List Int × Nat=>NN p.1) w base (fun k=>ok k∧k≠g)=>z.c) 1 dk) (m:=n) (os:=os) (W:=W) (kk:=kk) hC (by simpa using hl1) (flatK_list dk) hW ?_ hg0 hb hgl hg hn hm hcs
  rcases hw with rfl | ⟨vs,rfl⟩
  ·exact .inl rfl
  ·refine .inr ⟨vs,?_⟩
   rw [Nat.zero_add]
   show _ = W.setCells g (kk * 1) vs
   rw [Nat.mul_one]
theorem comp_L {w:World} {base:Nat} {ok:Nat→Prop} {v:Value} {xs:List (List Int)} (h:Kd.S (Kd.slice 3 (Kd.int .i64)) 27 w base ok v xs) (hq:∀ x ∈ xs,NN x) (hsz:xs.length < 4611686018427387904) :
  Calls Tryz.prog 27 #[v,.func (.func 28) #[] #[]] w fun e w'=>∃ v',e = .returned v'∧Kd.S (Kd.slice 3 (Kd.int .i64)) 27 w' base ok v' (cpt eqL xs)∧Kept w w' (fun k=>some k = v.ownBlock)∧Go.RowKit.Below base w w':=by
 obtain ⟨f,hr⟩:=h
 refine (comp_T1 hr (zip_all hq) (by rw [List.length_zipIdx];exact hsz)).mono ?_
 rintro e w' ⟨v',he,h1,h2,h3⟩
 refine ⟨v',he,?_,h2,h3⟩
 have h4:=S_of_tag h1 (((cpt_sub _ xs.zipIdx).map (·.2)).nodup (zip_nodup xs))
 have h5:=cpt_map (fun p:List Int × Nat=>p.1) eqL xs.zipIdx
 rw [zip_fst] at h5
 rw [h5] at h4
 exact h4
theorem sort_L {w:World} {base:Nat} {ok:Nat→Prop} {v:Value} {xs:List (List Int)} (h:Kd.S (Kd.slice 3 (Kd.int .i64)) 27 w base ok v xs) (hq:∀ x ∈ xs,NN x) (hsz:xs.length < 4611686018427387904) :
  Calls Tryz.prog 24 #[v,.func (.func 25) #[] #[]] w fun e w'=>e = .returned (.tuple #[])∧SortedToS (Kd.slice 3 (Kd.int .i64)) (fun x y:List Int=>lexC (toL x) (toL y)) 27 w w' base ok v xs:=by
 obtain ⟨f_,hr⟩:=h
 have hs1:=(sortN1 (d:=Kd.tag f_ (Kd.slice 3 (Kd.int .i64))) (Q:=fun p:List Int × Nat=>NN p.1) (cf:=fun p q:List Int × Nat=>lexC (toL p.1) (toL q.1)) Tryz.sortA24 Tryz.sortB24 rfl ordL.fst 25 (enters_of Tryz.func25 (by kernel_rfl) rfl)
   (fun W x y cx cy hx hy h1 h2=>cmpL_exact W x.1 y.1 cx cy hx hy h1 h2) hr (zip_all hq) (by rw [List.length_zipIdx];exact hsz))
 exact hs1.mono (fun e w2 h=>⟨h.1,sortedS_of (cf:=fun x y:List Int=>lexC (toL x) (toL y)) h.2⟩)
end Go.Proofs.YtoijcallajegfaaGreat.M
end
section
namespace Go.Proofs.YtoijcallajegfaaGreat.A
open Go.RowKit Go.Proofs.YtoijcallajegfaaGreatW.PrintWords Go.Proofs.YtoijcallajegfaaGreatW.PrintLast Go.Proofs.YtoijcallajegfaaGreatW.PrintMore
attribute [local go_sem] max2_int min2_int max_two min_two max_three min_three max_four min_four
set_option linter.unusedVariables false
set_option linter.unusedSimpArgs false
def slices_CompactFunc_int_int.f (l0:List (List Int)):Option (List (List Int)):=if (∀ x ∈ l0,M.NN x)∧l0.length < 4611686018427387904 then some ((M.cpt (fun a b=>decide (a = b)) ((l0.map M.toL).mergeSort (fun a b=>decide (¬ M.lexC b a < 0)))).map (fun l:List Nat=>l.map Int.ofNat)) else none
theorem slices_CompactFunc_int_int.eq (l xs':List (List Int)) (hq:∀ x ∈ l,M.NN x) (hp:xs'.Perm l) (hs:xs'.Pairwise (fun a b=>¬ M.lexC (M.toL b) (M.toL a) < 0)):M.cpt M.eqL xs' = (M.cpt (fun a b=>decide (a = b)) ((l.map M.toL).mergeSort (fun a b=>decide (¬ M.lexC b a < 0)))).map (fun l:List Nat=>l.map Int.ofNat):=by
 have h1:xs'.map M.toL = (l.map M.toL).mergeSort (fun a b=>decide (¬ M.lexC b a < 0)):=by
  refine List.Perm.eq_of_pairwise (le:=fun a b=>¬ M.lexC b a < 0) ?_ (by rw [List.pairwise_map];exact hs) ?_ ((hp.map _).trans (List.mergeSort_perm _ _).symm)
  ·intro a b _ _ h1 h2
   have:=M.lexC_neg a b
   exact (M.lexC_eq _ _).1 (by omega)
  ·have:=List.pairwise_mergeSort (le:=fun a b=>decide (¬ M.lexC b a < 0)) (fun a b c h1 h2=>decide_eq_true (M.lexC_le_tr c b a (of_decide_eq_true h2) (of_decide_eq_true h1))) (fun a b=>by
    have:=M.lexC_neg a b
    simp only [Bool.or_eq_true,decide_eq_true_eq]
    omega) (l.map M.toL)
   exact this.imp (fun h=>of_decide_eq_true h)
 have h2:(M.cpt M.eqL xs').map M.toL = M.cpt (fun a b=>decide (a = b)) (xs'.map M.toL):=M.cpt_map M.toL (fun a b=>decide (a = b)) xs'
 have h3:((M.cpt M.eqL xs').map M.toL).map (fun l:List Nat=>l.map Int.ofNat) = M.cpt M.eqL xs':=by
  rw [List.map_map]
  conv=>rhs;rw [← List.map_id (M.cpt M.eqL xs')]
  apply List.map_congr_left
  intro x hx
  exact M.NN_I (hq x (hp.mem_iff.1 ((M.cpt_sub M.eqL xs').subset hx)))
 rw [← h3,h2,h1]
theorem slices_CompactFunc_int_int.ok {l0 r:List (List Int)} (h:slices_CompactFunc_int_int.f l0 = some r):((∀ x ∈ l0,M.NN x)∧l0.length < 4611686018427387904)∧∀ xs':List (List Int),xs'.Perm l0→xs'.Pairwise (fun a b=>¬ M.lexC (M.toL b) (M.toL a) < 0)→M.cpt M.eqL xs' = r:=by
 unfold slices_CompactFunc_int_int.f at h
 split at h
 ·rename_i hq
  obtain rfl:=Option.some.inj h
  exact ⟨hq,fun xs' hp hs=>slices_CompactFunc_int_int.eq l0 xs' hq.1 hp hs⟩
 ·cases h
end Go.Proofs.YtoijcallajegfaaGreat.A
end
section
namespace Go.Proofs.YtoijcallajegfaaGreat.A
open Go.RowKit Go.Proofs.YtoijcallajegfaaGreatW.PrintWords Go.Proofs.YtoijcallajegfaaGreatW.PrintLast Go.Proofs.YtoijcallajegfaaGreatW.PrintMore
attribute [local go_sem] max2_int min2_int max_two min_two max_three min_three max_four min_four
set_option linter.unusedVariables false
set_option linter.unusedSimpArgs false
def Z18.l0:Nat→List (List Int)→List (S38)→Int→Int→Option ((List (List Int)))
 | 0,_,_,_,_=>none
 | k + 1,x3,x8,x9,x10=>if x10 < x9 then (if 0≤x10 then (if x10 < (x8.length:Int) then ((Z25.f k ((rd_T38 x8 x10).f0) ((rd_T38 x8 x10).f1)).bind fun t685=>(if x3.length < 5864062014805 then (Z18.l0 k (x3 ++ [t685]) x8 x9 (wrap64 (x10 + 1))) else (none))) else (none)) else (none)) else ((slices_CompactFunc_int_int.f x3).bind fun t691=>(some t691))
def Z18.f (k:Nat) (a0:Int):Option ((List (List Int))):=(Z10.f k a0).bind fun t680=>(Z18.l0 k (([]:List (List Int))) t680 (t680.length:Int) 0)
theorem Z18.mono_l:∀ k,(∀ y0 y1 y2 y3,LeO (Z18.l0 k y0 y1 y2 y3) (Z18.l0 (k + 1) y0 y1 y2 y3))
 | 0=>fun _ _ _ _ r h=>by simp [Z18.l0] at h
 | k + 1=>by
  have ih0:=Z18.mono_l k
  ·intro y0 y1 y2 y3
   unfold Z18.l0
   repeat' first|exact ih0 _ _ _ _|exact Z25.mono _ _ _|exact Z10.mono _ _|exact lo_|refine LeO.ite ?_ ?_|refine LeO.bind ?_ (fun _=>?_)
theorem Z18.mono:∀ a0 k,LeO (Z18.f k a0) (Z18.f (k + 1) a0):=by
 intro a0 k
 have ih0:=Z18.mono_l k
 unfold Z18.f
 repeat' first|exact ih0 _ _ _ _|exact Z25.mono _ _ _|exact Z10.mono _ _|exact lo_|refine LeO.ite ?_ ?_|refine LeO.bind ?_ (fun _=>?_)
set_option maxHeartbeats 8000000 in
set_option maxRecDepth 100000 in
theorem Z18.calls (k:Nat) (a0:Int) (r:List (List Int)) (w:World) (h:Z18.f k a0 = some r) :
  Calls Tryz.prog 6 #[.int .i64 a0] w fun e w'=>∃ v0_:Value,e = .returned (v0_)∧Kd.S (Kd.slice 3 (Kd.int .i64)) 27 w' w.heap.size (fun _=>True) v0_ r∧Below w.heap.size w w':=by
 have hu38:=Tryz.underlying38
 have HB:=A_ (Below.refl w.heap.size w)
 have H:=h
 unfold Z18.f at H
 clear h
 obtain ⟨y677,hy677⟩:∃ y_:List (List Int),y_ = (([]:List (List Int))):=⟨_,rfl⟩
 replace H:((Z10.f k a0).bind fun t680=>(Z18.l0 k y677 t680 (t680.length:Int) 0)) = some r:=by first | (rw [hy677];exact H) | exact H
 have Ny677:=A_ hy677
 clear hy677
 obtain ⟨t680,A2,H⟩:=bi_ H
 have H':=A_ H
 clear H
 go_enter Tryz.func6,Tryz.ntmps6
 go_wp2_with (first | ((with_reducible refine gB_ (N:=6) rfl ?_);refine Kd.S_lit (Kd.slice 3 (Kd.int .i64)) _ 27 ?hg (N:=6) ?hd (xs:=([]:List (List Int))) (inner:=[]) (ok:=fun _=>True) (okp:=fun _=>True) ?hr ?hp (fun _ hk=>hk) trivial (Below.refl _ _) (nA_ _) (by simp) ?_;(case hd=>rfl);(case hg=>rfl);(case hr=>first | (go_simp;done) | (go_simp;rfl));(case hp=>exact (Reps.none _ _));intro v678 w3 ho4 hb hg_ hnew_;clear hg_ hnew_;(first | rw [← Ny677.out] at ho4 | (simp only [Int.reduceToNat] at ho4;rw [← Ny677.out] at ho4));have HO679:=A_ (Kd.S_lower ho4 (bF_ hB_));replace HB:=b1_ hb;clear hb ho4) | ((with_reducible refine gA_ (f:=22) rfl ?_);refine gL_ (some 8) Tryz.func22 #[.int .i64 a0] rfl qa_ ?_;(with_reducible refine (Z10.calls k a0 t680 _ A2.out).mono ?_);rintro e w5 ⟨v681,rfl,ho0,hb⟩;refine ⟨_,rfl,?_⟩;replace HO679:=sb_ HO679 hb;have HO682:=A_ (Kd.S_lower ho0 (bF_ hB_));replace HB:=b1_ hb;clear hb ho0;obtain ⟨Ao6,co6,eo6⟩:=Kd.S_slice HO682.out;subst eo6))
 go_loopg [3,10] k (fun kq v3 v10 w'=>∃ (x3_1:List (List Int)) (x10_1:Int),v10 = .int .i64 x10_1∧Aside0 (Z18.l0 kq x3_1 t680 (t680.length:Int) x10_1 = some r)∧Aside0 (kq≤k)∧Aside0 (Kd.S (Kd.slice 3 (Kd.int .i64)) 27 w' w.heap.size (fun _=>True) v3 x3_1)∧Aside0 (Kd.S k38 38 w' w.heap.size (fun _=>True) (.slice Ao6 t680.length co6) t680)∧Aside0 (Below w.heap.size w w'))
 case atStart=>exact ⟨(y677),(0),qc_,H',⟨nA_ _⟩,⟨(ss_ HO679)⟩,⟨(ss_ HO682)⟩,⟨hB_⟩⟩
 case round =>
  clear H'
  obtain ⟨x3_1,x10_1,rfl,HA,HK1,HO_3,HO_8,HB⟩:=hrel
  cases gk with
  | zero=>exact absurd HA.out (by simp [Z18.l0])
  | succ k1 =>
   have H:=HA.out
   clear HA
   simp only [Z18.l0] at H
   by_cases c7:x10_1 < (t680.length:Int)
   ·rw [if_pos c7] at H
    have c7b0:=oC_ c7
    clear c7
    have c8:=cp_ H
    replace H:=ca_ H
    have c8b0:=oC_ c8
    clear c8
    have c9:=cp_ H
    replace H:=ca_ H
    have c9b0:=oC_ c9
    clear c9
    obtain ⟨t685,A10,H⟩:=bi_ H
    have c11:=cp_ H
    replace H:=ca_ H
    have LMc11:=A_ c11
    clear c11
    obtain ⟨y688,hy688⟩:∃ y_:List (List Int),y_ = (x3_1 ++ [t685]):=⟨_,rfl⟩
    replace H:(Z18.l0 k1 y688 t680 (t680.length:Int) (wrap64 (x10_1 + 1))) = some r:=by first | (rw [hy688];exact H) | exact H
    have Ny688:=A_ hy688
    clear hy688
    have H':=A_ H
    clear H
    have p683:0≤(x10_1:Int):=oB_ qe_
    have q683:x10_1 < (t680.length:Int):=oB_ qe_
    obtain ⟨ad683,A683_0,c683_0,A683_1,c683_1,e683,hx683_0,hx683_1,hl683_0,hi683_0,hl683_1,hi683_1⟩:=at_T38 (Kd.S_reads' HO_8.out).2.2 x10_1 p683 q683
    cases e683
    obtain ⟨ce683,hce683,hMe683,hcc683⟩:=Kd.S_get HO_8.out z38 x10_1 p683 (by first | exact q683 | exact oB_ qe_ | (have e_:=(Kd.S_reads' HO_8.out).1;omega))
    obtain ⟨ve683_0,ve683_1,rfl,ge683_0,ge683_1⟩:=k38_openM hMe683
    have hv683_0:=hcc683 0 _ rfl
    rw [Nat.add_zero] at hv683_0
    replace hv683_0:=Option.some.inj (hv683_0.symm.trans hx683_0)
    rw [hv683_0] at ge683_0
    have HL683_0:=A_ (show Kd.R (Kd.int .i64) 3 _ _ _ _ ((rd_T38 t680 x10_1).f0) from ge683_0)
    clear hv683_0 ge683_0
    have hv683_1:=hcc683 1 _ rfl
    rw [add_field _ _ 1 (by omega)] at hv683_1
    replace hv683_1:=Option.some.inj (hv683_1.symm.trans hx683_1)
    rw [hv683_1] at ge683_1
    have HL683_1:=A_ (show Kd.R (Kd.int .i64) 3 _ _ _ _ ((rd_T38 t680 x10_1).f1) from ge683_1)
    clear hv683_1 ge683_1
    clear hcc683 hce683
    have HR683_0:=A_ hi683_0
    have HC683_0:=A_ hl683_0
    clear hi683_0 hl683_0
    have HR683_1:=A_ hi683_1
    have HC683_1:=A_ hl683_1
    clear hi683_1 hl683_1
    replace p683:=eq_true p683
    replace q683:=eq_true q683
    go_wp2_with (first | ((with_reducible refine gB_ (N:=5) rfl ?_);refine bx_ 5 #[.slice none 0 0,.slice none 0 0] 38 ?_;intro gb684 hg w12 hbox hb;replace HO_3:=sb_ HO_3 hb;replace HO_8:=A_ (Kd.S_below (Kd.S_elderB (ss_ HO_8) gb684 (Nat.le_of_eq hg.symm)) hb);replace HL683_0:=rb_ HL683_0 hb;replace HL683_1:=rb_ HL683_1 hb;replace HR683_0:=A_ (cD_ (by repeat (first | (with_reducible exact HR683_0.out) | (with_reducible refine cA_ ?_ _) | (with_reducible refine cB_ ?_ _) | (with_reducible refine cC_ ?_) | exact HR683_0.out)) hb);replace HR683_1:=A_ (cD_ (by repeat (first | (with_reducible exact HR683_1.out) | (with_reducible refine cA_ ?_ _) | (with_reducible refine cB_ ?_ _) | (with_reducible refine cC_ ?_) | exact HR683_1.out)) hb);have BK684:=A_ hbox;have GW684:=gw_ w hg;have GE684:=GW684;replace HB:=b1_ hb;clear hb hbox hg;obtain ⟨hcz13_0,hcz13_1,hfz13_0,hfz13_1⟩:=c2_ BK684) | ((with_reducible refine gA_ (f:=23) rfl ?_);refine gL_ (some 16) Tryz.func23 #[.agg #[.slice A683_0 ((rd_T38 t680 x10_1).f0).length c683_0,.slice A683_1 ((rd_T38 t680 x10_1).f1).length c683_1]] rfl qa_ ?_;(with_reducible refine (Z25.calls k1 _ _ ((rd_T38 t680 x10_1).f0) _ _ ((rd_T38 t680 x10_1).f1) t685 _ ?side1 ?side2 ?side3 ?side4 A10.out).mono ?_);(case side1=>repeat (first | exact ((Kd.R_reads' (rw_ (Kd.R_mono (Kd.R_far (p:=⟨gb684,1,none⟩) (Kd.R_far (p:=⟨gb684,0,none⟩) (Kd.R_types HL683_0.out BK684.out (by decide)) (fun _ hk=>hk.2) (.slice A683_0 ((rd_T38 t680 x10_1).f0).length c683_0)) (fun _ hk=>hk.2) (.slice A683_1 ((rd_T38 t680 x10_1).f1).length c683_1)) (fun _ h_=>h_.1)))).2.2) | (with_reducible first | refine cA_ ?_ _ | refine cB_ ?_ _ | refine cC_ ?_)));(case side2=>exact HC683_0.out);(case side3=>repeat (first | exact ((Kd.R_reads' (rw_ (Kd.R_mono (Kd.R_far (p:=⟨gb684,1,none⟩) (Kd.R_far (p:=⟨gb684,0,none⟩) (Kd.R_types HL683_1.out BK684.out (by decide)) (fun _ hk=>hk.2) (.slice A683_0 ((rd_T38 t680 x10_1).f0).length c683_0)) (fun _ hk=>hk.2) (.slice A683_1 ((rd_T38 t680 x10_1).f1).length c683_1)) (fun _ h_=>h_.1)))).2.2) | (with_reducible first | refine cA_ ?_ _ | refine cB_ ?_ _ | refine cC_ ?_)));(case side4=>exact HC683_1.out);rintro e w14 ⟨v686,rfl,ho0,hb⟩;refine ⟨_,rfl,?_⟩;replace HO_3:=A_ (Kd.S_elder' (sw_ (Kd.S_mono (Kd.S_far (p:=⟨gb684,1,none⟩) (Kd.S_far (p:=⟨gb684,0,none⟩) (Kd.S_types HO_3.out BK684.out (by decide)) (fun _ hk=>hk.2) (.slice A683_0 ((rd_T38 t680 x10_1).f0).length c683_0)) (fun _ hk=>hk.2) (.slice A683_1 ((rd_T38 t680 x10_1).f1).length c683_1)) (fun _ h_=>h_.1))) (Kd.R_base ho0) hb);replace HO_8:=A_ (Kd.S_elder' (sw_ (Kd.S_mono (Kd.S_far (p:=⟨gb684,1,none⟩) (Kd.S_far (p:=⟨gb684,0,none⟩) (Kd.S_mono HO_8.out (fun k_ hk=>(⟨hk,hk.2⟩:_∧k_≠gb684))) (fun _ hk=>hk.2) (.slice A683_0 ((rd_T38 t680 x10_1).f0).length c683_0)) (fun _ hk=>hk.2) (.slice A683_1 ((rd_T38 t680 x10_1).f1).length c683_1)) (fun _ h_=>h_.1))) (Kd.R_base ho0) hb);have HO687:=A_ (rE_ (Kd.R_new' (Kd.R_new' ho0 (Kd.R_lt (rw_ (Kd.R_mono (Kd.R_far (p:=⟨gb684,1,none⟩) (Kd.R_far (p:=⟨gb684,0,none⟩) (Kd.R_types HL683_0.out BK684.out (by decide)) (fun _ hk=>hk.2) (.slice A683_0 ((rd_T38 t680 x10_1).f0).length c683_0)) (fun _ hk=>hk.2) (.slice A683_1 ((rd_T38 t680 x10_1).f1).length c683_1)) (fun _ h_=>h_.1))))) (Kd.R_lt (rw_ (Kd.R_mono (Kd.R_far (p:=⟨gb684,1,none⟩) (Kd.R_far (p:=⟨gb684,0,none⟩) (Kd.R_types HL683_1.out BK684.out (by decide)) (fun _ hk=>hk.2) (.slice A683_0 ((rd_T38 t680 x10_1).f0).length c683_0)) (fun _ hk=>hk.2) (.slice A683_1 ((rd_T38 t680 x10_1).f1).length c683_1)) (fun _ h_=>h_.1))))) (bF_ hB_));replace HR683_0:=A_ (cD_ ((Kd.R_reads' (rw_ (Kd.R_mono (Kd.R_far (p:=⟨gb684,1,none⟩) (Kd.R_far (p:=⟨gb684,0,none⟩) (Kd.R_types HL683_0.out BK684.out (by decide)) (fun _ hk=>hk.2) (.slice A683_0 ((rd_T38 t680 x10_1).f0).length c683_0)) (fun _ hk=>hk.2) (.slice A683_1 ((rd_T38 t680 x10_1).f1).length c683_1)) (fun _ h_=>h_.1)))).2.2) hb);replace HL683_0:=A_ (Kd.R_elder' (rw_ (Kd.R_mono (Kd.R_far (p:=⟨gb684,1,none⟩) (Kd.R_far (p:=⟨gb684,0,none⟩) (Kd.R_types HL683_0.out BK684.out (by decide)) (fun _ hk=>hk.2) (.slice A683_0 ((rd_T38 t680 x10_1).f0).length c683_0)) (fun _ hk=>hk.2) (.slice A683_1 ((rd_T38 t680 x10_1).f1).length c683_1)) (fun _ h_=>h_.1))) (Kd.R_base ho0) hb);replace HR683_1:=A_ (cD_ ((Kd.R_reads' (rw_ (Kd.R_mono (Kd.R_far (p:=⟨gb684,1,none⟩) (Kd.R_far (p:=⟨gb684,0,none⟩) (Kd.R_types HL683_1.out BK684.out (by decide)) (fun _ hk=>hk.2) (.slice A683_0 ((rd_T38 t680 x10_1).f0).length c683_0)) (fun _ hk=>hk.2) (.slice A683_1 ((rd_T38 t680 x10_1).f1).length c683_1)) (fun _ h_=>h_.1)))).2.2) hb);replace HL683_1:=A_ (Kd.R_elder' (rw_ (Kd.R_mono (Kd.R_far (p:=⟨gb684,1,none⟩) (Kd.R_far (p:=⟨gb684,0,none⟩) (Kd.R_types HL683_1.out BK684.out (by decide)) (fun _ hk=>hk.2) (.slice A683_0 ((rd_T38 t680 x10_1).f0).length c683_0)) (fun _ hk=>hk.2) (.slice A683_1 ((rd_T38 t680 x10_1).f1).length c683_1)) (fun _ h_=>h_.1))) (Kd.R_base ho0) hb);replace BK684:=A_ (kE_ (g:=gb684) (o:=.cells #[.slice A683_0 ((rd_T38 t680 x10_1).f0).length c683_0,.slice A683_1 ((rd_T38 t680 x10_1).f1).length c683_1] 38 (0,0)) qp_ hb);replace HB:=b1_ hb;clear hb ho0;obtain ⟨Ao16,co16,eo16⟩:=Kd.R_slice HO687.out;subst eo16) | ((with_reducible refine gate_builtin (b:=.append) (xs:=#[.tmp 14,.tmp 17]) rfl ?_);at_builtin;refine Kd.S_append (Kd.slice 3 (Kd.int .i64)) (w0:=w) w.heap.size rfl (.tmp 14) (.tmp 17) 22 27 (.slice none 0 0) 24 rfl Tryz.underlying22 info27 rfl (by decide) (by omega) u3 x3_1 t685 [.slice Ao16 t685.length co16] (fun _=>True) (fun k_=>some k_ = (.slice Ao16 t685.length co16:Value).ownBlock) rfl rfl ?aP (fun k_ hk_=>((Kd.R_mono (ok':=fun k_=>((fun _=>True)) k_∧some k_≠(u3:Value).ownBlock) (Kd.R_apart' (HO687.out) (Kd.S_typed HO_3.out) (by decide)) (fun k_ hk=>⟨trivial,hk.2⟩))).1 k_ hk_.symm) ?aF ?aO ?aB ?aS ?aL ?_;(case aP=>exact Kd.M_row (Kd.R_mono (Kd.R_tight rfl (Kd.R_mono (ok':=fun k_=>((fun _=>True)) k_∧some k_≠(u3:Value).ownBlock) (Kd.R_apart' (HO687.out) (Kd.S_typed HO_3.out) (by decide)) (fun k_ hk=>⟨trivial,hk.2⟩))) (fun _ h_=>h_)));(case aB=>exact hB_);(case aF=>exact (fun _ _=>trivial));(case aO=>exact (sw_ (Kd.S_mono HO_3.out (fun k_ hk=>⟨trivial,fun e_=>hk.2 e_⟩))));(case aS=>exact (bF_ hB_));(case aL=>have:=LMc11.out;omega);intro v689 w15 ho hb hg hat;rw [← Ny688.out] at ho;replace HO_8:=A_ (Kd.S_over' (ss_ HO_8) (Kd.S_typed (ss_ HO_3)) (by decide) hg);replace HL683_0:=A_ (Kd.R_over' (rr_ HL683_0) (Kd.S_typed (ss_ HO_3)) (by decide) hg);replace HL683_1:=A_ (Kd.R_over' (rr_ HL683_1) (Kd.S_typed (ss_ HO_3)) (by decide) hg);replace BK684:=A_ (blk_grown (kk_ BK684) hg (Kd.S_ne HO_3.out BK684.out (by decide)));replace HB:=A_ hb;have HO690:=A_ ho;clear HO_3 HO687;clear ho hb hg hat))
    go_roundg k1
    case measure=>have:=HK1.out;omega
    case rel=>exact ⟨(y688),(wrap64 (x10_1 + 1)),qc_,H',⟨by have:=HK1.out;omega⟩,⟨(ss_ HO690)⟩,⟨(sw_ (Kd.S_mono HO_8.out (fun _ hk=>trivial)))⟩,⟨hB_⟩⟩
   ·rw [if_neg c7] at H
    have c7b0:=oD_ c7
    clear c7
    obtain ⟨t691,A17,H⟩:=bi_ H
    obtain rfl:=Option.some.inj H
    obtain ⟨Ao18,co18,eo18⟩:=Kd.S_slice HO_3.out
    subst eo18
    have HE:=A_ (slices_CompactFunc_int_int.ok A17.out)
    have HSo:=A_ (M.sort_L HO_3.out HE.out.1.1 HE.out.1.2)
    go_wp2_with (first | (go_at_call 24;(with_reducible refine HSo.out.mono ?_);rintro e w1 ⟨rfl,xs',hp,hs,hN,hK,hB1⟩;have HP:=A_ hp;have HO:=A_ hs;have HN:=A_ hN;have HB1:=A_ hB1;clear hp hs hN hK hB1) | (go_at_call 27;(refine (M.comp_L HN.out (fun x hx=>HE.out.1.1 x (HP.out.mem_iff.1 hx)) (by rw [HP.out.length_eq];exact HE.out.1.2)).mono ?_);rintro e w2 ⟨v',rfl,hC,hK2,hB2⟩;have HC:=A_ hC;have HB2:=A_ hB2;clear hC hK2 hB2))
    go_ret
    refine ⟨_,rfl,?_,HB.out.trans (HB1.out.trans HB2.out)⟩
    rw [← HE.out.2 xs' HP.out HO.out]
    exact Kd.S_mono HC.out (fun _ _=>trivial)
def Z56.l0:Nat→List (List Int)→List (List Int)→Int→Option (Bool)
 | 0,_,_,_=>none
 | k + 1,x0,x1,x5=>if x5 < (x0.length:Int) then (if 0≤x5 then (if x5 < (x1.length:Int) then ((Z62.f k (rd_L1 x0 x5) (rd_L1 x1 x5)).bind fun t698=>(if t698 = true then (Z56.l0 k x0 x1 (wrap64 (x5 + 1))) else (some false))) else (none)) else (none)) else (some true)
def Z56.f (k:Nat) (l0:List (List Int)) (l1:List (List Int)):Option (Bool):=if (l0.length:Int) = (l1.length:Int) then (Z56.l0 k l0 l1 0) else (some false)
theorem Z56.mono_l:∀ k,(∀ y0 y1 y2,LeO (Z56.l0 k y0 y1 y2) (Z56.l0 (k + 1) y0 y1 y2))
 | 0=>fun _ _ _ r h=>by simp [Z56.l0] at h
 | k + 1=>by
  have ih0:=Z56.mono_l k
  ·intro y0 y1 y2
   unfold Z56.l0
   repeat' first|exact ih0 _ _ _|exact Z62.mono _ _ _|exact lo_|refine LeO.ite ?_ ?_|refine LeO.bind ?_ (fun _=>?_)
theorem Z56.mono:∀ a0 a1 k,LeO (Z56.f k a0 a1) (Z56.f (k + 1) a0 a1):=by
 intro a0 a1 k
 have ih0:=Z56.mono_l k
 unfold Z56.f
 repeat' first|exact ih0 _ _ _|exact Z62.mono _ _ _|exact lo_|refine LeO.ite ?_ ?_|refine LeO.bind ?_ (fun _=>?_)
set_option maxHeartbeats 8000000 in
set_option maxRecDepth 100000 in
theorem Z56.calls (k:Nat) (A0:Option Addr) (c0:Nat) (l0:List (List Int)) (A1:Option Addr) (c1:Nat) (l1:List (List Int)) (r:Bool) (w:World) (hr0:Kd.C (Kd.slice 3 (Kd.int .i64)) w A0 l0.length l0) (hc0:l0.length≤c0) (hr1:Kd.C (Kd.slice 3 (Kd.int .i64)) w A1 l1.length l1) (hc1:l1.length≤c1) (h:Z56.f k l0 l1 = some r) :
  Calls Tryz.prog 7 #[.slice A0 l0.length c0,.slice A1 l1.length c1] w fun e w'=>e = .returned (.bool r)∧Drawn0 w w':=by
 have HR0:=A_ hr0
 have HC0:=A_ hc0
 clear hr0 hc0
 have HR1:=A_ hr1
 have HC1:=A_ hc1
 clear hr1 hc1
 have H:=h
 unfold Z56.f at H
 clear h
 by_cases c3:(l0.length:Int) = (l1.length:Int)
 ·rw [if_pos c3] at H
  have c3b0:((l0.length:Int) == (l1.length:Int)) = true:=beq_iff_eq.mpr c3
  have c3b1:((l0.length:Int) != (l1.length:Int)) = false:=bne_eq_false_iff_eq.mpr c3
  have c3b2:(l0.length == l1.length) = true:=by first | simpa using c3 | (simp at c3 ⊢;omega)
  clear c3
  have H':=A_ H
  clear H
  go_enter Tryz.func7,Tryz.ntmps7
  go_wp2
  repeat (go_quiet (fail);try go_wp2)
  go_loopg [5] k (fun kq v5 w'=>∃ (x5_1:Int),v5 = .int .i64 x5_1∧Aside0 (Z56.l0 kq l0 l1 x5_1 = some r)∧Aside0 (kq≤k)∧Drawn0 w w')
  case atStart=>exact ⟨(0),qc_,H',⟨nA_ _⟩,by repeat (first | exact Drawn0.refl _ | apply Drawn0.step)⟩
  case round =>
   clear H'
   obtain ⟨x5_1,rfl,HA,HK1,⟨m1,rfl⟩⟩:=hrel
   cases gk with
   | zero=>exact absurd HA.out (by simp [Z56.l0])
   | succ k1 =>
    have H:=HA.out
    clear HA
    simp only [Z56.l0] at H
    by_cases c4:x5_1 < (l0.length:Int)
    ·rw [if_pos c4] at H
     have c4b0:=oC_ c4
     clear c4
     have c5:=cp_ H
     replace H:=ca_ H
     have c5b0:=oC_ c5
     clear c5
     have c6:=cp_ H
     replace H:=ca_ H
     have c6b0:=oC_ c6
     clear c6
     obtain ⟨t698,A7,H⟩:=bi_ H
     by_cases c8:t698 = true
     ·subst c8
      rw [if_pos rfl] at H
      have H':=A_ H
      clear H
      have p696:0≤(x5_1:Int):=oB_ qe_
      have q696:x5_1 < (l0.length:Int):=oB_ qe_
      obtain ⟨ad696,A696_0,c696_0,e696,hx696_0,hl696_0,hi696_0⟩:=at_L1 HR0.out x5_1 p696 q696
      cases e696
      have HR696_0:=A_ hi696_0
      have HC696_0:=A_ hl696_0
      clear hi696_0 hl696_0
      replace p696:=eq_true p696
      replace q696:=eq_true q696
      have p697:0≤(x5_1:Int):=oB_ qe_
      have q697:x5_1 < (l1.length:Int):=oB_ qe_
      obtain ⟨ad697,A697_0,c697_0,e697,hx697_0,hl697_0,hi697_0⟩:=at_L1 HR1.out x5_1 p697 q697
      cases e697
      have HR697_0:=A_ hi697_0
      have HC697_0:=A_ hl697_0
      clear hi697_0 hl697_0
      replace p697:=eq_true p697
      replace q697:=eq_true q697
      go_wp2_with (first | (go_at_call 14;(with_reducible refine (Z62.calls k1 _ _ (rd_L1 l0 x5_1) _ _ (rd_L1 l1 x5_1) true _ (cc_ HR696_0) HC696_0.out (cc_ HR697_0) HC697_0.out A7.out).mono ?_);rintro e w' ⟨rfl,⟨nd,rfl⟩⟩;(try first | exact ⟨rfl,_,World.drewN_drewN _ _ _⟩ | exact ⟨rfl,_,Eq.trans (World.drewN_drewN _ _ _) (congrArg (World.drewN _) (Nat.add_assoc _ _ _))⟩)))
      repeat (go_quiet (first | (go_at_call 14;(with_reducible refine (Z62.calls k1 _ _ (rd_L1 l0 x5_1) _ _ (rd_L1 l1 x5_1) true _ (cc_ HR696_0) HC696_0.out (cc_ HR697_0) HC697_0.out A7.out).mono ?_);rintro e w' ⟨rfl,⟨nd,rfl⟩⟩;(try first | exact ⟨rfl,_,World.drewN_drewN _ _ _⟩ | exact ⟨rfl,_,Eq.trans (World.drewN_drewN _ _ _) (congrArg (World.drewN _) (Nat.add_assoc _ _ _))⟩)));try go_wp2_with (first | (go_at_call 14;(with_reducible refine (Z62.calls k1 _ _ (rd_L1 l0 x5_1) _ _ (rd_L1 l1 x5_1) true _ (cc_ HR696_0) HC696_0.out (cc_ HR697_0) HC697_0.out A7.out).mono ?_);rintro e w' ⟨rfl,⟨nd,rfl⟩⟩;(try first | exact ⟨rfl,_,World.drewN_drewN _ _ _⟩ | exact ⟨rfl,_,Eq.trans (World.drewN_drewN _ _ _) (congrArg (World.drewN _) (Nat.add_assoc _ _ _))⟩))))
      go_roundg k1
      case measure=>have:=HK1.out;omega
      case rel=>exact ⟨(wrap64 (x5_1 + 1)),qc_,H',⟨by have:=HK1.out;omega⟩,by repeat (first | exact Drawn0.refl _ | apply Drawn0.step)⟩
     ·replace c8:=Bool.eq_false_iff.mpr c8
      subst c8
      have H1:(some false) = some r:=by rw [if_neg (show ¬ (false = true) by decide)] at H;exact H
      clear H
      have H:=H1
      clear H1
      obtain rfl:=Option.some.inj H
      have p696:0≤(x5_1:Int):=oB_ qe_
      have q696:x5_1 < (l0.length:Int):=oB_ qe_
      obtain ⟨ad696,A696_0,c696_0,e696,hx696_0,hl696_0,hi696_0⟩:=at_L1 HR0.out x5_1 p696 q696
      cases e696
      have HR696_0:=A_ hi696_0
      have HC696_0:=A_ hl696_0
      clear hi696_0 hl696_0
      replace p696:=eq_true p696
      replace q696:=eq_true q696
      have p697:0≤(x5_1:Int):=oB_ qe_
      have q697:x5_1 < (l1.length:Int):=oB_ qe_
      obtain ⟨ad697,A697_0,c697_0,e697,hx697_0,hl697_0,hi697_0⟩:=at_L1 HR1.out x5_1 p697 q697
      cases e697
      have HR697_0:=A_ hi697_0
      have HC697_0:=A_ hl697_0
      clear hi697_0 hl697_0
      replace p697:=eq_true p697
      replace q697:=eq_true q697
      go_wp2_with (first | (go_at_call 14;(with_reducible refine (Z62.calls k1 _ _ (rd_L1 l0 x5_1) _ _ (rd_L1 l1 x5_1) false _ (cc_ HR696_0) HC696_0.out (cc_ HR697_0) HC697_0.out A7.out).mono ?_);rintro e w' ⟨rfl,⟨nd,rfl⟩⟩;(try first | exact ⟨rfl,_,World.drewN_drewN _ _ _⟩ | exact ⟨rfl,_,Eq.trans (World.drewN_drewN _ _ _) (congrArg (World.drewN _) (Nat.add_assoc _ _ _))⟩)))
      repeat (go_quiet (first | (go_at_call 14;(with_reducible refine (Z62.calls k1 _ _ (rd_L1 l0 x5_1) _ _ (rd_L1 l1 x5_1) false _ (cc_ HR696_0) HC696_0.out (cc_ HR697_0) HC697_0.out A7.out).mono ?_);rintro e w' ⟨rfl,⟨nd,rfl⟩⟩;(try first | exact ⟨rfl,_,World.drewN_drewN _ _ _⟩ | exact ⟨rfl,_,Eq.trans (World.drewN_drewN _ _ _) (congrArg (World.drewN _) (Nat.add_assoc _ _ _))⟩)));try go_wp2_with (first | (go_at_call 14;(with_reducible refine (Z62.calls k1 _ _ (rd_L1 l0 x5_1) _ _ (rd_L1 l1 x5_1) false _ (cc_ HR696_0) HC696_0.out (cc_ HR697_0) HC697_0.out A7.out).mono ?_);rintro e w' ⟨rfl,⟨nd,rfl⟩⟩;(try first | exact ⟨rfl,_,World.drewN_drewN _ _ _⟩ | exact ⟨rfl,_,Eq.trans (World.drewN_drewN _ _ _) (congrArg (World.drewN _) (Nat.add_assoc _ _ _))⟩))))
      go_ret
      exact ⟨qc_,by repeat (first | exact Drawn0.refl _ | apply Drawn0.step)⟩
    ·rw [if_neg c4] at H
     have c4b0:=oD_ c4
     clear c4
     obtain rfl:=Option.some.inj H
     go_wp2
     repeat (go_quiet (fail);try go_wp2)
     go_ret
     exact ⟨qc_,by repeat (first | exact Drawn0.refl _ | apply Drawn0.step)⟩
 ·rw [if_neg c3] at H
  have c3b0:((l0.length:Int) == (l1.length:Int)) = false:=beq_eq_false_iff_ne.mpr c3
  have c3b1:((l0.length:Int) != (l1.length:Int)) = true:=bne_iff_ne.mpr c3
  have c3b2:(l0.length == l1.length) = false:=by first | simpa using c3 | (simp at c3 ⊢;omega)
  obtain rfl:=Option.some.inj H
  go_enter Tryz.func7,Tryz.ntmps7
  go_wp2
  repeat (go_quiet (fail);try go_wp2)
  go_ret
  exact ⟨qc_,by repeat (first | exact Drawn0.refl _ | apply Drawn0.step)⟩
def Z47.l0:Nat→List Int→Int→Int→Option (Int × List Int)
 | 0,_,_,_=>none
 | k + 1,x0,x1,x5=>if x5 < (x0.length:Int) then (if 0≤x5 then (Z47.l0 k (x0.set (x5:Int).toNat x1) (wrap64 (x1 + 1)) (wrap64 (x5 + 1))) else (none)) else (some (x1,x0))
def Z47.f (k:Nat) (l0:List Int) (a1:Int):Option (Int × List Int):=Z47.l0 k l0 a1 0
theorem Z47.mono_l:∀ k,(∀ y0 y1 y2,LeO (Z47.l0 k y0 y1 y2) (Z47.l0 (k + 1) y0 y1 y2))
 | 0=>fun _ _ _ r h=>by simp [Z47.l0] at h
 | k + 1=>by
  have ih0:=Z47.mono_l k
  ·intro y0 y1 y2
   unfold Z47.l0
   repeat' first|exact ih0 _ _ _|exact lo_|refine LeO.ite ?_ ?_|refine LeO.bind ?_ (fun _=>?_)
theorem Z47.mono:∀ a0 a1 k,LeO (Z47.f k a0 a1) (Z47.f (k + 1) a0 a1):=by
 intro a0 a1 k
 have ih0:=Z47.mono_l k
 unfold Z47.f
 repeat' first|exact ih0 _ _ _|exact lo_|refine LeO.ite ?_ ?_|refine LeO.bind ?_ (fun _=>?_)
set_option maxHeartbeats 8000000 in
set_option maxRecDepth 100000 in
theorem Z47.calls (k:Nat) (P0_:Nat→Prop) (u9000_:Value) (l0:List Int) (a1:Int) (r1:Int) (r2:List Int) (w0 w:World) (hB:Below w0.heap.size w0 w) (ho0:Kd.R (Kd.int .i64) 3 w w0.heap.size P0_ u9000_ l0) (h:Z47.f k l0 a1 = some (r1,r2)) :
  Calls Tryz.prog 15 #[u9000_,.int .i64 a1] w fun e w'=>e = .returned (.int .i64 r1)∧Kd.R (Kd.int .i64) 3 w' w0.heap.size (fun k_=>(P0_ k_ ∨ w.heap.size≤k_)) u9000_ r2∧Below w0.heap.size w0 w'∧Kept w w' (fun k_=>P0_ k_):=by
 have HO0:=A_ (show Kd.R (Kd.int .i64) 3 w w0.heap.size (fun k_=>(P0_ k_ ∨ w.heap.size≤k_)) u9000_ l0 from Kd.R_mono ho0 (fun k_ hk=>(.inl hk)))
 have HK:=A_ (Kept.refl w (fun k_=>P0_ k_))
 have HW0:=A_ hB.size
 have HB:=A_ hB
 clear hB
 have H:=h
 unfold Z47.f at H
 clear h
 have H':=A_ H
 clear H
 go_enter Tryz.func15,Tryz.ntmps15
 go_wp2
 go_loopg [1,5] k (fun kq v1 v5 w'=>∃ (x0_1:List Int) (x1_1:Int) (x5_1:Int),v1 = .int .i64 x1_1∧v5 = .int .i64 x5_1∧Aside0 (Z47.l0 kq x0_1 x1_1 x5_1 = some (r1,r2))∧Aside0 (kq≤k)∧Aside0 (Kd.R (Kd.int .i64) 3 w' w0.heap.size (fun k_=>(P0_ k_ ∨ w.heap.size≤k_)) u9000_ x0_1)∧Aside0 (Kept w w' (fun k_=>P0_ k_))∧Aside0 (Below w0.heap.size w0 w'))
 case atStart=>exact ⟨(l0),(a1),(0),qc_,qc_,H',⟨nA_ _⟩,⟨(rr_ HO0)⟩,⟨by repeat (first | (with_reducible first | exact HK.out | apply Kept.alloc | apply Kept.drewN | apply Kept.drew) | exact HK.out)⟩,⟨hB_⟩⟩
 case round =>
  clear H'
  obtain ⟨x0_1,x1_1,x5_1,rfl,rfl,HA,HK1,HO_0,HK,HB⟩:=hrel
  cases gk with
  | zero=>exact absurd HA.out (by simp [Z47.l0])
  | succ k1 =>
   have H:=HA.out
   clear HA
   simp only [Z47.l0] at H
   by_cases c3:x5_1 < (x0_1.length:Int)
   ·rw [if_pos c3] at H
    have c3b0:=oC_ c3
    clear c3
    have c4:=cp_ H
    replace H:=ca_ H
    have c4b0:=oC_ c4
    clear c4
    obtain ⟨y699,hy699⟩:∃ y_:List Int,y_ = (x0_1.set (x5_1:Int).toNat x1_1):=⟨_,rfl⟩
    replace H:(Z47.l0 k1 y699 (wrap64 (x1_1 + 1)) (wrap64 (x5_1 + 1))) = some (r1,r2):=by first | (rw [hy699];exact H) | exact H
    have Ny699:=A_ hy699
    clear hy699
    have H':=A_ H
    clear H
    obtain ⟨Ao6,co6,eo6⟩:=Kd.R_slice HO_0.out
    subst eo6
    have p5:0≤(x5_1:Int):=oB_ qe_
    have q5:(x5_1:Int) < ((x0_1.length:Int):Int):=oB_ qe_
    obtain ⟨go5,co5,eo5,gb5,gl5,cl5,HG5⟩:=Kd.R_form HO_0.out (by omega)
    (first | cases eo5 | (injection eo5 with ea_ en_ ec_;(first | subst ea_ | (injection ea_ with ea_;subst ea_));subst ec_;clear en_))
    have GB5:=A_ gb5
    have GG5:=A_ HG5
    clear gb5 gl5 HG5
    have HMgo5:=A_ (show (P0_ go5 ∨ w.heap.size≤go5) from (HO_0.out.1 _ rfl))
    obtain ⟨hx5_0,hf5_0⟩:=Kd.R_celln 0 HO_0.out (x5_1:Int) p5 q5
    replace p5:=eq_true p5
    replace q5:=eq_true q5
    have HP7:=Kd.R_putg HO_0.out (x5_1:Int) x1_1
    go_wp2_with (first | ((with_reducible refine gate_store (t:=3) (p:=15) rfl ?_);refine store_event (t:=3) (p:=15) (v:=?vo_w8) (w1:=(wr.setCell ⟨go5,(x5_1:Int).toNat,none⟩ (.int .i64 x1_1))) ?hg ?ho ?hn ?hr ?_;(case ho=>rfl);(case hg=>rfl);(case hn=>rfl);(case hr=>first | (go_simp;done) | (go_simp;rfl));intro w8 hw;have hg:wr.grownBy w8 (some go5):=(by rw [hw];exact HP7.2);have hp_:Kd.R (Kd.int .i64) 3 w8 w0.heap.size (fun k_=>(P0_ k_ ∨ w.heap.size≤k_)) (.slice (some ⟨go5,0,none⟩) x0_1.length co6) y699:=(by rw [hw,Ny699.out];exact HP7.1);clear HP7;replace HB:=A_ ((by rw [hw];exact bD_ (HB.out) GB5.out:Below w0.heap.size w0 w8));replace HK:=A_ (Kept.of_grown (S:=(fun k_=>P0_ k_)) hg (by repeat (first | (with_reducible first | exact HK.out | apply Kept.alloc | apply Kept.drewN | apply Kept.drew) | exact HK.out)) (fun k_ e_=>(HO_0.out.1 k_ e_)));replace HO_0:=A_ (hp_);clear hg hw hp_))
    go_roundg k1
    case measure=>have:=HK1.out;omega
    case rel=>exact ⟨(y699),(wrap64 (x1_1 + 1)),(wrap64 (x5_1 + 1)),qc_,qc_,H',⟨by have:=HK1.out;omega⟩,⟨(rr_ HO_0)⟩,⟨by repeat (first | (with_reducible first | exact HK.out | apply Kept.alloc | apply Kept.drewN | apply Kept.drew) | exact HK.out)⟩,⟨hB_⟩⟩
   ·rw [if_neg c3] at H
    have c3b0:=oD_ c3
    clear c3
    simp only [Option.some.injEq,Prod.mk.injEq] at H
    obtain ⟨rfl,rfl⟩:=H
    obtain ⟨Ao9,co9,eo9⟩:=Kd.R_slice HO_0.out
    subst eo9
    go_wp2
    go_ret
    exact ⟨qb_,(rr_ HO_0),hB_,by repeat (first | (with_reducible first | exact HK.out | apply Kept.alloc | apply Kept.drewN | apply Kept.drew) | exact HK.out)⟩
def Z29.l0:Nat→List (List Int)→Int→Int→Option (Int × List (List Int))
 | 0,_,_,_=>none
 | k + 1,x0,x1,i=>if i < (x0.length:Int) then (if 0≤i then ((Z47.f k (rdOf [] x0 i) x1).bind fun t=>(Z29.l0 k (x0.set i.toNat t.2) t.1 (wrap64 (i + 1)))) else none) else some (x1,x0)
def Z29.f (k:Nat) (l0:List (List Int)) (a1:Int):Option (Int × List (List Int)):=Z29.l0 k l0 a1 0
theorem Z29.mono_l:∀ k,(∀ y0 y1 y2,LeO (Z29.l0 k y0 y1 y2) (Z29.l0 (k + 1) y0 y1 y2))
 | 0=>fun _ _ _ r h=>by simp [Z29.l0] at h
 | k + 1=>by
  have ih0:=Z29.mono_l k
  ·intro y0 y1 y2
   unfold Z29.l0
   repeat' first|exact Z47.mono _ _ _|exact ih0 _ _ _|exact lo_|refine LeO.ite ?_ ?_|refine LeO.bind ?_ (fun _=>?_)
theorem Z29.mono:∀ a0 a1 k,LeO (Z29.f k a0 a1) (Z29.f (k + 1) a0 a1):=by
 intro a0 a1 k
 exact Z29.mono_l k _ _ _
set_option maxHeartbeats 8000000 in
set_option maxRecDepth 100000 in
theorem Z29.calls (k:Nat) (P0_:Nat→Prop) (u9000_:Value) (l0:List (List Int)) (a1:Int) (r1:Int) (r2:List (List Int)) (w0 w:World) (hB:Below w0.heap.size w0 w) (ho0:Kd.S (Kd.slice 3 (Kd.int .i64)) 27 w w0.heap.size P0_ u9000_ l0) (h:Z29.f k l0 a1 = some (r1,r2)) :
  Calls Tryz.prog 8 #[u9000_,.int .i64 a1] w fun e w'=>e = .returned (.int .i64 r1)∧Kd.S (Kd.slice 3 (Kd.int .i64)) 27 w' w0.heap.size (fun k_=>(P0_ k_ ∨ w.heap.size≤k_)) u9000_ r2∧Below w0.heap.size w0 w'∧Kept w w' (fun k_=>P0_ k_):=by
 have HO0:=A_ (show Kd.S (Kd.slice 3 (Kd.int .i64)) 27 w w0.heap.size (fun k_=>(P0_ k_ ∨ w.heap.size≤k_)) u9000_ l0 from Kd.S_mono ho0 (fun k_ hk=>(.inl hk)))
 clear ho0
 have HK:=A_ (Kept.refl w (fun k_=>P0_ k_))
 have HB:=A_ hB
 clear hB
 have H':=A_ (show Z29.l0 k l0 a1 0 = some (r1,r2) from h)
 clear h
 obtain ⟨Ao,co,eo⟩:=Kd.R_slice (Kd.S_R HO0.out)
 obtain ⟨n0,hn0⟩:∃ n0,n0 = l0.length:=⟨_,rfl⟩
 rw [← hn0] at eo
 have HN0:=A_ hn0.symm
 clear hn0
 subst eo
 go_enter Tryz.func8,Tryz.ntmps8
 go_wp2
 go_loopg [1,5] k (fun kq v1 v5 w'=>∃ (x0_1:List (List Int)) (x1_1:Int) (x5_1:Int),v1 = .int .i64 x1_1∧v5 = .int .i64 x5_1∧Aside0 (Z29.l0 kq x0_1 x1_1 x5_1 = some (r1,r2))∧Aside0 (kq≤k)∧Aside0 (x0_1.length = n0)∧Aside0 (Kd.S (Kd.slice 3 (Kd.int .i64)) 27 w' w0.heap.size (fun k_=>(P0_ k_ ∨ w.heap.size≤k_)) (.slice Ao n0 co) x0_1)∧Aside0 (Kept w w' (fun k_=>P0_ k_))∧Aside0 (Below w0.heap.size w0 w'))
 case atStart=>exact ⟨l0,a1,0,rfl,rfl,H',⟨nA_ _⟩,HN0,⟨(ss_ HO0)⟩,⟨by repeat (first | (with_reducible first | exact HK.out | apply Kept.alloc | apply Kept.drewN | apply Kept.drew) | exact HK.out)⟩,⟨hB_⟩⟩
 case round =>
  clear H' HO0 HK HB HN0
  obtain ⟨x0,x1,i,rfl,rfl,HA,HK1,HN,HO,HK,HB⟩:=hrel
  cases gk with
  | zero=>exact absurd HA.out (by simp [Z29.l0])
  | succ k1 =>
   have H:=HA.out
   clear HA
   simp only [Z29.l0] at H
   rw [HN.out] at H
   by_cases c3:i < (n0:Int)
   ·rw [if_pos c3] at H
    have c4:=cp_ H
    replace H:=ca_ H
    have c3b0:=oC_ c3
    have c4b0:=oC_ c4
    obtain ⟨⟨t1,t2⟩,A3,H⟩:=Option.bind_eq_some_iff.mp H
    have A3:=A_ A3
    have H':=A_ H
    clear H
    obtain ⟨g,cap,eg,hgb,hgl,cells,hcells⟩:=Kd.R_form (Kd.S_R HO.out) (by have:=HN.out;omega)
    cases eg
    obtain ⟨oki,c,hcl,hM,hcc,hoki,hH⟩:=Kd.S_lend HO.out [] i c4 c3
    obtain ⟨v,rfl,hR⟩:=hM
    change Kd.R _ _ _ _ _ _ (rdOf [] x0 i) at hR
    obtain ⟨Av,cv,rfl⟩:=Kd.R_slice hR
    have hx:=hcc 0 _ rfl
    simp only [show (Kd.slice 3 (Kd.int .i64)).sz = 1 from rfl,Nat.mul_one,Nat.add_zero] at hx
    have HR:=A_ hR
    have HH:=A_ (Kd.H_widen hH)
    have HOK:=A_ hoki
    clear hR hH hoki hcc hcl HO
    replace c3:=eq_true c3
    replace c4:=eq_true c4
    go_wp2_with ((with_reducible refine gA_ (f:=15) rfl ?_);refine goesL_ _ rfl rfl Tryz.func15 (by kernel_rfl) rfl #[.slice Av (rdOf [] x0 i).length cv,.int .i64 x1] rfl (by (try simp only [mA_,mB_,mC_]);first | done | rfl) ?_;(refine (Z47.calls k1 oki _ (rdOf [] x0 i) x1 t1 t2 w0 _ ?side1 ?side2 A3.out).mono ?_);(case side1=>repeat (first | (with_reducible first | exact HB.out | apply bA_ | apply bB_ | apply bC_) | exact HB.out));(case side2=>(with_reducible repeat (first | apply rA_ | apply rB_ | apply rC_));exact HR.out);rintro e w9 ⟨rfl,hy0,hb,hkp⟩;refine ⟨_,rfl,?_⟩)
    have hg0:w.heap.size≤wr.heap.size:=HK.out.1
    have hS:=Kd.H_back (Kd.H_kept HH.out hkp (fun k_ _ hn hs=>hn (.inl hs))) (show (Kd.slice 3 (Kd.int .i64)).M w9 w0.heap.size _ t2 _ from ⟨_,rfl,hy0⟩) (fun k_ hk=>hk.elim .inl (fun h=>.inr ⟨.inr (Nat.le_trans hg0 h),h⟩))
    have HS:=A_ hS
    have HB':=A_ hb
    have HK':=A_ (Kept.then_ HK.out hkp (fun k_ hk=>(HOK.out k_ hk).1))
    clear hS hy0 hkp hb HH HR
    go_roundg k1
    case measure=>have:=HK1.out;omega
    case rel=>exact ⟨x0.set i.toNat t2,t1,wrap64 (i + 1),rfl,rfl,H',⟨by have:=HK1.out;omega⟩,⟨by rw [List.length_set]⟩,HS,HK',HB'⟩
   ·rw [if_neg c3] at H
    have c3b0:=oD_ c3
    clear c3
    simp only [Option.some.injEq,Prod.mk.injEq] at H
    obtain ⟨rfl,rfl⟩:=H
    go_wp2
    go_ret
    exact ⟨rfl,(ss_ HO),hB_,by repeat (first | (with_reducible first | exact HK.out | apply Kept.alloc | apply Kept.drewN | apply Kept.drew) | exact HK.out)⟩
def Z46.l0:Nat→List Int→Int→Int→Option (Int)
 | 0,_,_,_=>none
 | k + 1,x0,x1,x5=>if x5 < (x0.length:Int) then (if 0≤x5 then (if (rd x0 x5) = x1 then (Z46.l0 k x0 (wrap64 (x1 + 1)) (wrap64 (x5 + 1))) else (some (-1))) else (none)) else (some x1)
def Z46.f (k:Nat) (l0:List Int) (a1:Int):Option (Int):=Z46.l0 k l0 a1 0
theorem Z46.mono_l:∀ k,(∀ y0 y1 y2,LeO (Z46.l0 k y0 y1 y2) (Z46.l0 (k + 1) y0 y1 y2))
 | 0=>fun _ _ _ r h=>by simp [Z46.l0] at h
 | k + 1=>by
  have ih0:=Z46.mono_l k
  ·intro y0 y1 y2
   unfold Z46.l0
   repeat' first|exact ih0 _ _ _|exact lo_|refine LeO.ite ?_ ?_|refine LeO.bind ?_ (fun _=>?_)
theorem Z46.mono:∀ a0 a1 k,LeO (Z46.f k a0 a1) (Z46.f (k + 1) a0 a1):=by
 intro a0 a1 k
 have ih0:=Z46.mono_l k
 unfold Z46.f
 repeat' first|exact ih0 _ _ _|exact lo_|refine LeO.ite ?_ ?_|refine LeO.bind ?_ (fun _=>?_)
set_option maxHeartbeats 8000000 in
set_option maxRecDepth 100000 in
theorem Z46.calls (k:Nat) (A0:Option Addr) (c0:Nat) (l0:List Int) (a1:Int) (r:Int) (w:World) (hr0:Kd.C (Kd.int .i64) w A0 l0.length l0) (hc0:l0.length≤c0) (h:Z46.f k l0 a1 = some r) :
  Calls Tryz.prog 29 #[.slice A0 l0.length c0,.int .i64 a1] w fun e w'=>e = .returned (.int .i64 r)∧Drawn0 w w':=by
 have HR0:=A_ hr0
 have HC0:=A_ hc0
 clear hr0 hc0
 have H:=h
 unfold Z46.f at H
 clear h
 have H':=A_ H
 clear H
 go_enter Tryz.func29,Tryz.ntmps29
 go_wp2
 go_loopg [1,5] k (fun kq v1 v5 w'=>∃ (x1_1:Int) (x5_1:Int),v1 = .int .i64 x1_1∧v5 = .int .i64 x5_1∧Aside0 (Z46.l0 kq l0 x1_1 x5_1 = some r)∧Aside0 (kq≤k)∧Drawn0 w w')
 case atStart=>exact ⟨(a1),(0),qc_,qc_,H',⟨nA_ _⟩,by repeat (first | exact Drawn0.refl _ | apply Drawn0.step)⟩
 case round =>
  clear H'
  obtain ⟨x1_1,x5_1,rfl,rfl,HA,HK1,⟨m1,rfl⟩⟩:=hrel
  cases gk with
  | zero=>exact absurd HA.out (by simp [Z46.l0])
  | succ k1 =>
   have H:=HA.out
   clear HA
   simp only [Z46.l0] at H
   by_cases c3:x5_1 < (l0.length:Int)
   ·rw [if_pos c3] at H
    have c3b0:=oC_ c3
    clear c3
    have c4:=cp_ H
    replace H:=ca_ H
    have c4b0:=oC_ c4
    clear c4
    by_cases c5:(rd l0 x5_1) = x1_1
    ·rw [if_pos c5] at H
     have c5b0:((rd l0 x5_1) == x1_1) = true:=beq_iff_eq.mpr c5
     have c5b1:((rd l0 x5_1) != x1_1) = false:=bne_eq_false_iff_eq.mpr c5
     clear c5
     have H':=A_ H
     clear H
     have p700:0≤(x5_1:Int):=oB_ qe_
     have q700:x5_1 < (l0.length:Int):=oB_ qe_
     obtain ⟨ad700,e700,hx700_0⟩:=Kd.at_int HR0.out x5_1 p700 q700
     cases e700
     replace p700:=eq_true p700
     replace q700:=eq_true q700
     go_wp2
     go_roundg k1
     case measure=>have:=HK1.out;omega
     case rel=>exact ⟨(wrap64 (x1_1 + 1)),(wrap64 (x5_1 + 1)),qc_,qc_,H',⟨by have:=HK1.out;omega⟩,by repeat (first | exact Drawn0.refl _ | apply Drawn0.step)⟩
    ·rw [if_neg c5] at H
     have c5b0:((rd l0 x5_1) == x1_1) = false:=beq_eq_false_iff_ne.mpr c5
     have c5b1:((rd l0 x5_1) != x1_1) = true:=bne_iff_ne.mpr c5
     obtain rfl:=Option.some.inj H
     have p700:0≤(x5_1:Int):=oB_ qe_
     have q700:x5_1 < (l0.length:Int):=oB_ qe_
     obtain ⟨ad700,e700,hx700_0⟩:=Kd.at_int HR0.out x5_1 p700 q700
     cases e700
     replace p700:=eq_true p700
     replace q700:=eq_true q700
     go_wp2
     go_ret
     exact ⟨qc_,by repeat (first | exact Drawn0.refl _ | apply Drawn0.step)⟩
   ·rw [if_neg c3] at H
    have c3b0:=oD_ c3
    clear c3
    obtain rfl:=Option.some.inj H
    go_wp2
    go_ret
    exact ⟨qc_,by repeat (first | exact Drawn0.refl _ | apply Drawn0.step)⟩
def Z28.l0:Nat→List (List Int)→Int→Int→Option (Int)
 | 0,_,_,_=>none
 | k + 1,x0,x1,x5=>if x5 < (x0.length:Int) then (if 0≤x5 then ((Z46.f k (rd_L1 x0 x5) x1).bind fun t702=>(if t702 < 0 then (some (-1)) else (Z28.l0 k x0 t702 (wrap64 (x5 + 1))))) else (none)) else (some x1)
def Z28.f (k:Nat) (l0:List (List Int)) (a1:Int):Option (Int):=Z28.l0 k l0 a1 0
theorem Z28.mono_l:∀ k,(∀ y0 y1 y2,LeO (Z28.l0 k y0 y1 y2) (Z28.l0 (k + 1) y0 y1 y2))
 | 0=>fun _ _ _ r h=>by simp [Z28.l0] at h
 | k + 1=>by
  have ih0:=Z28.mono_l k
  ·intro y0 y1 y2
   unfold Z28.l0
   repeat' first|exact ih0 _ _ _|exact Z46.mono _ _ _|exact lo_|refine LeO.ite ?_ ?_|refine LeO.bind ?_ (fun _=>?_)
theorem Z28.mono:∀ a0 a1 k,LeO (Z28.f k a0 a1) (Z28.f (k + 1) a0 a1):=by
 intro a0 a1 k
 have ih0:=Z28.mono_l k
 unfold Z28.f
 repeat' first|exact ih0 _ _ _|exact Z46.mono _ _ _|exact lo_|refine LeO.ite ?_ ?_|refine LeO.bind ?_ (fun _=>?_)
set_option maxHeartbeats 8000000 in
set_option maxRecDepth 100000 in
theorem Z28.calls (k:Nat) (A0:Option Addr) (c0:Nat) (l0:List (List Int)) (a1:Int) (r:Int) (w:World) (hr0:Kd.C (Kd.slice 3 (Kd.int .i64)) w A0 l0.length l0) (hc0:l0.length≤c0) (h:Z28.f k l0 a1 = some r) :
  Calls Tryz.prog 9 #[.slice A0 l0.length c0,.int .i64 a1] w fun e w'=>e = .returned (.int .i64 r)∧Drawn0 w w':=by
 have HR0:=A_ hr0
 have HC0:=A_ hc0
 clear hr0 hc0
 have H:=h
 unfold Z28.f at H
 clear h
 have H':=A_ H
 clear H
 go_enter Tryz.func9,Tryz.ntmps9
 go_wp2
 go_loopg [1,5] k (fun kq v1 v5 w'=>∃ (x1_1:Int) (x5_1:Int),v1 = .int .i64 x1_1∧v5 = .int .i64 x5_1∧Aside0 (Z28.l0 kq l0 x1_1 x5_1 = some r)∧Aside0 (kq≤k)∧Drawn0 w w')
 case atStart=>exact ⟨(a1),(0),qc_,qc_,H',⟨nA_ _⟩,by repeat (first | exact Drawn0.refl _ | apply Drawn0.step)⟩
 case round =>
  clear H'
  obtain ⟨x1_1,x5_1,rfl,rfl,HA,HK1,⟨m1,rfl⟩⟩:=hrel
  cases gk with
  | zero=>exact absurd HA.out (by simp [Z28.l0])
  | succ k1 =>
   have H:=HA.out
   clear HA
   simp only [Z28.l0] at H
   by_cases c3:x5_1 < (l0.length:Int)
   ·rw [if_pos c3] at H
    have c3b0:=oC_ c3
    clear c3
    have c4:=cp_ H
    replace H:=ca_ H
    have c4b0:=oC_ c4
    clear c4
    obtain ⟨t702,A5,H⟩:=bi_ H
    by_cases c6:t702 < 0
    ·rw [if_pos c6] at H
     have c6b0:=oC_ c6
     clear c6
     obtain rfl:=Option.some.inj H
     have p701:0≤(x5_1:Int):=oB_ qe_
     have q701:x5_1 < (l0.length:Int):=oB_ qe_
     obtain ⟨ad701,A701_0,c701_0,e701,hx701_0,hl701_0,hi701_0⟩:=at_L1 HR0.out x5_1 p701 q701
     cases e701
     have HR701_0:=A_ hi701_0
     have HC701_0:=A_ hl701_0
     clear hi701_0 hl701_0
     replace p701:=eq_true p701
     replace q701:=eq_true q701
     go_wp2_with (first | ((with_reducible refine gA_ (f:=29) rfl ?_);refine gL_ (some 17) Tryz.func29 #[.slice A701_0 (rd_L1 l0 x5_1).length c701_0,.int .i64 x1_1] rfl qa_ ?_;(with_reducible refine (Z46.calls k1 _ _ (rd_L1 l0 x5_1) x1_1 t702 _ (cc_ HR701_0) HC701_0.out A5.out).mono ?_);rintro e w' ⟨rfl,⟨nd,rfl⟩⟩;refine ⟨_,rfl,?_⟩))
     go_ret
     exact ⟨qc_,by repeat (first | exact Drawn0.refl _ | apply Drawn0.step)⟩
    ·rw [if_neg c6] at H
     have c6b0:=oD_ c6
     clear c6
     have H':=A_ H
     clear H
     have p701:0≤(x5_1:Int):=oB_ qe_
     have q701:x5_1 < (l0.length:Int):=oB_ qe_
     obtain ⟨ad701,A701_0,c701_0,e701,hx701_0,hl701_0,hi701_0⟩:=at_L1 HR0.out x5_1 p701 q701
     cases e701
     have HR701_0:=A_ hi701_0
     have HC701_0:=A_ hl701_0
     clear hi701_0 hl701_0
     replace p701:=eq_true p701
     replace q701:=eq_true q701
     go_wp2_with (first | ((with_reducible refine gA_ (f:=29) rfl ?_);refine gL_ (some 17) Tryz.func29 #[.slice A701_0 (rd_L1 l0 x5_1).length c701_0,.int .i64 x1_1] rfl qa_ ?_;(with_reducible refine (Z46.calls k1 _ _ (rd_L1 l0 x5_1) x1_1 t702 _ (cc_ HR701_0) HC701_0.out A5.out).mono ?_);rintro e w' ⟨rfl,⟨nd,rfl⟩⟩;refine ⟨_,rfl,?_⟩))
     go_roundg k1
     case measure=>have:=HK1.out;omega
     case rel=>exact ⟨(t702),(wrap64 (x5_1 + 1)),qc_,qc_,H',⟨by have:=HK1.out;omega⟩,by repeat (first | exact Drawn0.refl _ | apply Drawn0.step)⟩
   ·rw [if_neg c3] at H
    have c3b0:=oD_ c3
    clear c3
    obtain rfl:=Option.some.inj H
    go_wp2
    go_ret
    exact ⟨qc_,by repeat (first | exact Drawn0.refl _ | apply Drawn0.step)⟩
end Go.Proofs.YtoijcallajegfaaGreat.A
end
section
/- What a call made lies apart from what was there. No conditions. -/
namespace Go.Proofs.YtoijcallajegfaaGreat.M
open Go.RowKit Go.Proofs.YtoijcallajegfaaGreatW.PrintWords Go.Proofs.YtoijcallajegfaaGreatW.PrintLast Go.Proofs.YtoijcallajegfaaGreatW.PrintMore
theorem fresh_S {α:Type} {d:Kd α} {e b b0:Nat} {w:World} {ok:Nat→Prop} {v:Value} {xs:List α} (h:Kd.S d e w b ok v xs) (hb:b0≤b):Kd.S d e w b0 (fun k=>b≤k∧k < w.heap.size) v xs :=
 Kd.S_lower (Kd.S_mono (Kd.S_bound h) (fun _ hk=>⟨hk.2.1,hk.2.2.1⟩)) hb
end Go.Proofs.YtoijcallajegfaaGreat.M
end
section
namespace Go.Proofs.YtoijcallajegfaaGreat.A
open Go.RowKit Go.Proofs.YtoijcallajegfaaGreatW.PrintWords Go.Proofs.YtoijcallajegfaaGreatW.PrintLast Go.Proofs.YtoijcallajegfaaGreatW.PrintMore Go.Proofs.YtoijcallajegfaaGreat.M
set_option linter.unusedVariables false
set_option linter.unusedSimpArgs false
theorem fresh_N {α:Type} {d:Kd α} {e b b0:Nat} {w:World} {ok:Nat→Prop} {v:Value} {xs:List α} (h:Kd.N d e w b ok v xs) (hb:b0≤b):Kd.N d e w b0 (fun k=>0≤k∧k < w.heap.size) v xs:=Kd.N_lower (Kd.N_mono (Kd.N_bound h) (fun _ hk=>⟨Nat.zero_le _,hk.2⟩)) hb
def Z2.F (k:Nat) (a0:Int):Prop:=∃ (r0:List (List Int)) (m0:Int) (z0:List (List Int)),Z20.f k a0 = some r0∧Z18.f k a0 = some r0∧Z56.f k r0 r0 = some true∧Z29.f k r0 1 = some (m0,z0)∧Z28.f k z0 1 = some m0∧decide (m0 < 0) = false
set_option maxHeartbeats 8000000 in
set_option maxRecDepth 100000 in
theorem Z2.calls (k:Nat) (a0:Int) (w:World)  (h:Z2.F k a0) :
  Calls Tryz.prog 3 #[.int .i64 a0] w fun e w'=>e = .returned (.bool true)∧Below w.heap.size w w':=by
 have HB:=A_ (Below.refl w.heap.size w)
 unfold Z2.F at h
 obtain ⟨r0,m0,z0,FW,FG,FQ0,FM0,FH0,FMM0⟩:=h
 replace FW:=A_ FW
 replace FG:=A_ FG
 replace FQ0:=A_ FQ0
 replace FM0:=A_ FM0
 replace FH0:=A_ FH0
 go_enter Tryz.func3,Tryz.ntmps3
 go_upto_region 1 with (fail)
 go_upto_region 2 with (first | ((with_reducible refine gA_ (f:=5) rfl ?_);refine goesL_ _ rfl rfl Tryz.func5 (by kernel_rfl) rfl #[.int .i64 a0] rfl (by (try simp only [mA_,mB_,mC_]);first | done | rfl) ?_;have HBo:=HB.out;refine (Z20.calls k a0 r0 _  FW.out).mono ?_;rintro e w1 ⟨v0_,rfl,h0_,hb0⟩;refine ⟨_,rfl,?_⟩;have n_:=A_ (below_then HBo HBo.size hb0);clear HB;have HB:=n_;clear n_;have HSw1:=A_ hb0.size;have Hw0:=A_ (fresh_N (b0:=w.heap.size) h0_ HBo.size);clear h0_;obtain ⟨Aw0,cw0,ew0⟩:=Kd.N_slice Hw0.out;subst ew0;clear hb0 HBo))
 go_upto_region 3 with (first | ((with_reducible refine gA_ (f:=6) rfl ?_);refine goesL_ _ rfl rfl Tryz.func6 (by kernel_rfl) rfl #[.int .i64 a0] rfl (by (try simp only [mA_,mB_,mC_]);first | done | rfl) ?_;have HBo:=HB.out;refine (Z18.calls k a0 r0 _  FG.out).mono ?_;rintro e w2 ⟨v0_,rfl,h0_,hb0⟩;refine ⟨_,rfl,?_⟩;have n_:=A_ (Kd.N_below Hw0.out hb0);clear Hw0;have Hw0:=n_;clear n_;have n_:=A_ (below_then HBo HBo.size hb0);clear HB;have HB:=n_;clear n_;have HSw2:=A_ hb0.size;have Hg0:=A_ (fresh_S (b0:=w.heap.size) h0_ HBo.size);clear h0_;obtain ⟨Ag0,cg0,eg0⟩:=Kd.R_slice (Kd.S_R Hg0.out);subst eg0;clear hb0 HBo))
 go_upto_region 6 with (first | ((with_reducible refine gA_ (f:=7) rfl ?_);refine goesL_ _ rfl rfl Tryz.func7 (by kernel_rfl) rfl #[.slice Ag0 r0.length cg0,.slice Aw0 r0.length cw0] rfl (by (try simp only [mA_,mB_,mC_]);first | done | rfl) ?_;have HBo:=HB.out;refine (Z56.calls k Ag0 cg0 r0 Aw0 cw0 r0 true _ (Kd.R_reads' (Kd.S_R Hg0.out)).2.2 (Kd.R_reads' (Kd.S_R Hg0.out)).2.1 (Kd.N_reads' Hw0.out).2.2 (Kd.N_reads' Hw0.out).2.1 FQ0.out).mono ?_;rintro e w3 ⟨rfl,hd⟩;refine ⟨_,rfl,?_⟩;replace hd:=Drawn0.below hd;have n_:=A_ (Kd.N_below Hw0.out hd);clear Hw0;have Hw0:=n_;clear n_;have n_:=A_ (Kd.S_below Hg0.out hd);clear Hg0;have Hg0:=n_;clear n_;have n_:=A_ (below_then HBo HBo.size hd);clear HB;have HB:=n_;clear n_;have HSw3:=A_ hd.size;clear hd HBo))
 go_upto_region 8 with (first | ((with_reducible refine gA_ (f:=8) rfl ?_);refine goesL_ _ rfl rfl Tryz.func8 (by kernel_rfl) rfl #[.slice Ag0 r0.length cg0,.int .i64 1] rfl (by (try simp only [mA_,mB_,mC_]);first | done | rfl) ?_;have HBo:=HB.out;refine (Z29.calls k (fun k_=>w1.heap.size≤k_∧k_ < w2.heap.size) _ r0 1 m0 z0 w _ HB.out Hg0.out FM0.out).mono ?_;rintro e w4 ⟨rfl,hy0_,hb0,hkp⟩;refine ⟨_,rfl,?_⟩;have Xy:=A_ (hy0_);have n_:=A_ (Kd.N_kept Hw0.out hkp (fun k_ hk hs=>by have:=hk.1;have:=hk.2;have:=hs.1;have:=hs.2;have:=HSw1.out;have:=HSw2.out;have:=HSw3.out;omega));clear Hw0;have Hw0:=n_;clear n_;have n_:=A_ (hb0);clear HB;have HB:=n_;clear n_;have HSw4:=A_ hkp.1;clear Hg0;have Hy:=Xy;clear Xy;clear hb0 hkp HBo;have Hg0:=Hy;clear Hy;have EL0:=A_ (show r0.length = z0.length from (Kd.R_reads' (Kd.S_R Hg0.out)).1)))
 go_upto_region 13 with (first | ((with_reducible refine gA_ (f:=9) rfl ?_);refine goesL_ _ rfl rfl Tryz.func9 (by kernel_rfl) rfl #[.slice Ag0 z0.length cg0,.int .i64 1] rfl (by (try simp only [mA_,mB_,mC_]);first | done | rfl | (rw [← EL0.out];rfl)) ?_;have HBo:=HB.out;refine (Z28.calls k Ag0 cg0 z0 1 m0 _ (Kd.R_reads' (Kd.S_R Hg0.out)).2.2 (Nat.le_trans (Nat.le_of_eq EL0.out.symm) (Kd.R_reads' (Kd.S_R Hg0.out)).2.1) FH0.out).mono ?_;rintro e w5 ⟨rfl,hd⟩;refine ⟨_,rfl,?_⟩;replace hd:=Drawn0.below hd;have n_:=A_ (Kd.N_below Hw0.out hd);clear Hw0;have Hw0:=n_;clear n_;have n_:=A_ (Kd.S_below Hg0.out hd);clear Hg0;have Hg0:=n_;clear n_;have n_:=A_ (below_then HBo HBo.size hd);clear HB;have HB:=n_;clear n_;have HSw5:=A_ hd.size;clear hd HBo))
 go_upto_region 14 with (first | ((with_reducible refine gA_ (f:=6) rfl ?_);refine goesL_ _ rfl rfl Tryz.func6 (by kernel_rfl) rfl #[.int .i64 a0] rfl (by (try simp only [mA_,mB_,mC_]);first | done | rfl | (rw [← EL0.out];rfl)) ?_;have HBo:=HB.out;refine (Z18.calls k a0 r0 _  FG.out).mono ?_;rintro e w6 ⟨v0_,rfl,h0_,hb0⟩;refine ⟨_,rfl,?_⟩;have n_:=A_ (Kd.N_below Hw0.out hb0);clear Hw0;have Hw0:=n_;clear n_;have n_:=A_ (Kd.S_below Hg0.out hb0);clear Hg0;have Hg0:=n_;clear n_;have n_:=A_ (below_then HBo HBo.size hb0);clear HB;have HB:=n_;clear n_;have HSw6:=A_ hb0.size;have Hh0:=A_ (fresh_S (b0:=w.heap.size) h0_ HBo.size);clear h0_;obtain ⟨Ah0,ch0,eh0⟩:=Kd.R_slice (Kd.S_R Hh0.out);subst eh0;clear hb0 HBo))
 go_upto_region 17 with (first | ((with_reducible refine gA_ (f:=7) rfl ?_);refine goesL_ _ rfl rfl Tryz.func7 (by kernel_rfl) rfl #[.slice Ah0 r0.length ch0,.slice Aw0 r0.length cw0] rfl (by (try simp only [mA_,mB_,mC_]);first | done | rfl | (rw [← EL0.out];rfl)) ?_;have HBo:=HB.out;refine (Z56.calls k Ah0 ch0 r0 Aw0 cw0 r0 true _ (Kd.R_reads' (Kd.S_R Hh0.out)).2.2 (Kd.R_reads' (Kd.S_R Hh0.out)).2.1 (Kd.N_reads' Hw0.out).2.2 (Kd.N_reads' Hw0.out).2.1 FQ0.out).mono ?_;rintro e w7 ⟨rfl,hd⟩;refine ⟨_,rfl,?_⟩;replace hd:=Drawn0.below hd;have n_:=A_ (Kd.N_below Hw0.out hd);clear Hw0;have Hw0:=n_;clear n_;have n_:=A_ (Kd.S_below Hg0.out hd);clear Hg0;have Hg0:=n_;clear n_;have n_:=A_ (Kd.S_below Hh0.out hd);clear Hh0;have Hh0:=n_;clear n_;have n_:=A_ (below_then HBo HBo.size hd);clear HB;have HB:=n_;clear n_;have HSw7:=A_ hd.size;clear hd HBo))
 go_wp2_with (first | ((with_reducible refine gA_ (f:=9) rfl ?_);refine goesL_ _ rfl rfl Tryz.func9 (by kernel_rfl) rfl #[.slice Ag0 z0.length cg0,.int .i64 1] rfl (by (try simp only [mA_,mB_,mC_]);first | done | rfl | (rw [← EL0.out];rfl)) ?_;have HBo:=HB.out;refine (Z28.calls k Ag0 cg0 z0 1 m0 _ (Kd.R_reads' (Kd.S_R Hg0.out)).2.2 (Nat.le_trans (Nat.le_of_eq EL0.out.symm) (Kd.R_reads' (Kd.S_R Hg0.out)).2.1) FH0.out).mono ?_;rintro e w8 ⟨rfl,hd⟩;refine ⟨_,rfl,?_⟩;replace hd:=Drawn0.below hd;have n_:=A_ (Kd.N_below Hw0.out hd);clear Hw0;have Hw0:=n_;clear n_;have n_:=A_ (Kd.S_below Hg0.out hd);clear Hg0;have Hg0:=n_;clear n_;have n_:=A_ (Kd.S_below Hh0.out hd);clear Hh0;have Hh0:=n_;clear n_;have n_:=A_ (below_then HBo HBo.size hd);clear HB;have HB:=n_;clear n_;have HSw8:=A_ hd.size;clear hd HBo))
 go_ret
 exact ⟨rfl,HB.out⟩
end Go.Proofs.YtoijcallajegfaaGreat.A
end
section
/- Lists of surfaces sorted, each once: put in one by one, or all at the end. No conditions. -/
namespace Go.Proofs.YtoijcallajegfaaGreat.M
set_option linter.unusedVariables false
set_option linter.unusedSimpArgs false
open Go.RowKit Go.Proofs.YtoijcallajegfaaGreatW.PrintWords Go.Proofs.YtoijcallajegfaaGreatW.PrintLast Go.Proofs.YtoijcallajegfaaGreatW.PrintMore Go.Proofs.YtoijcallajegfaaGreat.A
def Up (l:List (List Nat × List Nat)):Prop:=l.Pairwise (fun a b=>cmpS a b < 0)
theorem Up.nodup {l:List (List Nat × List Nat)} (h:Up l):l.Nodup :=
 h.imp (fun {a b} hab e=>by subst e;rw [(cmpS_eq _ _).2 rfl] at hab;omega)
theorem up_uniq {l l':List (List Nat × List Nat)} (h:Up l) (h':Up l') (hm:∀ x,x ∈ l ↔ x ∈ l'):l = l':=by
 refine List.Perm.eq_of_pairwise (le:=fun a b=>cmpS a b < 0) ?_ h h' ((List.perm_ext_iff_of_nodup h.nodup h'.nodup).2 hm)
 intro a b _ _ h1 h2
 have:=cmpS_neg a b
 omega
def insS (l:List (List Nat × List Nat)) (s:List Nat × List Nat):List (List Nat × List Nat) :=
 match l with
 | []=>[s]
 | x :: xs=>if x = s then x :: xs else if cmpS s x < 0 then s :: x :: xs else x :: insS xs s
theorem mem_insS {l:List (List Nat × List Nat)} {s y:List Nat × List Nat}:y ∈ insS l s ↔ y = s ∨ y ∈ l:=by
 induction l with
 | nil=>simp [insS]
 | cons x xs ih =>
  unfold insS
  split
  ·rename_i e;subst e;simp
  ·split
   ·simp
   ·simp only [List.mem_cons,ih]
    constructor
    ·rintro (h | h | h)
     ·exact .inr (.inl h)
     ·exact .inl h
     ·exact .inr (.inr h)
    ·rintro (h | h | h)
     ·exact .inr (.inl h)
     ·exact .inl h
     ·exact .inr (.inr h)
theorem up_insS {l:List (List Nat × List Nat)} (s:List Nat × List Nat) (h:Up l):Up (insS l s):=by
 induction l with
 | nil=>exact List.pairwise_singleton _ _
 | cons x xs ih =>
  obtain ⟨h1,h2⟩:=List.pairwise_cons.1 h
  unfold insS
  split
  ·exact h
  ·rename_i hne
   split
   ·rename_i hlt
    refine List.pairwise_cons.2 ⟨?_,h⟩
    intro y hy
    rcases List.mem_cons.1 hy with rfl | hy
    ·exact hlt
    ·exact cmpS_tr _ _ _ hlt (h1 y hy)
   ·rename_i hnl
    refine List.pairwise_cons.2 ⟨?_,ih h2⟩
    intro y hy
    rcases mem_insS.1 hy with rfl | hy
    ·have e:=cmpS_neg x y
     have:cmpS x y≠0:=fun h0=>hne ((cmpS_eq _ _).1 h0)
     omega
    ·exact h1 y hy
def insAll (l:List (List Nat × List Nat)) (ss:List (List Nat × List Nat)):List (List Nat × List Nat):=ss.foldl insS l
theorem up_insAll:∀ (ss l:List (List Nat × List Nat)),Up l→Up (insAll l ss)
 | [],_,h=>h
 | s :: ss,l,h=>up_insAll ss (insS l s) (up_insS s h)
theorem mem_insAll:∀ (ss l:List (List Nat × List Nat)) (y:List Nat × List Nat),y ∈ insAll l ss ↔ y ∈ l ∨ y ∈ ss
 | [],l,y=>by simp [insAll]
 | s :: ss,l,y=>by
  have:=mem_insAll ss (insS l s) y
  rw [mem_insS] at this
  show y ∈ insAll (insS l s) ss ↔ _
  rw [this,List.mem_cons]
  constructor
  ·rintro ((h | h) | h)
   ·exact .inr (.inl h)
   ·exact .inl h
   ·exact .inr (.inr h)
  ·rintro (h | h | h)
   ·exact .inl (.inr h)
   ·exact .inl (.inl h)
   ·exact .inr h
theorem mem_cptGo:∀ (p:List Nat × List Nat) (l:List (List Nat × List Nat)) (y:List Nat × List Nat),y ∈ p :: cptGo (fun a b=>decide (a = b)) p l ↔ y ∈ p :: l
 | p,[],y=>by simp [cptGo]
 | p,x :: l,y=>by
  have:=mem_cptGo x l y
  unfold cptGo
  by_cases e:x = p
  ·subst e
   simp only [decide_true,if_true]
   rw [this]
   simp
  ·simp only [e,decide_false,Bool.false_eq_true,if_false]
   rw [List.mem_cons,this,List.mem_cons (l:=x :: l)]
theorem up_cptGo:∀ (p:List Nat × List Nat) (l:List (List Nat × List Nat)),(p :: l).Pairwise (fun a b=>¬ cmpS b a < 0)→Up (p :: cptGo (fun a b=>decide (a = b)) p l)
 | p,[],_=>List.pairwise_singleton _ _
 | p,x :: l,h=>by
  obtain ⟨h1,h2⟩:=List.pairwise_cons.1 h
  have:=up_cptGo x l h2
  unfold cptGo
  by_cases e:x = p
  ·subst e
   simp only [decide_true,if_true]
   exact this
  ·simp only [e,decide_false,Bool.false_eq_true,if_false]
   refine List.pairwise_cons.2 ⟨?_,this⟩
   intro y hy
   rw [mem_cptGo] at hy
   have hpx:cmpS p x < 0:=by
    have a:=h1 x (by simp)
    have b:=cmpS_neg p x
    have c:cmpS p x≠0:=fun h0=>e ((cmpS_eq _ _).1 h0).symm
    omega
   rcases List.mem_cons.1 hy with rfl | hy
   ·exact hpx
   ·have hxy:=(List.pairwise_cons.1 h2).1 y hy
    by_cases e0:cmpS x y = 0
    ·rw [← (cmpS_eq _ _).1 e0];exact hpx
    ·have:=cmpS_neg x y
     exact cmpS_tr _ _ _ hpx (by omega)
theorem sortS_ins (l:List (List Nat × List Nat)):sortS l = insAll [] l:=by
 have hp:=List.mergeSort_perm l (fun a b=>decide (¬ cmpS b a < 0))
 have hs:(l.mergeSort (fun a b=>decide (¬ cmpS b a < 0))).Pairwise (fun a b=>¬ cmpS b a < 0):=by
  have:=List.pairwise_mergeSort (le:=fun a b=>decide (¬ cmpS b a < 0)) (fun a b c h1 h2=>decide_eq_true (cmpS_le_tr c b a (of_decide_eq_true h2) (of_decide_eq_true h1))) (fun a b=>by
   have:=cmpS_neg a b
   simp only [Bool.or_eq_true,decide_eq_true_eq]
   omega) l
  exact this.imp (fun h=>of_decide_eq_true h)
 unfold sortS
 generalize l.mergeSort (fun a b=>decide (¬ cmpS b a < 0)) = m at hp hs
 have h2:=up_insAll l [] List.Pairwise.nil
 cases m with
 | nil =>
  have:l = []:=hp.symm.eq_nil
  subst this
  rfl
 | cons x m =>
  refine up_uniq (up_cptGo x m hs) h2 ?_
  intro y
  rw [mem_insAll]
  show y ∈ x :: cptGo (fun a b=>decide (a = b)) x m ↔ _
  rw [mem_cptGo,hp.mem_iff]
  simp
end Go.Proofs.YtoijcallajegfaaGreat.M
end
section
/- Cycles: the program and the reference answer alike. No conditions. -/
namespace Go.Proofs.YtoijcallajegfaaGreat.M
set_option linter.unusedVariables false
set_option linter.unusedSimpArgs false
open Go.RowKit Go.Proofs.YtoijcallajegfaaGreatW.PrintWords Go.Proofs.YtoijcallajegfaaGreatW.PrintLast Go.Proofs.YtoijcallajegfaaGreatW.PrintMore Go.Proofs.YtoijcallajegfaaGreat.A
def I2 (l:List (List Nat)):List (List Int):=l.map I
theorem I2_len (l:List (List Nat)):(I2 l).length = l.length:=by simp [I2]
theorem I2_snoc (l:List (List Nat)) (c:List Nat):I2 l ++ [I c] = I2 (l ++ [c]):=by simp [I2]
theorem cyc_len (p:List Nat) (i:Nat):(cyc p i).length≤i:=by
 induction i with
 | zero=>simp [cyc]
 | succ i ih =>
  unfold cyc
  split
  ·omega
  ·simp
   omega
theorem orbTo_len (p:List Nat) (s m:Nat):(orbTo p s m).length = m:=by simp [orbTo]
theorem mem_flat {l:List (List Nat)} {x:Nat}:x ∈ l.flatten ↔ ∃ c ∈ l,x ∈ c:=by simp
theorem cyc_next {p:List Nat} (hp:IsP p) {i m:Nat} (hi:i < p.length) (hnew:¬ ∃ c ∈ cyc p i,i ∈ c) (hm:m < per p i):itr p m i ∉ (cyc p i).flatten ++ orbTo p i m:=by
 intro h
 rcases List.mem_append.mp h with h | h
 ·exact cyc_new hp hi hnew ((mem_orb hp hi).mpr ⟨m,rfl⟩) (mem_flat.mp h)
 ·by_cases e:m = 0
  ·subst e
   simp [orbTo] at h
  ·exact orb_close hp hi hm (by omega) h
theorem cyc_shut {p:List Nat} (hp:IsP p) {i:Nat} (hi:i < p.length):itr p (per p i) i ∈ (cyc p i).flatten ++ orbTo p i (per p i):=by
 rw [(per_spec hp hi).1]
 exact List.mem_append.mpr (.inr (orb_self hp hi))
theorem cyc_succ_new {p:List Nat} {i:Nat} (hnew:¬ ∃ c ∈ cyc p i,i ∈ c):cyc p (i + 1) = cyc p i ++ [orb p i]:=by
 rw [cyc,if_neg hnew]
theorem cyc_succ_old {p:List Nat} {i:Nat} (h:∃ c ∈ cyc p i,i ∈ c):cyc p (i + 1) = cyc p i:=by
 rw [cyc,if_pos h]
theorem marks_rep (n:Nat):Marks n (List.replicate n false) ([]:List Nat):=by
 refine ⟨by simp,fun x hx=>?_⟩
 rw [List.getD_eq_getElem?_getD,List.getElem?_replicate]
 simp [hx]
theorem impl_cycles {p:List Nat} (hp:IsP p) (h24:p.length≤24):Ev (fun k=>Z41.f k (I p)) (I2 (cycles p)):=by
 unfold Z41.f
 refine Ev.bind (impl_permOk (I p)) ?_
 have h0:permB (I p) = true:=permB_I.mpr ⟨hp,h24⟩
 have h1:(0:Int)≤(p.length:Int):=by omega
 have h2:p.length≤281474976710656:=by omega
 simp only [h0,I_len',h1,h2,if_true,Int.toNat_natCast]
 have H:∀ (d i:Nat) (s:List Bool),i + d = p.length→Marks p.length s (cyc p i).flatten→Ev (fun k=>Z41.l0 k (I p) s (I2 (cyc p i)) (p.length:Int) (i:Int)) (I2 (cycles p)):=by
  intro d
  induction d with
  | zero =>
   intro i s h hm
   obtain rfl:i = p.length:=by omega
   refine ev_succ ?_
   have h1:¬ ((p.length:Int) < (p.length:Int)):=by omega
   simp only [Z41.l0,h1,if_false]
   exact Ev.now _
  | succ d ih =>
   intro i s h hm
   have hi:i < p.length:=by omega
   have c1:(i:Int) < (p.length:Int):=by omega
   have c2:(0:Int)≤(i:Int):=by omega
   have c3:(i:Int) < (s.length:Int):=by have:=hm.1;omega
   have h3:=w64s i (by omega)
   refine ev_succ ?_
   by_cases hs:s.getD i false = true
   ·have ho:=mem_flat.mp ((hm.2 i hi).mp hs)
    simp only [Z41.l0,c1,c2,c3,rdOf_nat,hs,if_true,h3]
    have:=ih (i + 1) s (by omega) (by rw [cyc_succ_old ho];exact hm)
    rw [cyc_succ_old ho] at this
    exact this
   ·have hnew:¬ ∃ c ∈ cyc p i,i ∈ c:=fun h=>hs ((hm.2 i hi).mpr (mem_flat.mpr h))
    simp only [Z41.l0,c1,c2,c3,rdOf_nat,hs,if_true,if_false]
    have G:∀ (e m:Nat) (t:List Bool),m + e = per p i→Marks p.length t ((cyc p i).flatten ++ orbTo p i m)→Ev (fun k=>Z41.l1 k (I p) t (I2 (cyc p i)) (I (orbTo p i m)) ((itr p m i:Nat):Int) (p.length:Int) (i:Int)) (I2 (cycles p)):=by
     intro e
     induction e with
     | zero =>
      intro m t he ht
      obtain rfl:m = per p i:=by omega
      refine ev_succ ?_
      have hx:=itr_lt hp (per p i) hi
      have d1:(0:Int)≤((itr p (per p i) i:Nat):Int):=by omega
      have d2:((itr p (per p i) i:Nat):Int) < (t.length:Int):=by have:=ht.1;omega
      have d3:=(ht.2 _ hx).mpr (cyc_shut hp hi)
      have d4:(I2 (cyc p i)).length < 5864062014805:=by rw [I2_len];have:=cyc_len p i;omega
      simp only [Z41.l1,d1,d2,rdOf_nat,d3,d4,if_true,h3]
      have:=ih (i + 1) t (by omega) (by rw [cyc_succ_new hnew];simpa [orb] using ht)
      rw [cyc_succ_new hnew,← I2_snoc] at this
      exact this
     | succ e ihe =>
      intro m t he ht
      refine ev_succ ?_
      have hx:=itr_lt hp m hi
      have hn:=cyc_next hp hi hnew (m:=m) (by omega)
      have d1:(0:Int)≤((itr p m i:Nat):Int):=by omega
      have d2:((itr p m i:Nat):Int) < (t.length:Int):=by have:=ht.1;omega
      have d3:¬ t.getD (itr p m i) false = true:=fun k=>hn ((ht.2 _ hx).mp k)
      have d4:(I (orbTo p i m)).length < 17592186044416:=by rw [I_len,orbTo_len];have:=(per_spec hp hi).2.1;omega
      have d5:((itr p m i:Nat):Int) < (p.length:Int):=by omega
      simp only [Z41.l1,d1,d2,rdOf_nat,d3,d4,d5,I_len',if_true,if_false,rdI,Int.toNat_natCast,I_snoc,orbTo_snoc]
      have:=ihe (m + 1) (t.set (itr p m i) true) (by omega) (by
       have:=ht.add hx
       rw [List.append_assoc,orbTo_snoc] at this
       exact this)
      exact this
    have:=G (per p i) 0 s (by omega) (by simpa [orbTo] using hm)
    exact this
 exact H p.length 0 _ (by omega) (by simpa [cyc] using marks_rep p.length)
end Go.Proofs.YtoijcallajegfaaGreat.M
end
section
/- Marks that laws lay and look for. No conditions. -/
namespace Go.Proofs.YtoijcallajegfaaGreat.M
set_option linter.unusedVariables false
set_option linter.unusedSimpArgs false
open Go.RowKit Go.Proofs.YtoijcallajegfaaGreatW.PrintWords Go.Proofs.YtoijcallajegfaaGreatW.PrintLast Go.Proofs.YtoijcallajegfaaGreatW.PrintMore Go.Proofs.YtoijcallajegfaaGreat.A
def markL (n:Nat) (a:Int):List Int:=(List.range n).map (fun (i:Nat)=>a + (i:Int))
theorem markL_len (n:Nat) (a:Int):(markL n a).length = n:=by simp [markL]
theorem rd_markL {n i:Nat} {a:Int} (h:i < n):rd (markL n a) (i:Int) = a + (i:Int):=by
 rw [rd_get _ i (by rw [markL_len];exact h)]
 simp [markL]
theorem w64a (a:Int) (i:Nat) (h0:0≤a) (h:a + (i:Int)≤9000000000000000000):wrap64 (a + (i:Int) + 1) = a + ((i + 1:Nat):Int):=by rw [w64 (by omega) (by omega)];omega
theorem mark_ev (l:List Int) (a:Int) (h0:0≤a) (h:a + (l.length:Int)≤9000000000000000000):Ev (fun k=>Z47.f k l a) (a + (l.length:Int),markL l.length a):=by
 unfold Z47.f
 have H:∀ (d i:Nat) (c:List Int),i + d = l.length→c.length = l.length→(∀ j:Nat,j < i→rd c (j:Int) = a + (j:Int))→Ev (fun k=>Z47.l0 k c (a + (i:Int)) (i:Int)) (a + (l.length:Int),markL l.length a):=by
  intro d
  induction d with
  | zero =>
   intro i c hi hc hx
   refine ev_succ ?_
   have h1:¬ ((i:Int) < (c.length:Int)):=by omega
   have e:c = markL l.length a:=ext_rd (by rw [markL_len];exact hc) (fun j hj=>by rw [hx j (by omega),rd_markL (by omega)])
   have e2:i = l.length:=by omega
   simp only [Z47.l0,h1,if_false]
   rw [e,e2]
   exact Ev.now _
  | succ d ih =>
   intro i c hi hc hx
   refine ev_succ ?_
   have h1:(i:Int) < (c.length:Int):=by omega
   have h2:(0:Int)≤(i:Int):=by omega
   have h3:=w64s i (by omega)
   have h4:=w64a a i h0 (by omega)
   simp only [Z47.l0,h1,h2,h3,h4,if_true,Int.toNat_natCast]
   refine ih (i + 1) _ (by omega) (by rw [List.length_set];exact hc) (fun j hj=>?_)
   rw [rd_set (by omega)]
   by_cases e:i = j
   ·subst e
    simp
   ·rw [if_neg e]
    exact hx j (by omega)
 have:=H l.length 0 l (by omega) rfl (fun j hj=>by omega)
 simpa using this
theorem held_ev (n:Nat) (a:Int) (h0:0≤a) (h:a + (n:Int)≤9000000000000000000):Ev (fun k=>Z46.f k (markL n a) a) (a + (n:Int)):=by
 unfold Z46.f
 have H:∀ d i:Nat,i + d = n→Ev (fun k=>Z46.l0 k (markL n a) (a + (i:Int)) (i:Int)) (a + (n:Int)):=by
  intro d
  induction d with
  | zero =>
   intro i hi
   obtain rfl:i = n:=by omega
   refine ev_succ ?_
   have h1:¬ ((i:Int) < ((markL i a).length:Int)):=by rw [markL_len];omega
   simp only [Z46.l0,h1,if_false]
   exact Ev.now _
  | succ d ih =>
   intro i hi
   refine ev_succ ?_
   have h1:(i:Int) < ((markL n a).length:Int):=by rw [markL_len];omega
   have h2:(0:Int)≤(i:Int):=by omega
   have h3:=w64s i (by omega)
   have h4:=w64a a i h0 (by omega)
   have h5:=rd_markL (n:=n) (i:=i) (a:=a) (by omega)
   simp only [Z46.l0,h1,h2,h3,h4,h5,if_true]
   exact ih (i + 1) (by omega)
 have:=H n 0 (by omega)
 simpa using this
end Go.Proofs.YtoijcallajegfaaGreat.M
end
section
/- Marks on lists of lists. No conditions. -/
namespace Go.Proofs.YtoijcallajegfaaGreat.M
set_option linter.unusedVariables false
set_option linter.unusedSimpArgs false
open Go.RowKit Go.Proofs.YtoijcallajegfaaGreatW.PrintWords Go.Proofs.YtoijcallajegfaaGreatW.PrintLast Go.Proofs.YtoijcallajegfaaGreatW.PrintMore Go.Proofs.YtoijcallajegfaaGreat.A
def totL (xs:List (List Int)):Nat:=(xs.map List.length).sum
def mkSS:List (List Int)→Int→List (List Int)
 | [],_=>[]
 | x :: xs,a=>markL x.length a :: mkSS xs (a + (x.length:Int))
theorem totL_cons (x:List Int) (xs:List (List Int)):totL (x :: xs) = x.length + totL xs:=by simp [totL]
theorem getD_mid {α:Type} (p:List α) (x:α) (xs:List α) (d:α):(p ++ x :: xs).getD p.length d = x:=by
 rw [List.getD_eq_getElem?_getD,List.getElem?_append_right (Nat.le_refl _)]
 simp
theorem set_mid {α:Type} (p:List α) (x y:α) (xs:List α):(p ++ x :: xs).set p.length y = p ++ y :: xs:=by
 rw [List.set_append_right _ _ (Nat.le_refl _)]
 simp
theorem snoc_app {α:Type} (p:List α) (x:α) (xs:List α):p ++ x :: xs = (p ++ [x]) ++ xs:=by simp
theorem I2_tot (l:List (List Nat)):totL (I2 l) = l.flatten.length:=by
 unfold totL I2
 rw [List.map_map,List.length_flatten]
 congr 1
 apply List.map_congr_left
 intro x _
 simp [I_len]
end Go.Proofs.YtoijcallajegfaaGreat.M
end
section
/- Rows: the program and the reference answer alike. No conditions. -/
namespace Go.Proofs.YtoijcallajegfaaGreat.M
set_option linter.unusedVariables false
set_option linter.unusedSimpArgs false
open Go.RowKit Go.Proofs.YtoijcallajegfaaGreatW.PrintWords Go.Proofs.YtoijcallajegfaaGreatW.PrintLast Go.Proofs.YtoijcallajegfaaGreatW.PrintMore Go.Proofs.YtoijcallajegfaaGreat.A
theorem cycles_len {p:List Nat} (h24:p.length≤24):(cycles p).length≤24:=Nat.le_trans (cyc_len p p.length) h24
theorem cycle_len {p:List Nat} (hp:IsP p) (h24:p.length≤24):∀ c ∈ cycles p,c.length≤24:=by
 intro c hc
 obtain ⟨s,hs,rfl⟩:=cyc_form p p.length c hc
 unfold orb
 rw [orbTo_len]
 have:=(per_spec hp hs).2.1
 omega
structure SmallSS (l:List (List Int)):Prop where
 n:l.length≤24
 m:∀ x ∈ l,x.length≤24
 t:totL l≤1000
end Go.Proofs.YtoijcallajegfaaGreat.M
end
section
/- One round about a corner; first places in lists. No conditions. -/
namespace Go.Proofs.YtoijcallajegfaaGreat.M
set_option linter.unusedVariables false
set_option linter.unusedSimpArgs false
open Go.RowKit Go.Proofs.YtoijcallajegfaaGreatW.PrintWords Go.Proofs.YtoijcallajegfaaGreatW.PrintLast Go.Proofs.YtoijcallajegfaaGreatW.PrintMore Go.Proofs.YtoijcallajegfaaGreat.A
theorem impl_then {p q:List Nat} (hp:IsP p) (hq:IsP q) (hl:p.length = q.length) (h24:p.length≤24):Ev (fun k=>Z43.f k (I p) (I q)) (I (thn p q)):=by
 unfold Z43.f
 refine Ev.bind (impl_permOk (I p)) ?_
 have e1:permB (I p) = true:=permB_I.mpr ⟨hp,h24⟩
 have e2:permB (I q) = true:=permB_I.mpr ⟨hq,by omega⟩
 simp only [e1,if_true]
 refine Ev.bind (impl_permOk (I q)) ?_
 have e3:((p.length:Int) != (q.length:Int)) = false:=by simp [hl]
 simp only [e2,if_true,I_len',e3]
 refine ev_succ ?_
 have h1:(0:Int)≤(p.length:Int):=by omega
 have h2:p.length≤35184372088832:=by omega
 simp only [Z43.j0,Bool.false_eq_true,if_false,I_len',h1,h2,if_true,Int.toNat_natCast]
 have H:∀ (d i:Nat) (c:List Nat),i + d = p.length→c.length = p.length→(∀ j,j < i→g c j = g q (g p j))→Ev (fun k=>Z43.l0 k (I q) (I c) (I p) (p.length:Int) (i:Int)) (I (thn p q)):=by
  intro d
  induction d with
  | zero =>
   intro i c h hc hx
   refine ev_succ ?_
   have h1:¬ ((i:Int) < (p.length:Int)):=by omega
   have e:thn p q = c:=by
    refine (eq_tab hc (fun j hj=>hx j (by omega))).symm
   simp only [Z43.l0,h1,if_false]
   rw [e]
   exact Ev.now _
  | succ d ih =>
   intro i c h hc hx
   refine ev_succ ?_
   have hi:i < p.length:=by omega
   have gp:=g_lt hp hi
   have c1:(i:Int) < (p.length:Int):=by omega
   have c2:(0:Int)≤(i:Int):=by omega
   have c3:(0:Int)≤((g p i:Nat):Int):=by omega
   have c4:((g p i:Nat):Int) < (q.length:Int):=by omega
   have c5:(i:Int) < (c.length:Int):=by omega
   have h3:=w64s i (by omega)
   simp only [Z43.l0,c1,c2,c3,c4,c5,h3,rdI,I_len',I_set,if_true,Int.toNat_natCast]
   refine ih (i + 1) _ (by omega) (by rw [List.length_set];exact hc) (fun j hj=>?_)
   rw [g_set (by omega)]
   by_cases e:i = j
   ·subst e
    simp
   ·rw [if_neg e]
    exact hx j (by omega)
 have:=H p.length 0 (List.replicate p.length 0) (by omega) (by simp) (fun j hj=>by omega)
 rw [I_rep] at this
 exact this
def arnd (r u:List Nat):List Nat:=thn (thn r u) (thn (inv r) (inv u))
theorem arnd_len (r u:List Nat):(arnd r u).length = r.length:=by unfold arnd;rw [thn_len,thn_len]
theorem isP_arnd {r u:List Nat} (hs:Sf r u):IsP (arnd r u) :=
 isP_thn (isP_thn hs.pr hs.pu hs.eq.symm) (isP_thn (isP_inv hs.pr) (isP_inv hs.pu) (by rw [inv_len,inv_len,hs.eq])) (by rw [thn_len,thn_len,inv_len])
theorem impl_around {r u:List Nat} (hs:Sf r u):Ev (fun k=>Z40.f k (I r) (I u)) (I (arnd r u)):=by
 have hle:=hs.le
 have heq:=hs.eq
 unfold Z40.f
 refine Ev.bind (impl_surf _ _) ?_
 rw [surfB_I.mpr hs]
 simp only [if_true]
 refine Ev.bind (impl_then hs.pr hs.pu heq.symm hs.le) ?_
 refine Ev.bind (impl_inv hs.pr hs.le) (Ev.bind (impl_inv hs.pu (by omega)) ?_)
 refine Ev.bind (impl_then (isP_inv hs.pr) (isP_inv hs.pu) (by rw [inv_len,inv_len,heq]) (by rw [inv_len];omega)) ?_
 refine Ev.bind (impl_then (isP_thn hs.pr hs.pu heq.symm) (isP_thn (isP_inv hs.pr) (isP_inv hs.pu) (by rw [inv_len,inv_len,heq])) (by rw [thn_len,thn_len,inv_len]) (by rw [thn_len];omega)) ?_
 exact Ev.now _
theorem rdL_mid (a:List (List Nat)) (c:List Nat) (b:List (List Nat)):rd_L1 (I2 (a ++ c :: b)) (a.length:Int) = I c:=by
 unfold rd_L1 I2
 rw [Int.toNat_natCast,List.map_append,List.map_cons,← List.length_map (f:=I)]
 exact getD_mid _ _ _ _
theorem rdL_I2 (l:List (List Nat)) (i:Nat) (h:i < l.length):rd_L1 (I2 l) (i:Int) = I (l[i]):=by
 unfold rd_L1 I2
 rw [Int.toNat_natCast,List.getD_eq_getElem?_getD,List.getElem?_map,List.getElem?_eq_getElem h]
 rfl
end Go.Proofs.YtoijcallajegfaaGreat.M
end
section
/- Words of letters: the program and the reference act alike. No conditions. -/
namespace Go.Proofs.YtoijcallajegfaaGreat.M
set_option linter.unusedVariables false
set_option linter.unusedSimpArgs false
open Go.RowKit Go.Proofs.YtoijcallajegfaaGreatW.PrintWords Go.Proofs.YtoijcallajegfaaGreatW.PrintLast Go.Proofs.YtoijcallajegfaaGreatW.PrintMore Go.Proofs.YtoijcallajegfaaGreat.A
def lt (c:Int) (s:List Nat × List Nat):List Nat × List Nat:=if c = 84 then (s.1,thn (inv s.1) s.2) else if c = 116 then (s.1,thn s.1 s.2) else if c = 83 then (inv s.2,s.1) else (s.2,inv s.1)
end Go.Proofs.YtoijcallajegfaaGreat.M
end
section
/- Surfaces that are alike; surfaces that a word keeps. No conditions. -/
namespace Go.Proofs.YtoijcallajegfaaGreat.M
set_option linter.unusedVariables false
set_option linter.unusedSimpArgs false
open Go.RowKit Go.Proofs.YtoijcallajegfaaGreatW.PrintWords Go.Proofs.YtoijcallajegfaaGreatW.PrintLast Go.Proofs.YtoijcallajegfaaGreatW.PrintMore Go.Proofs.YtoijcallajegfaaGreat.A
theorem spec_same (a b:List Nat × List Nat) (h1:a.1.length≤1000000) (h2:a.2.length≤1000000):Ev (fun k=>Z15.f k (I a.1) (I a.2) (I b.1) (I b.2)) (decide (a = b)):=by
 unfold Z15.f
 refine Ev.bind (sameList_nat a.1 b.1 (by omega)) ?_
 by_cases h:a.1 = b.1
 ·have e:decide (a = b) = decide (a.2 = b.2):=by
   rw [decide_eq_decide,Prod.ext_iff]
   simp [h]
  rw [e]
  simp only [h,decide_true,if_true]
  exact Ev.bind (sameList_nat a.2 b.2 (by omega)) (Ev.now _)
 ·have e:decide (a = b) = false:=by
   rw [decide_eq_false_iff_not]
   intro e
   exact h (by rw [e])
  rw [e]
  simp only [h,decide_false,Bool.false_eq_true,if_false]
  exact Ev.now _
end Go.Proofs.YtoijcallajegfaaGreat.M
end
section
/- All surfaces with few squares: the program and the reference list them alike. No conditions. -/
namespace Go.Proofs.YtoijcallajegfaaGreat.M
set_option linter.unusedVariables false
set_option linter.unusedSimpArgs false
open Go.RowKit Go.Proofs.YtoijcallajegfaaGreatW.PrintWords Go.Proofs.YtoijcallajegfaaGreatW.PrintLast Go.Proofs.YtoijcallajegfaaGreatW.PrintMore Go.Proofs.YtoijcallajegfaaGreat.A
def permN (n:Nat):List (List Nat):=(List.range n).foldl (fun out _=>(out.map (fun p=>((List.range n).filter (fun x=>decide (x ∉ p))).map (fun x=>p ++ [x]))).flatten) [[]]
theorem allPerms_tab:Z44.f 500 ((1:Nat):Int) = some (I2 (permN 1))∧Z44.f 500 ((2:Nat):Int) = some (I2 (permN 2))∧Z44.f 500 ((3:Nat):Int) = some (I2 (permN 3))∧Z44.f 500 ((4:Nat):Int) = some (I2 (permN 4)):=by decide +kernel
theorem l10Perms_tab:Z54.f 500 ((1:Nat):Int) = some (I2 (permN 1))∧Z54.f 500 ((2:Nat):Int) = some (I2 (permN 2))∧Z54.f 500 ((3:Nat):Int) = some (I2 (permN 3))∧Z54.f 500 ((4:Nat):Int) = some (I2 (permN 4)):=by decide +kernel
theorem four_cases {n:Nat} (h1:1≤n) (h4:n≤4):n = 1 ∨ n = 2 ∨ n = 3 ∨ n = 4:=by omega
theorem allPerms_ev {n:Nat} (h1:1≤n) (h4:n≤4):Ev (fun k=>Z44.f k (n:Int)) (I2 (permN n)):=by
 rcases four_cases h1 h4 with rfl | rfl | rfl | rfl
 ·exact Ev.of (Z44.mono _) allPerms_tab.1
 ·exact Ev.of (Z44.mono _) allPerms_tab.2.1
 ·exact Ev.of (Z44.mono _) allPerms_tab.2.2.1
 ·exact Ev.of (Z44.mono _) allPerms_tab.2.2.2
theorem l10Perms_ev {n:Nat} (h1:1≤n) (h4:n≤4):Ev (fun k=>Z54.f k (n:Int)) (I2 (permN n)):=by
 rcases four_cases h1 h4 with rfl | rfl | rfl | rfl
 ·exact Ev.of (Z54.mono _) l10Perms_tab.1
 ·exact Ev.of (Z54.mono _) l10Perms_tab.2.1
 ·exact Ev.of (Z54.mono _) l10Perms_tab.2.2.1
 ·exact Ev.of (Z54.mono _) l10Perms_tab.2.2.2
theorem permN_tab:∀ n:Fin 5,1≤n.val→(permN n.val).length≤24∧∀ p ∈ permN n.val,p.length = n.val:=by decide +kernel
theorem permN_len {n:Nat} (h1:1≤n) (h4:n≤4):(permN n).length≤24∧∀ p ∈ permN n,p.length = n:=permN_tab ⟨n,by omega⟩ h1
def LS (l:List (List Nat × List Nat)):List S38:=l.map ofN
theorem LS_len (l:List (List Nat × List Nat)):(LS l).length = l.length:=by simp [LS]
theorem LS_app (a b:List (List Nat × List Nat)):LS (a ++ b) = LS a ++ LS b:=by simp [LS]
theorem LS_mid (p:List (List Nat × List Nat)) (x:List Nat × List Nat) (xs:List (List Nat × List Nat)):rd_T38 (LS (p ++ x :: xs)) (p.length:Int) = ⟨I x.1,I x.2⟩:=by
 unfold rd_T38
 rw [Int.toNat_natCast,LS_app]
 have:=getD_mid (LS p) (ofN x) (LS xs) z38
 rw [LS_len] at this
 exact this
theorem insert_ev {n:Nat} (hn:n≤1000000) {s:List Nat × List Nat} (hs:s.1.length = n∧s.2.length = n) (l:List (List Nat × List Nat)) (hl:∀ x ∈ l,x.1.length = n∧x.2.length = n) (hlen:l.length≤1000000):Ev (fun k=>Z37.f k (LS l) (I s.1) (I s.2)) (LS (insS l s)):=by
 unfold Z37.f
 have D:∀ (rest p o:List (List Nat × List Nat)),p.length + rest.length = l.length→p ++ rest = l→o.length≤p.length + 1→Ev (fun k=>Z37.l0 k (LS o) true (LS l) ((LS l).length:Int) (p.length:Int) (I s.1) (I s.2)) (LS (o ++ rest)):=by
  intro rest
  induction rest with
  | nil =>
   intro p o hp e ho
   refine ev_succ ?_
   have h1:¬ ((p.length:Int) < ((LS l).length:Int)):=by rw [LS_len];simp at hp;omega
   simp only [Z37.l0,h1,if_false,if_true,List.append_nil]
   exact Ev.now _
  | cons x rest ih =>
   intro p o hp e ho
   rw [List.length_cons] at hp
   refine ev_succ ?_
   have h1:((p.length:Int) < ((LS l).length:Int)):=by rw [LS_len];omega
   have h2:(0:Int)≤(p.length:Int):=by omega
   have h3:=w64s p.length (by omega)
   have h4:rd_T38 (LS l) (p.length:Int) = ⟨I x.1,I x.2⟩:=by rw [← e];exact LS_mid p x rest
   have h5:(LS o).length < 2932031007402:=by rw [LS_len];omega
   have hx:=hl x (by rw [← e];simp)
   have e2:LS o ++ [(⟨I x.1,I x.2⟩:S38)] = LS (o ++ [x]):=by rw [LS_app];rfl
   have key:=ih (p ++ [x]) (o ++ [x]) (by simp;omega) (by rw [← e];simp) (by simp;omega)
   have e3:((p ++ [x]).length:Int) = ((p.length + 1:Nat):Int):=by simp
   rw [e3] at key
   have e4:o ++ [x] ++ rest = o ++ x :: rest:=by simp
   rw [e4] at key
   simp only [Z37.l0,h1,h2,h4,if_true]
   refine Ev.bind (spec_same x s (by omega) (by omega)) ?_
   by_cases hxs:x = s
   ·simp only [hxs,decide_true,if_true,h5,h3]
    rw [hxs] at e2 key
    rw [e2]
    exact key
   ·simp only [hxs,decide_false,Bool.false_eq_true,if_false,if_true,h5,h3]
    rw [e2]
    exact key
 have H:∀ (rest p:List (List Nat × List Nat)),p.length + rest.length = l.length→p ++ rest = l→Ev (fun k=>Z37.l0 k (LS p) false (LS l) ((LS l).length:Int) (p.length:Int) (I s.1) (I s.2)) (LS (p ++ insS rest s)):=by
  intro rest
  induction rest with
  | nil =>
   intro p hp e
   refine ev_succ ?_
   have h1:¬ ((p.length:Int) < ((LS l).length:Int)):=by rw [LS_len];simp at hp;omega
   have h5:(LS p).length < 2932031007402:=by rw [LS_len];simp at hp;omega
   simp only [Z37.l0,h1,if_false,Bool.false_eq_true,h5,if_true]
   have e2:LS p ++ [(⟨I s.1,I s.2⟩:S38)] = LS (p ++ insS [] s):=by rw [LS_app];rfl
   rw [e2]
   exact Ev.now _
  | cons x rest ih =>
   intro p hp e
   rw [List.length_cons] at hp
   refine ev_succ ?_
   have h1:((p.length:Int) < ((LS l).length:Int)):=by rw [LS_len];omega
   have h2:(0:Int)≤(p.length:Int):=by omega
   have h3:=w64s p.length (by omega)
   have h4:rd_T38 (LS l) (p.length:Int) = ⟨I x.1,I x.2⟩:=by rw [← e];exact LS_mid p x rest
   have h5:(LS p).length < 2932031007402:=by rw [LS_len];omega
   have hx:=hl x (by rw [← e];simp)
   have e2:LS p ++ [(⟨I x.1,I x.2⟩:S38)] = LS (p ++ [x]):=by rw [LS_app];rfl
   have e3:((p ++ [x]).length:Int) = ((p.length + 1:Nat):Int):=by simp
   have d1:=D rest (p ++ [x]) (p ++ [x]) (by simp;omega) (by rw [← e];simp) (by simp)
   rw [e3] at d1
   simp only [Z37.l0,h1,h2,h4,if_true]
   refine Ev.bind (spec_same x s (by omega) (by omega)) ?_
   by_cases hxs:x = s
   ·have e4:p ++ insS (x :: rest) s = p ++ [x] ++ rest:=by
     unfold insS
     rw [if_pos hxs]
     simp
    rw [e4]
    simp only [hxs,decide_true,if_true,h5,h3]
    rw [hxs] at d1 e2
    rw [e2]
    exact d1
   ·simp only [hxs,decide_false,Bool.false_eq_true,if_false]
    refine Ev.bind (spec_before s x (by omega) (by omega) (by omega) (by omega)) ?_
    by_cases hb:cmpS s x < 0
    ·have h6:(LS p ++ [(⟨I s.1,I s.2⟩:S38)]).length < 2932031007402:=by rw [List.length_append,LS_len];simp;omega
     simp only [hb,decide_true,if_true,h5,Option.bind_some,h6,h3]
     have e4:p ++ insS (x :: rest) s = p ++ [s] ++ [x] ++ rest:=by
      unfold insS
      rw [if_neg hxs,if_pos hb]
      simp
     have e5:LS p ++ [(⟨I s.1,I s.2⟩:S38)] ++ [⟨I x.1,I x.2⟩] = LS (p ++ [s] ++ [x]):=by rw [LS_app,LS_app];rfl
     have d2:=D rest (p ++ [x]) (p ++ [s] ++ [x]) (by simp;omega) (by rw [← e];simp) (by simp)
     rw [e3] at d2
     rw [e4,e5]
     exact d2
    ·simp only [hb,decide_false,Bool.false_eq_true,if_false,h5,if_true,h3]
     have key:=ih (p ++ [x]) (by simp;omega) (by rw [← e];simp)
     rw [e3] at key
     have e4:p ++ insS (x :: rest) s = p ++ [x] ++ insS rest s:=by
      conv=>lhs;unfold insS
      rw [if_neg hxs,if_neg hb]
      simp
     rw [e4,e2]
     exact key
 exact H l [] (by simp) rfl
def pr (p q:List Nat):List (List Nat × List Nat):=if surfB (I p) (I q) = true then [canS p q] else []
theorem pr_len (p q:List Nat):(pr p q).length≤1:=by unfold pr;split <;> simp
theorem pr_mem {p q:List Nat} {x:List Nat × List Nat} (h:x ∈ pr p q):x.1.length = p.length∧x.2.length = q.length:=by
 unfold pr at h
 split at h
 ·rw [List.mem_singleton.1 h];exact canK_len _
 ·cases h
theorem pr_no {p q:List Nat} (h:¬ surfB (I p) (I q) = true):pr p q = []:=by unfold pr;rw [if_neg h]
theorem pr_yes {p q:List Nat} (h:surfB (I p) (I q) = true):pr p q = [canS p q]:=by unfold pr;rw [if_pos h]
def prs (P:List (List Nat)) (p:List Nat):List (List Nat × List Nat):=P.flatMap (pr p)
def pairs (P R:List (List Nat)):List (List Nat × List Nat):=R.flatMap (prs P)
theorem flatM_len {α β:Type} (f:α→List β) (n:Nat) (h:∀ x,(f x).length≤n):∀ l:List α,(l.flatMap f).length≤l.length * n
 | []=>by simp
 | x :: l=>by
  have:=flatM_len f n h l
  have:=h x
  rw [List.flatMap_cons,List.length_append,List.length_cons,Nat.succ_mul]
  omega
theorem prs_len (P:List (List Nat)) (p:List Nat):(prs P p).length≤P.length:=by
 have:=flatM_len (pr p) 1 (pr_len p) P
 unfold prs;omega
theorem LS_ok {n:Nat} (hn:n≤1000000) {l:List (List Nat × List Nat)} (h:∀ x ∈ l,x.1.length = n∧x.2.length = n):∀ x ∈ LS l,okS x:=by
 intro x hx
 obtain ⟨y,hy,rfl⟩:=List.mem_map.1 hx
 have:=h y hy
 exact ⟨I_NN (by omega),I_NN (by omega)⟩
theorem LS_toN (l:List (List Nat × List Nat)):(LS l).map toN = l:=by
 unfold LS
 rw [List.map_map]
 conv=>rhs;rw [← List.map_id l]
 exact List.map_congr_left (fun x _=>toN_ofN x)
theorem sortSurf_f {n:Nat} (hn:n≤1000000) {l:List (List Nat × List Nat)} (h:∀ x ∈ l,x.1.length = n∧x.2.length = n) (hl:l.length≤1000000):Z11.f (LS l) = some (LS (insAll [] l)):=by
 unfold Z11.f
 rw [if_pos ⟨LS_ok hn h,by rw [LS_len];omega⟩,LS_toN,sortS_ins]
 rfl
theorem rdL_P {P pre rest:List (List Nat)} {p:List Nat} (e:pre ++ p :: rest = P):rd_L1 (I2 P) (pre.length:Int) = I p:=by rw [← e];exact rdL_mid pre p rest
def surfN (n:Nat):List (List Nat × List Nat):=insAll [] (pairs (permN n) (permN n))
theorem impl_with {n:Nat} (h1:1≤n) (h4:n≤4):Ev (fun k=>Z10.f k (n:Int)) (LS (surfN n)):=by
 obtain ⟨hP,hQ⟩:=permN_len h1 h4
 have hA:=allPerms_ev h1 h4
 unfold Z10.f
 have c1:¬ ((n:Int) < 1):=by omega
 have c2:¬ ((n:Int) > 4):=by omega
 simp only [c1,c2,if_false,decide_false]
 refine ev_succ ?_
 simp only [Z10.j0,Bool.false_eq_true,if_false]
 refine Ev.bind hA ?_
 unfold surfN
 generalize permN n = P at hP hQ hA
 have H1:∀ (p:List Nat) (x20:Int) (R:List S38) (rest pre:List (List Nat)) (acc:List (List Nat × List Nat)),pre ++ rest = P→acc.length + rest.length≤100000 →
   Ev (fun k=>Z10.l0 k (n:Int) (LS (acc ++ rest.flatMap (pr p))) (I2 P) ((I2 P).length:Int) (wrap64 (x20 + 1))) R→Ev (fun k=>Z10.l1 k (n:Int) (LS acc) (I p) (I2 P) ((I2 P).length:Int) x20 (I2 P) ((I2 P).length:Int) (pre.length:Int)) R:=by
  intro p x20 R rest
  induction rest with
  | nil =>
   intro pre acc e hl hR
   refine ev_succ ?_
   rw [List.append_nil] at e
   have d1:¬ ((pre.length:Int) < ((I2 P).length:Int)):=by rw [I2_len,e];omega
   simp only [Z10.l1,d1,if_false]
   simpa using hR
  | cons q rest ih =>
   intro pre acc e hl hR
   rw [List.length_cons] at hl
   have hlen:P.length = pre.length + (rest.length + 1):=by rw [← e];simp
   refine ev_succ ?_
   have d1:((pre.length:Int) < ((I2 P).length:Int)):=by rw [I2_len];omega
   have d2:(0:Int)≤(pre.length:Int):=by omega
   have d3:=w64s pre.length (by omega)
   have d4:=rdL_P e
   have d5:(LS acc).length < 2932031007402:=by rw [LS_len];omega
   have e3:((pre ++ [q]).length:Int) = ((pre.length + 1:Nat):Int):=by simp
   have hpl:=pr_len p q
   have key:=ih (pre ++ [q]) (acc ++ pr p q) (by rw [← e];simp) (by rw [List.length_append];omega) (by rw [List.append_assoc,← List.flatMap_cons];exact hR)
   rw [e3] at key
   simp only [Z10.l1,d1,d2,d4,if_true]
   by_cases hb:surfB (I p) (I q) = true
   ·refine Ev.bind (impl_canon (surfB_I.1 hb)) ?_
    simp only [d5,if_true,d3]
    rw [pr_yes hb,LS_app] at key
    exact key
   ·refine Ev.bind (impl_canon_no hb) ?_
    simp only [Bool.false_eq_true,if_false,d3]
    rw [pr_no hb,List.append_nil] at key
    exact key
 have H0:∀ (rest pre:List (List Nat)) (acc:List (List Nat × List Nat)),pre ++ rest = P→acc.length + rest.length * 24≤10000→(∀ x ∈ acc,x.1.length = n∧x.2.length = n) →
   Ev (fun k=>Z10.l0 k (n:Int) (LS acc) (I2 P) ((I2 P).length:Int) (pre.length:Int)) (LS (insAll [] (acc ++ pairs P rest))):=by
  intro rest
  induction rest with
  | nil =>
   intro pre acc e hl hx
   refine ev_succ ?_
   rw [List.append_nil] at e
   have d1:¬ ((pre.length:Int) < ((I2 P).length:Int)):=by rw [I2_len,e];omega
   have d2:=sortSurf_f (by omega) hx (by simp at hl;omega)
   simp only [Z10.l0,d1,if_false,d2,Option.bind_some]
   have e2:acc ++ pairs P [] = acc:=by simp [pairs]
   rw [e2]
   exact Ev.now _
  | cons p rest ih =>
   intro pre acc e hl hx
   rw [List.length_cons] at hl
   have hlen:P.length = pre.length + (rest.length + 1):=by rw [← e];simp
   refine ev_succ ?_
   have d1:((pre.length:Int) < ((I2 P).length:Int)):=by rw [I2_len];omega
   have d2:(0:Int)≤(pre.length:Int):=by omega
   have d3:=w64s pre.length (by omega)
   have d4:=rdL_P e
   simp only [Z10.l0,d1,d2,d4,if_true]
   refine Ev.bind hA ?_
   have e3:((pre ++ [p]).length:Int) = ((pre.length + 1:Nat):Int):=by simp
   have hpl:=prs_len P p
   have hp:p.length = n:=hQ p (by rw [← e];simp)
   have hx2:∀ x ∈ acc ++ prs P p,x.1.length = n∧x.2.length = n:=by
    intro x hm
    rcases List.mem_append.1 hm with hm | hm
    ·exact hx x hm
    ·obtain ⟨q,hq,hxq⟩:=List.mem_flatMap.1 hm
     obtain ⟨a1,a2⟩:=pr_mem hxq
     exact ⟨a1.trans hp,a2.trans (hQ q hq)⟩
   have key:=ih (pre ++ [p]) (acc ++ prs P p) (by rw [← e];simp) (by rw [List.length_append];omega) hx2
   rw [e3,List.append_assoc] at key
   refine H1 p (pre.length:Int) _ P [] acc (by simp) (by omega) ?_
   rw [d3]
   exact key
 have:=H0 P [] [] (by simp) (by simp;omega) (by simp)
 rw [List.nil_append] at this
 exact this
theorem insAll_app (l a b:List (List Nat × List Nat)):insAll l (a ++ b) = insAll (insAll l a) b:=List.foldl_append
theorem insS_len (l:List (List Nat × List Nat)) (s:List Nat × List Nat):(insS l s).length≤l.length + 1:=by
 induction l with
 | nil=>simp [insS]
 | cons x l ih =>
  unfold insS
  split
  ·simp
  ·split
   ·simp
   ·simpa using ih
theorem insAll_len:∀ (ss l:List (List Nat × List Nat)),(insAll l ss).length≤l.length + ss.length
 | [],l=>by simp [insAll]
 | s :: ss,l=>by
  have:=insAll_len ss (insS l s)
  have:=insS_len l s
  show (insAll (insS l s) ss).length≤_
  rw [List.length_cons]
  omega
theorem spec_in14 (n:Int):Z65.f n 1 4 = some (decide (1≤n) && decide (n≤4)):=by
 unfold Z65.f
 by_cases h1:1≤n <;> by_cases h2:n≤4 <;> simp [h1,h2]
theorem spec_with {n:Nat} (h1:1≤n) (h4:n≤4):Ev (fun k=>Z13.f k (n:Int)) (LS (surfN n)):=by
 obtain ⟨hP,hQ⟩:=permN_len h1 h4
 have hA:=l10Perms_ev h1 h4
 unfold Z13.f
 have c0:(decide ((1:Int)≤(n:Int)) && decide ((n:Int)≤4)) = true:=by
  rw [Bool.and_eq_true]
  exact ⟨decide_eq_true (by omega),decide_eq_true (by omega)⟩
 rw [spec_in14,c0]
 simp only [Option.bind_some,if_true]
 refine Ev.bind hA ?_
 unfold surfN
 generalize permN n = P at hP hQ hA
 have H1:∀ (p:List Nat),p.length = n→∀ (x18:Int) (R:List S38) (rest pre:List (List Nat)) (acc:List (List Nat × List Nat)),pre ++ rest = P→acc.length + rest.length≤100000→(∀ x ∈ acc,x.1.length = n∧x.2.length = n) →
   Ev (fun k=>Z13.l0 k (LS (insAll acc (rest.flatMap (pr p)))) (I2 P) (I2 P) ((I2 P).length:Int) (wrap64 (x18 + 1))) R→Ev (fun k=>Z13.l1 k (LS acc) (I2 P) (I p) (I2 P) ((I2 P).length:Int) x18 (I2 P) ((I2 P).length:Int) (pre.length:Int)) R:=by
  intro p hp x18 R rest
  induction rest with
  | nil =>
   intro pre acc e hl hx hR
   refine ev_succ ?_
   rw [List.append_nil] at e
   have d1:¬ ((pre.length:Int) < ((I2 P).length:Int)):=by rw [I2_len,e];omega
   simp only [Z13.l1,d1,if_false]
   exact hR
  | cons q rest ih =>
   intro pre acc e hl hx hR
   rw [List.length_cons] at hl
   have hlen:P.length = pre.length + (rest.length + 1):=by rw [← e];simp
   have hq:q.length = n:=hQ q (by rw [← e];simp)
   refine ev_succ ?_
   have d1:((pre.length:Int) < ((I2 P).length:Int)):=by rw [I2_len];omega
   have d2:(0:Int)≤(pre.length:Int):=by omega
   have d3:=w64s pre.length (by omega)
   have d4:=rdL_P e
   have e3:((pre ++ [q]).length:Int) = ((pre.length + 1:Nat):Int):=by simp
   have hpl:=pr_len p q
   have hil:=insAll_len (pr p q) acc
   have hx2:∀ x ∈ insAll acc (pr p q),x.1.length = n∧x.2.length = n:=by
    intro x hm
    rcases (mem_insAll _ _ _).1 hm with hm | hm
    ·exact hx x hm
    ·obtain ⟨a1,a2⟩:=pr_mem hm
     exact ⟨a1.trans hp,a2.trans hq⟩
   have key:=ih (pre ++ [q]) (insAll acc (pr p q)) (by rw [← e];simp) (by omega) hx2 (by rw [← insAll_app,← List.flatMap_cons];exact hR)
   rw [e3] at key
   simp only [Z13.l1,d1,d2,d4,if_true]
   refine Ev.bind (spec_surf _ _) ?_
   by_cases hb:surfB (I p) (I q) = true
   ·simp only [hb,if_true]
    refine Ev.bind (spec_canon (surfB_I.1 hb)) ?_
    have hc:(canS p q).1.length = n∧(canS p q).2.length = n:=by
     obtain ⟨a1,a2⟩:=canK_len (r:=p) (u:=q) (p.length - 1)
     exact ⟨a1.trans hp,a2.trans hq⟩
    refine Ev.bind (insert_ev (by omega) hc acc hx (by omega)) ?_
    rw [pr_yes hb] at key
    simp only [d3]
    exact key
   ·simp only [hb,Bool.false_eq_true,if_false,d3]
    rw [pr_no hb] at key
    exact key
 have H0:∀ (rest pre:List (List Nat)) (acc:List (List Nat × List Nat)),pre ++ rest = P→acc.length + rest.length * 24≤10000→(∀ x ∈ acc,x.1.length = n∧x.2.length = n) →
   Ev (fun k=>Z13.l0 k (LS acc) (I2 P) (I2 P) ((I2 P).length:Int) (pre.length:Int)) (LS (insAll acc (pairs P rest))):=by
  intro rest
  induction rest with
  | nil =>
   intro pre acc e hl hx
   refine ev_succ ?_
   rw [List.append_nil] at e
   have d1:¬ ((pre.length:Int) < ((I2 P).length:Int)):=by rw [I2_len,e];omega
   simp only [Z13.l0,d1,if_false]
   exact Ev.now _
  | cons p rest ih =>
   intro pre acc e hl hx
   rw [List.length_cons] at hl
   have hlen:P.length = pre.length + (rest.length + 1):=by rw [← e];simp
   refine ev_succ ?_
   have d1:((pre.length:Int) < ((I2 P).length:Int)):=by rw [I2_len];omega
   have d2:(0:Int)≤(pre.length:Int):=by omega
   have d3:=w64s pre.length (by omega)
   have d4:=rdL_P e
   simp only [Z13.l0,d1,d2,d4,if_true]
   have e3:((pre ++ [p]).length:Int) = ((pre.length + 1:Nat):Int):=by simp
   have hpl:=prs_len P p
   have hil:=insAll_len (prs P p) acc
   have hp:p.length = n:=hQ p (by rw [← e];simp)
   have hx2:∀ x ∈ insAll acc (prs P p),x.1.length = n∧x.2.length = n:=by
    intro x hm
    rcases (mem_insAll _ _ _).1 hm with hm | hm
    ·exact hx x hm
    ·obtain ⟨q,hq,hxq⟩:=List.mem_flatMap.1 hm
     obtain ⟨a1,a2⟩:=pr_mem hxq
     exact ⟨a1.trans hp,a2.trans (hQ q hq)⟩
   have key:=ih (pre ++ [p]) (insAll acc (prs P p)) (by rw [← e];simp) (by omega) hx2
   rw [e3,← insAll_app] at key
   refine H1 p hp (pre.length:Int) _ P [] acc (by simp) (by omega) hx ?_
   rw [d3]
   exact key
 exact H0 P [] [] (by simp) (by simp;omega) (by simp)
theorem spec_no {n:Int} (h:¬ (1≤n∧n≤4)):Ev (fun k=>Z13.f k n) ([]:List S38):=by
 unfold Z13.f
 have c0:(decide ((1:Int)≤n) && decide (n≤4)) = false:=by
  rw [Bool.eq_false_iff]
  intro h0
  rw [Bool.and_eq_true] at h0
  exact h ⟨of_decide_eq_true h0.1,of_decide_eq_true h0.2⟩
 rw [spec_in14,c0]
 simp only [Option.bind_some,Bool.false_eq_true,if_false]
 exact Ev.now _
theorem impl_no {n:Int} (h:¬ (1≤n∧n≤4)):Ev (fun k=>Z10.f k n) ([]:List S38):=by
 unfold Z10.f
 by_cases h1:n < 1
 ·simp only [h1,if_true]
  refine ev_succ ?_
  simp only [Z10.j0,if_true]
  exact Ev.now _
 ·have h2:n > 4:=by omega
  simp only [h1,h2,if_false,decide_true]
  refine ev_succ ?_
  simp only [Z10.j0,if_true]
  exact Ev.now _
end Go.Proofs.YtoijcallajegfaaGreat.M
end
section
/- Plain mathematics: surfaces that are alike by renaming. No conditions. -/
namespace Go.Proofs.YtoijcallajegfaaGreat.M
set_option linter.unusedVariables false
set_option linter.unusedSimpArgs false
structure Is (s t:List Nat × List Nat) (f:Nat→Nat):Prop where
 len:t.1.length = s.1.length
 lt:∀ x,x < s.1.length→f x < s.1.length
 inj:∀ x y,x < s.1.length→y < s.1.length→f x = f y→x = y
 r:∀ x,x < s.1.length→f (g s.1 x) = g t.1 (f x)
 u:∀ x,x < s.1.length→f (g s.2 x) = g t.2 (f x)
theorem Sf.gr {r u:List Nat} (hs:Sf r u) {x:Nat} (h:x < r.length):g r x < r.length:=g_lt hs.pr h
theorem Sf.gu {r u:List Nat} (hs:Sf r u) {x:Nat} (h:x < r.length):g u x < r.length:=by
 have:=g_lt hs.pu (i:=x) (by rw [hs.eq];exact h)
 rw [hs.eq] at this
 exact this
theorem Sf.ir {r u:List Nat} (hs:Sf r u) {x:Nat} (h:x < r.length):ix r x < r.length:=ix_lt hs.pr h
theorem Sf.iu {r u:List Nat} (hs:Sf r u) {x:Nat} (h:x < r.length):ix u x < r.length:=by
 have:=ix_lt hs.pu (x:=x) (by rw [hs.eq];exact h)
 rw [hs.eq] at this
 exact this
theorem Is.refl (s:List Nat × List Nat):Is s s (fun x=>x):=⟨rfl,fun _ h=>h,fun _ _ _ _ h=>h,fun _ _=>rfl,fun _ _=>rfl⟩
theorem Is.trans {s t v:List Nat × List Nat} {f h:Nat→Nat} (a:Is s t f) (b:Is t v h):Is s v (fun x=>h (f x)) where
 len:=b.len.trans a.len
 lt x hx:=by have:=b.lt (f x) (by rw [a.len];exact a.lt x hx);rw [a.len] at this;exact this
 inj x y hx hy e:=a.inj x y hx hy (b.inj _ _ (by rw [a.len];exact a.lt x hx) (by rw [a.len];exact a.lt y hy) e)
 r x hx:=by show h (f (g s.1 x)) = _;rw [a.r x hx,b.r _ (by rw [a.len];exact a.lt x hx)]
 u x hx:=by show h (f (g s.2 x)) = _;rw [a.u x hx,b.u _ (by rw [a.len];exact a.lt x hx)]
def bk (n:Nat) (f:Nat→Nat) (y:Nat):Nat:=ix (tab n f) y
theorem bk_lt {n:Nat} {f:Nat→Nat} (h1:∀ x,x < n→f x < n) (h2:∀ x y,x < n→y < n→f x = f y→x = y) {y:Nat} (hy:y < n):bk n f y < n:=by
 have:=ix_lt (isP_tab h1 h2) (x:=y) (by rw [tab_len];exact hy)
 rw [tab_len] at this
 exact this
theorem f_bk {n:Nat} {f:Nat→Nat} (h1:∀ x,x < n→f x < n) (h2:∀ x y,x < n→y < n→f x = f y→x = y) {y:Nat} (hy:y < n):f (bk n f y) = y:=by
 have h:=g_ix (isP_tab h1 h2) (x:=y) (by rw [tab_len];exact hy)
 have hb:ix (tab n f) y < n:=bk_lt h1 h2 hy
 rw [g_tab hb] at h
 exact h
theorem bk_f {n:Nat} {f:Nat→Nat} (h1:∀ x,x < n→f x < n) (h2:∀ x y,x < n→y < n→f x = f y→x = y) {x:Nat} (hx:x < n):bk n f (f x) = x :=
 h2 _ _ (bk_lt h1 h2 (h1 x hx)) hx (f_bk h1 h2 (h1 x hx))
theorem Is.symm {s t:List Nat × List Nat} {f:Nat→Nat} (hs:Sf s.1 s.2) (a:Is s t f):Is t s (bk s.1.length f) where
 len:=a.len.symm
 lt y hy:=by rw [a.len] at hy ⊢;exact bk_lt a.lt a.inj hy
 inj y z hy hz e:=by
  rw [a.len] at hy hz
  rw [← f_bk a.lt a.inj hy,← f_bk a.lt a.inj hz,e]
 r y hy:=by
  rw [a.len] at hy
  have hb:=bk_lt a.lt a.inj hy
  have e:g t.1 y = f (g s.1 (bk s.1.length f y)):=by rw [a.r _ hb,f_bk a.lt a.inj hy]
  rw [e,bk_f a.lt a.inj (hs.gr hb)]
 u y hy:=by
  rw [a.len] at hy
  have hb:=bk_lt a.lt a.inj hy
  have e:g t.2 y = f (g s.2 (bk s.1.length f y)):=by rw [a.u _ hb,f_bk a.lt a.inj hy]
  rw [e,bk_f a.lt a.inj (hs.gu hb)]
theorem Sf.of_is {s t:List Nat × List Nat} {f:Nat→Nat} (hs:Sf s.1 s.2) (a:Is s t f) (p1:IsP t.1) (p2:IsP t.2) (hl:t.2.length = t.1.length):Sf t.1 t.2:=by
 refine sf_of_tr p1 p2 (by rw [a.len];exact hs.le) hl (by rw [a.len];exact hs.pos) (fun S s0 k1 k2 y hy=>?_)
 rw [a.len] at k1 k2 hy
 have i0:=bk_lt a.lt a.inj hs.pos
 have h0:S (f (bk s.1.length f 0)):=by rw [f_bk a.lt a.inj hs.pos];exact s0
 have hm:=(reach_full hs i0).2 (bk s.1.length f y) (bk_lt a.lt a.inj hy)
 have:=(bfs_ind (fun x=>S (f x)) (n:=s.1.length) (fun x hx h=>⟨by rw [a.r x hx];exact k1 _ (a.lt x hx) h,hs.gr hx⟩) (fun x hx h=>⟨by rw [a.u x hx];exact k2 _ (a.lt x hx) h,hs.gu hx⟩) _ _ [bk s.1.length f 0] (by intro x hx;obtain rfl:x = bk s.1.length f 0:=(by simpa using hx);exact ⟨h0,i0⟩) _ hm).1
 rw [f_bk a.lt a.inj hy] at this
 exact this
theorem Sf.all_of {r u:List Nat} (hs:Sf r u) {S:Nat→Prop} {i:Nat} (hi:i < r.length) (h0:S i) (h1:∀ x,x < r.length→S x→S (g r x)) (h2:∀ x,x < r.length→S x→S (g u x)):∀ y,y < r.length→S y:=by
 intro y hy
 have hm:=(reach_full hs hi).2 y hy
 exact (bfs_ind S (n:=r.length) (fun x hx h=>⟨h1 x hx h,hs.gr hx⟩) (fun x hx h=>⟨h2 x hx h,hs.gu hx⟩) _ _ [i] (by intro x hx;obtain rfl:x = i:=(by simpa using hx);exact ⟨h0,hi⟩) _ hm).1
theorem Is.ir {s t:List Nat × List Nat} {f:Nat→Nat} (hs:Sf s.1 s.2) (ht:Sf t.1 t.2) (a:Is s t f) {x:Nat} (hx:x < s.1.length):f (ix s.1 x) = ix t.1 (f x):=by
 have h1:=hs.ir hx
 refine (ix_eq ht.pr (by rw [a.len];exact a.lt _ h1) ?_).symm
 rw [← a.r _ h1,g_ix hs.pr hx]
theorem Is.iu {s t:List Nat × List Nat} {f:Nat→Nat} (hs:Sf s.1 s.2) (ht:Sf t.1 t.2) (a:Is s t f) {x:Nat} (hx:x < s.1.length):f (ix s.2 x) = ix t.2 (f x):=by
 have h1:=hs.iu hx
 refine (ix_eq ht.pu (by rw [ht.eq,a.len];exact a.lt _ h1) ?_).symm
 rw [← a.u _ h1,g_ix hs.pu (by rw [hs.eq];exact hx)]
end Go.Proofs.YtoijcallajegfaaGreat.M
end
section
/- What the four letters keep: symmetries and half turns. No conditions. -/
namespace Go.Proofs.YtoijcallajegfaaGreat.M
set_option linter.unusedVariables false
set_option linter.unusedSimpArgs false
open Classical in
noncomputable def ledN (s t:List Nat × List Nat) (b:Nat):Nat:=((List.range s.1.length).filter (fun i=>decide (∃ f,Is s t f∧f b = i))).length
def symN (s:List Nat × List Nat):Nat:=((List.range s.1.length).filter (fun i=>decide (rS s.1 s.2 i = canS s.1 s.2))).length
def neg (s:List Nat × List Nat):List Nat × List Nat:=(inv s.1,inv s.2)
end Go.Proofs.YtoijcallajegfaaGreat.M
end
section
/- Plain mathematics: classes of what is linked. No conditions. -/
namespace Go.Proofs.YtoijcallajegfaaGreat.M
set_option linter.unusedVariables false
set_option linter.unusedSimpArgs false
inductive Cn (up:Nat→Option Nat):Nat→Nat→Prop
 | refl (i:Nat):Cn up i i
 | up {i j k:Nat}:up i = some j→Cn up j k→Cn up i k
 | dn {i j k:Nat}:up j = some i→Cn up j k→Cn up i k
theorem Cn.trans {up:Nat→Option Nat} {i j k:Nat} (h:Cn up i j) (h':Cn up j k):Cn up i k:=by
 induction h with
 | refl i=>exact h'
 | up e _ ih=>exact .up e (ih h')
 | dn e _ ih=>exact .dn e (ih h')
theorem Cn.symm {up:Nat→Option Nat} {i j:Nat} (h:Cn up i j):Cn up j i:=by
 induction h with
 | refl i=>exact .refl i
 | up e _ ih=>exact ih.trans (.dn e (.refl _))
 | dn e _ ih=>exact ih.trans (.up e (.refl _))
theorem Cn.one {up:Nat→Option Nat} {i j:Nat} (h:up i = some j):Cn up i j:=.up h (.refl _)
theorem Cn.lt {n:Nat} {up:Nat→Option Nat} (hup:∀ i j,up i = some j→i < n∧j < n) {i j:Nat} (h:Cn up i j) (hi:i < n):j < n:=by
 induction h with
 | refl i=>exact hi
 | up e _ ih=>exact ih (hup _ _ e).2
 | dn e _ ih=>exact ih (hup _ _ e).1
theorem Cn.closed {up:Nat→Option Nat} {S:Nat→Prop} (hS:∀ i j,up i = some j→(S i ↔ S j)) {i j:Nat} (h:Cn up i j):S i ↔ S j:=by
 induction h with
 | refl i=>exact Iff.rfl
 | up e _ ih=>exact (hS _ _ e).trans ih
 | dn e _ ih=>exact (hS _ _ e).symm.trans ih
structure Grp (n:Nat) (up:Nat→Option Nat) (t:Nat) (G:Nat→Nat):Prop where
 le:∀ j,j < n→G j≤j
 fix:∀ j,j < n→G (G j) = G j
 cn:∀ j,j < n→Cn up j (G j)
 ed:∀ i j,i < t→up i = some j→G i = G j
def mgf (G:Nat→Nat) (a b:Nat):Nat→Nat:=fun j=>if G j = a ∨ G j = b then min a b else G j
theorem Grp.start (n:Nat) (up:Nat→Option Nat):Grp n up 0 (fun j=>j):=⟨fun j _=>Nat.le_refl _,fun j _=>rfl,fun j _=>.refl _,fun i j h _=>by omega⟩
theorem Grp.skip {n t:Nat} {up:Nat→Option Nat} {G:Nat→Nat} (h:Grp n up t G) (e:up t = none):Grp n up (t + 1) G :=
 ⟨h.le,h.fix,h.cn,fun i j hi hj=>by
  by_cases e2:i = t
  ·subst e2
   rw [e] at hj
   cases hj
  ·exact h.ed i j (by omega) hj⟩
theorem Grp.merge {n t k:Nat} {up:Nat→Option Nat} (hup:∀ i j,up i = some j→i < n∧j < n) {G:Nat→Nat} (h:Grp n up t G) (e:up t = some k):Grp n up (t + 1) (mgf G (G t) (G k)):=by
 obtain ⟨ht,hk⟩:=hup t k e
 have ha:=h.fix t ht
 have hb:=h.fix k hk
 have la:=h.le t ht
 have lb:=h.le k hk
 have hab:Cn up (G t) (G k):=(h.cn t ht).symm.trans ((Cn.one e).trans (h.cn k hk))
 have hm:min (G t) (G k) = G t ∨ min (G t) (G k) = G k:=by omega
 refine ⟨fun j hj=>?_,fun j hj=>?_,fun j hj=>?_,fun i j hi hj=>?_⟩
 ·unfold mgf
  have:=h.le j hj
  split <;> omega
 ·have key:∀ c,(c = G t ∨ c = G k)→mgf G (G t) (G k) c = min (G t) (G k):=by
   intro c hc
   unfold mgf
   rw [if_pos (by rcases hc with rfl | rfl;exact .inl ha;exact .inr hb)]
  by_cases hc:G j = G t ∨ G j = G k
  ·have e1:mgf G (G t) (G k) j = min (G t) (G k):=by unfold mgf;rw [if_pos hc]
   rw [e1]
   exact key _ hm
  ·have e1:mgf G (G t) (G k) j = G j:=by unfold mgf;rw [if_neg hc]
   rw [e1]
   unfold mgf
   rw [h.fix j hj,if_neg hc]
 ·unfold mgf
  split
  ·rename_i hc
   refine (h.cn j hj).trans ?_
   rcases hc with hc | hc <;> rcases hm with hm | hm <;> rw [hc,hm]
   ·exact .refl _
   ·exact hab
   ·exact hab.symm
   ·exact .refl _
  ·exact h.cn j hj
 ·by_cases e2:i = t
  ·subst e2
   rw [e] at hj
   injection hj with hj
   subst hj
   unfold mgf
   simp
  ·unfold mgf
   rw [h.ed i j (by omega) hj]
theorem Grp.iff {n:Nat} {up:Nat→Option Nat} (hup:∀ i j,up i = some j→i < n∧j < n) {G:Nat→Nat} (h:Grp n up n G) {i j:Nat} (hi:i < n) (hj:j < n):G i = G j ↔ Cn up i j:=by
 constructor
 ·intro e
  have:=(h.cn i hi).trans ((by rw [e];exact .refl _:Cn up (G i) (G j)).trans (h.cn j hj).symm)
  exact this
 ·intro hc
  induction hc with
  | refl i=>rfl
  | up e _ ih=>rw [h.ed _ _ (hup _ _ e).1 e];exact ih (hup _ _ e).2 hj
  | dn e _ ih=>rw [← h.ed _ _ (hup _ _ e).1 e];exact ih (hup _ _ e).1 hj
theorem Grp.head {n:Nat} {up:Nat→Option Nat} (hup:∀ i j,up i = some j→i < n∧j < n) {G:Nat→Nat} (h:Grp n up n G) {i:Nat} (hi:i < n):G i = i ↔ ∀ j,Cn up i j→i≤j:=by
 constructor
 ·intro e j hc
  have hj:=hc.lt hup hi
  have:=(h.iff hup hi hj).mpr hc
  have:=h.le j hj
  omega
 ·intro hc
  have:=hc _ (h.cn i hi)
  have:=h.le i hi
  omega
def ups (up:Nat→Option Nat):Nat→Nat→Option Nat
 | 0,i=>some i
 | m + 1,i=>(up i).bind (ups up m)
theorem ups_succ (up:Nat→Option Nat) (m i:Nat):ups up (m + 1) i = (ups up m i).bind up:=by
 induction m generalizing i with
 | zero =>
  simp only [ups,Option.bind_some]
  cases h:up i <;> rfl
 | succ m ih =>
  show (up i).bind (ups up (m + 1)) = ((up i).bind (ups up m)).bind up
  cases h:up i with
  | none=>rfl
  | some j=>exact ih j
theorem ups_cn {up:Nat→Option Nat} {m i j:Nat} (h:ups up m i = some j):Cn up i j:=by
 induction m generalizing i with
 | zero=>simp [ups] at h;subst h;exact .refl _
 | succ m ih =>
  obtain ⟨z,hz,h2⟩:=Option.bind_eq_some_iff.mp h
  exact .up hz (ih h2)
structure Mk (n:Nat) (up:Nat→Option Nat) (row:Nat) (S0 add:List Nat):Prop where
 nd:add.Nodup
 lt:∀ x ∈ add,x < n
 new:∀ x ∈ add,x ∉ S0
 p:∀ x ∈ add,(∃ m,ups up m row = some x) ∨ (∃ m,ups up m x = some row)
theorem Mk.cn {n:Nat} {up:Nat→Option Nat} {row:Nat} {S0 add:List Nat} (h:Mk n up row S0 add) {x:Nat} (hx:x ∈ add):Cn up row x:=by
 rcases h.p x hx with ⟨m,hm⟩ | ⟨m,hm⟩
 ·exact ups_cn hm
 ·exact (ups_cn hm).symm
theorem Mk.add {n:Nat} {up:Nat→Option Nat} {row:Nat} {S0 add:List Nat} (h:Mk n up row S0 add) {x:Nat} (hx:x < n) (h1:x ∉ S0) (h2:x ∉ add) (hp:(∃ m,ups up m row = some x) ∨ (∃ m,ups up m x = some row)):Mk n up row S0 (add ++ [x]):=by
 refine ⟨List.nodup_append.mpr ⟨h.nd,by simp,fun a ha b hb e=>?_⟩,fun y hy=>?_,fun y hy=>?_,fun y hy=>?_⟩
 ·have:b = x:=by simpa using hb
  exact h2 (by rw [← this,← e];exact ha)
 ·rcases List.mem_append.mp hy with hy | hy
  ·exact h.lt y hy
  ·have:y = x:=by simpa using hy
   omega
 ·rcases List.mem_append.mp hy with hy | hy
  ·exact h.new y hy
  ·have:y = x:=by simpa using hy
   rw [this]
   exact h1
 ·rcases List.mem_append.mp hy with hy | hy
  ·exact h.p y hy
  ·have:y = x:=by simpa using hy
   rw [this]
   exact hp
theorem Mk.full {n:Nat} {up:Nat→Option Nat} (hup:∀ i j,up i = some j→i < n∧j < n) (hinj:∀ i i' j,up i = some j→up i' = some j→i = i') {row:Nat} {S0 add:List Nat} (h:Mk n up row S0 add) (hrow:row ∈ add)
  (hS0:∀ i j,up i = some j→(i ∈ S0 ↔ j ∈ S0)) (c1:∀ x ∈ add,∀ y,up x = some y→y ∈ S0 ∨ y ∈ add)
  (c2:∀ k x,up k = some x→(x ∈ S0 ∨ x ∈ add)→(∃ m,ups up m k = some row)→(k ∈ S0 ∨ k ∈ add)):∀ x,x ∈ add ↔ Cn up row x:=by
 have hrs:row ∉ S0:=h.new row hrow
 have chain:∀ m x,ups up m row = some x→x ∈ add:=by
  intro m
  induction m with
  | zero=>intro x hx;simp [ups] at hx;rw [← hx];exact hrow
  | succ m ih =>
   intro x hx
   rw [ups_succ] at hx
   obtain ⟨z,hz,hzx⟩:=Option.bind_eq_some_iff.mp hx
   have hza:=ih z hz
   rcases c1 z hza x hzx with k | k
   ·exact absurd ((hS0 z x hzx).mpr k) (h.new z hza)
   ·exact k
 have closed:∀ i j,up i = some j→((i ∈ S0 ∨ i ∈ add) ↔ (j ∈ S0 ∨ j ∈ add)):=by
  intro i j e
  constructor
  ·rintro (k | k)
   ·exact .inl ((hS0 i j e).mp k)
   ·exact c1 i k j e
  ·rintro (k | k)
   ·exact .inl ((hS0 i j e).mpr k)
   ·rcases h.p j k with ⟨m,hm⟩ | ⟨m,hm⟩
    ·cases m with
     | zero =>
      simp [ups] at hm
      subst hm
      exact c2 i _ e (.inr k) ⟨1,by simp [ups,e]⟩
     | succ m =>
      rw [ups_succ] at hm
      obtain ⟨z,hz,hzj⟩:=Option.bind_eq_some_iff.mp hm
      have:=hinj i z j e hzj
      subst this
      exact .inr (chain m _ hz)
    ·exact c2 i j e (.inr k) ⟨m + 1,by simp [ups,e,hm]⟩
 intro x
 constructor
 ·exact fun hx=>h.cn hx
 ·intro hc
  have h1:=(Cn.closed (S:=fun z=>z ∈ S0 ∨ z ∈ add) closed hc).mp (.inr hrow)
  rcases h1 with h1 | h1
  ·exact absurd ((Cn.closed (S:=fun z=>z ∈ S0) hS0 hc).mpr h1) hrs
  ·exact h1
end Go.Proofs.YtoijcallajegfaaGreat.M
end
section
/- Half turns: the tests of the program and of the reference come to one plain test. No conditions. -/
namespace Go.Proofs.YtoijcallajegfaaGreat.M
set_option linter.unusedVariables false
set_option linter.unusedSimpArgs false
open Go.RowKit Go.Proofs.YtoijcallajegfaaGreatW.PrintWords Go.Proofs.YtoijcallajegfaaGreatW.PrintLast Go.Proofs.YtoijcallajegfaaGreatW.PrintMore Go.Proofs.YtoijcallajegfaaGreat.A
def Turn (r u a:List Nat):Prop:=∀ i,i < a.length→g a (g r i) = ix r (g a i)∧g a (g u i) = ix u (g a i)
instance (r u a:List Nat):Decidable (Turn r u a):=by unfold Turn;infer_instance
end Go.Proofs.YtoijcallajegfaaGreat.M
end
section
/- Half turns as the program makes them. No conditions. -/
namespace Go.Proofs.YtoijcallajegfaaGreat.M
set_option linter.unusedVariables false
set_option linter.unusedSimpArgs false
open Go.RowKit Go.Proofs.YtoijcallajegfaaGreatW.PrintWords Go.Proofs.YtoijcallajegfaaGreatW.PrintLast Go.Proofs.YtoijcallajegfaaGreatW.PrintMore Go.Proofs.YtoijcallajegfaaGreat.A
structure TurnP (r u b:List Nat):Prop where
 len:b.length = r.length
 p:IsP b
 t:Turn r u b
theorem ix_inj {p:List Nat} (hp:IsP p) {x y:Nat} (hx:x < p.length) (hy:y < p.length) (h:ix p x = ix p y):x = y:=by
 rw [← g_ix hp hx,← g_ix hp hy,h]
structure FI (r u:List Nat) (im:Nat) (out:List Nat) (f:Nat→Nat):Prop where
 lt:∀ x ∈ out,f x < r.length
 z:f 0 = im
 z0:0 ∈ out
 t:∀ b,TurnP r u b→g b 0 = im→∀ x ∈ out,f x = g b x
theorem FI.add {r u:List Nat} {im:Nat} {out:List Nat} {f:Nat→Nat} (h:FI r u im out f) {y v:Nat} (hy:y ∉ out) (hv:v < r.length) (ht:∀ b,TurnP r u b→g b 0 = im→v = g b y):FI r u im (out ++ [y]) (fun z=>if z = y then v else f z):=by
 have h0:(0:Nat)≠y:=fun e=>hy (e ▸ h.z0)
 refine ⟨fun x hx=>?_,by simp [h0,h.z],by simp [h.z0],fun b hb hb0 x hx=>?_⟩
 ·by_cases e:x = y
  ·simp [e,hv]
  ·rcases List.mem_append.mp hx with hx | hx
   ·simp [e,h.lt x hx]
   ·exact absurd (by simpa using hx) e
 ·by_cases e:x = y
  ·subst e
   simp [ht b hb hb0]
  ·rcases List.mem_append.mp hx with hx | hx
   ·simp [e,h.t b hb hb0 x hx]
   ·exact absurd (by simpa using hx) e
end Go.Proofs.YtoijcallajegfaaGreat.M
end
section
/- Half turns: the program and the reference find the same ones. No conditions. -/
namespace Go.Proofs.YtoijcallajegfaaGreat.M
set_option linter.unusedVariables false
set_option linter.unusedSimpArgs false
open Go.RowKit Go.Proofs.YtoijcallajegfaaGreatW.PrintWords Go.Proofs.YtoijcallajegfaaGreatW.PrintLast Go.Proofs.YtoijcallajegfaaGreatW.PrintMore Go.Proofs.YtoijcallajegfaaGreat.A
def Led (r u out:List Nat) (a:Nat):Prop:=∀ i,i < out.length→0 < i→∃ j,j < i∧j < a∧(g out i = g r (g out j) ∨ g out i = g u (g out j))
theorem g_app {out:List Nat} {x i:Nat} (h:i < out.length):g (out ++ [x]) i = g out i:=by
 unfold g
 rw [List.getD_eq_getElem?_getD,List.getD_eq_getElem?_getD,List.getElem?_append_left h]
theorem g_last (out:List Nat) (x:Nat):g (out ++ [x]) out.length = x:=getD_mid out x [] 0
theorem Led.st {r u out:List Nat} {a y:Nat} (h:Led r u out (a + 1)) (ha:a < out.length) (hy:y = g r (g out a) ∨ y = g u (g out a)):Led r u (st1 out y) (a + 1):=by
 unfold st1
 split
 ·exact h
 ·intro i hi h0
  by_cases e:i < out.length
  ·obtain ⟨j,j1,j2,j3⟩:=h i e h0
   refine ⟨j,j1,j2,?_⟩
   rw [g_app e,g_app (by omega)]
   exact j3
  ·have e2:i = out.length:=by simp at hi;omega
   subst e2
   refine ⟨a,ha,by omega,?_⟩
   rw [g_last,g_app ha]
   exact hy
inductive Given (r u L:List Nat) (i:Nat):Nat→Prop
 | z:Given r u L i 0
 | r (j:Nat):j < i→Given r u L i (g r (g L j))
 | u (j:Nat):j < i→Given r u L i (g u (g L j))
theorem Given.mono {r u L:List Nat} {i x:Nat} (h:Given r u L i x):Given r u L (i + 1) x:=by
 cases h with
 | z=>exact .z
 | r j hj=>exact .r j (by omega)
 | u j hj=>exact .u j (by omega)
structure GI (r u:List Nat) (im:Nat) (i:Nat) (c:List Nat):Prop where
 len:c.length = r.length
 lt:∀ x,x < r.length→g c x < r.length
 t:∀ b,TurnP r u b→g b 0 = im→∀ x,Given r u (reach r u 0) i x→g c x = g b x
 n:∀ b,TurnP r u b→g b 0≠im→∀ x,Given r u (reach r u 0) i x→g c x≠g b x
theorem GI.put {r u:List Nat} (hs:Sf r u) {p:List Nat} (hp:p = r ∨ p = u) {im:Nat} {c:List Nat} (P:Nat→Prop) (h1:c.length = r.length) (h2:∀ x,x < r.length→g c x < r.length) (ht:∀ b,TurnP r u b→g b 0 = im→∀ x,P x→g c x = g b x) (hn:∀ b,TurnP r u b→g b 0≠im→∀ x,P x→g c x≠g b x) {x:Nat} (hx:x < r.length) (hP:P x) :
  (c.set (g p x) (ix p (g c x))).length = r.length∧(∀ z,z < r.length→g (c.set (g p x) (ix p (g c x))) z < r.length)∧(∀ b,TurnP r u b→g b 0 = im→∀ z,(P z ∨ z = g p x)→g (c.set (g p x) (ix p (g c x))) z = g b z)∧(∀ b,TurnP r u b→g b 0≠im→∀ z,(P z ∨ z = g p x)→g (c.set (g p x) (ix p (g c x))) z≠g b z):=by
 have heq:=hs.eq
 have ipp:IsP p:=by rcases hp with rfl | rfl;exact hs.pr;exact hs.pu
 have hpl:p.length = r.length:=by rcases hp with rfl | rfl;rfl;exact heq
 have gx:=g_lt ipp (i:=x) (by omega)
 have cx:=h2 x hx
 have hv:=ix_lt ipp (x:=g c x) (by omega)
 have tp:∀ b,TurnP r u b→g b (g p x) = ix p (g b x):=fun b hb=>by
  have:=hb.t x (by rw [hb.len];exact hx)
  rcases hp with rfl | rfl
  ·exact this.1
  ·exact this.2
 refine ⟨by rw [List.length_set];exact h1,fun z hz=>?_,fun b hb hb0 z hz=>?_,fun b hb hb0 z hz=>?_⟩
 ·rw [g_set (by omega)]
  split
  ·omega
  ·exact h2 z hz
 ·rw [g_set (by omega)]
  by_cases e:g p x = z
  ·rw [if_pos e,← e,tp b hb,ht b hb hb0 x hP]
  ·rw [if_neg e]
   rcases hz with hz | hz
   ·exact ht b hb hb0 z hz
   ·exact absurd hz.symm e
 ·rw [g_set (by omega)]
  by_cases e:g p x = z
  ·rw [if_pos e,← e,tp b hb]
   intro h
   exact hn b hb hb0 x hP (ix_inj ipp (by omega) (by have:=g_lt hb.p (i:=x) (by rw [hb.len];exact hx);rw [hb.len] at this;omega) h)
  ·rw [if_neg e]
   rcases hz with hz | hz
   ·exact hn b hb hb0 z hz
   ·exact absurd hz.symm e
end Go.Proofs.YtoijcallajegfaaGreat.M
end
section
/- Fixed points: the program and the reference answer alike. No conditions. -/
namespace Go.Proofs.YtoijcallajegfaaGreat.M
set_option linter.unusedVariables false
set_option linter.unusedSimpArgs false
open Go.RowKit Go.Proofs.YtoijcallajegfaaGreatW.PrintWords Go.Proofs.YtoijcallajegfaaGreatW.PrintLast Go.Proofs.YtoijcallajegfaaGreatW.PrintMore Go.Proofs.YtoijcallajegfaaGreat.A
theorem impl_corners {r u:List Nat} (hs:Sf r u):Ev (fun k=>Z23.f k (I r) (I u)) (I2 (cycles (arnd r u))):=by
 unfold Z23.f
 refine Ev.bind (impl_surf _ _) ?_
 rw [surfB_I.mpr hs]
 simp only [if_true]
 exact Ev.bind (impl_around hs) (Ev.bind (impl_cycles (isP_arnd hs) (by rw [arnd_len];exact hs.le)) (Ev.now _))
end Go.Proofs.YtoijcallajegfaaGreat.M
end
