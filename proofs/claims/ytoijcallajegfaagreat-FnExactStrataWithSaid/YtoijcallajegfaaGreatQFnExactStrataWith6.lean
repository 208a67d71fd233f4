/- Lemmas for the row FnExactStrataWith: the program's functions told as plain functions, and plain mathematics. No conditions. -/
import Derived.Test.YtoijcallajegfaaGreatQFnExactStrataWith5
section
/- What words keep: the program's answers. No conditions. -/
namespace Go.Proofs.YtoijcallajegfaaGreat.M
set_option linter.unusedVariables false
set_option linter.unusedSimpArgs false
open Go.RowKit Go.Proofs.YtoijcallajegfaaGreatW.PrintWords Go.Proofs.YtoijcallajegfaaGreatW.PrintLast Go.Proofs.YtoijcallajegfaaGreatW.PrintMore Go.Proofs.YtoijcallajegfaaGreat.A
def angL (s:List Nat × List Nat):List Nat:=sortD ((cycles (arnd s.1 s.2)).map List.length)
theorem angL_len (s:List Nat × List Nat):(angL s).length = (cycles (arnd s.1 s.2)).length:=by unfold angL;rw [sortD_len,List.length_map]
theorem ang_le {s:List Nat × List Nat} (hs:Sf s.1 s.2):∀ x ∈ (cycles (arnd s.1 s.2)).map List.length,x≤24:=by
 intro x hx
 obtain ⟨c,hc,rfl⟩:=List.mem_map.mp hx
 exact cycle_len (isP_arnd hs) (by rw [arnd_len];exact hs.le) c hc
theorem impl_angles {s:List Nat × List Nat} (hs:Sf s.1 s.2):Ev (fun k=>Z39.f k (I s.1) (I s.2)) (I (angL s)):=by
 have h24:=cycles_len (p:=arnd s.1 s.2) (by rw [arnd_len];exact hs.le)
 have hle:=ang_le hs
 unfold Z39.f angL
 refine Ev.bind (impl_corners hs) ?_
 generalize cycles (arnd s.1 s.2) = C at h24 hle
 have H:∀ d j:Nat,j + d = C.length→Ev (fun k=>Z39.l0 k (I ((C.take j).map List.length)) (I2 C) (C.length:Int) (j:Int)) (I (sortD (C.map List.length))):=by
  intro d
  induction d with
  | zero =>
   intro j hj
   obtain rfl:j = C.length:=by omega
   refine ev_succ ?_
   have c1:¬ ((C.length:Int) < (C.length:Int)):=by omega
   have e:Z0.f (I (C.map List.length)) = some (I (sortD (C.map List.length))):=by
    unfold Z0.f
    have e1:(I (C.map List.length)).map Int.toNat = C.map List.length:=N_I _
    have e2:∀ x ∈ I (C.map List.length),0≤x∧x≤4611686018427387904:=by
     intro x hx
     obtain ⟨y,hy,rfl⟩:=List.mem_map.mp hx
     have:=hle y hy
     show 0≤(y:Int)∧(y:Int)≤4611686018427387904
     omega
    rw [if_pos ⟨e2,by rw [I_len,List.length_map];omega⟩,e1]
    rfl
   simp only [Z39.l0,c1,if_false,List.take_length,e,Option.bind_some]
   exact Ev.now _
  | succ d ih =>
   intro j hj
   have hjl:j < C.length:=by omega
   have c1:(j:Int) < (C.length:Int):=by omega
   have c2:(0:Int)≤(j:Int):=by omega
   have c4:rd_L1 (I2 C) (j:Int) = I (C[j]):=rdL_I2 C j hjl
   have c5:(I ((C.take j).map List.length)).length < 17592186044416:=by rw [I_len,List.length_map,List.length_take];omega
   have c6:I ((C.take j).map List.length) ++ [((C[j].length:Nat):Int)] = I ((C.take (j + 1)).map List.length):=by
    rw [I_snoc,← List.take_append_getElem hjl,List.map_append]
    rfl
   have c3:=w64s j (by omega)
   refine ev_succ ?_
   simp only [Z39.l0,c1,c2,c3,c4,c5,c6,I2_len,I_len',if_true]
   exact ih (j + 1) (by omega)
 have key:=H C.length 0 (Nat.zero_add _)
 rw [← I2_len C] at key
 exact key
def strL (s:List Nat × List Nat):List Nat:=((angL s).filter (fun a=>decide (1 < a))).map (fun a=>a - 1)
theorem impl_strat {s:List Nat × List Nat} (hs:Sf s.1 s.2):Ev (fun k=>Z25.f k (I s.1) (I s.2)) (I (strL s)):=by
 have h24:=cycles_len (p:=arnd s.1 s.2) (by rw [arnd_len];exact hs.le)
 rw [← angL_len] at h24
 have hle:∀ x ∈ angL s,x≤24:=fun x hx=>ang_le hs x ((sortD_perm _).mem_iff.mp hx)
 unfold Z25.f strL
 refine Ev.bind (impl_angles hs) ?_
 generalize angL s = C at h24 hle
 have H:∀ d j:Nat,j + d = C.length→Ev (fun k=>Z25.l0 k (I (((C.take j).filter (fun a=>decide (1 < a))).map (fun a=>a - 1))) (I C) (C.length:Int) (j:Int)) (I ((C.filter (fun a=>decide (1 < a))).map (fun a=>a - 1))):=by
  intro d
  induction d with
  | zero =>
   intro j hj
   obtain rfl:j = C.length:=by omega
   refine ev_succ ?_
   have c1:¬ ((C.length:Int) < (C.length:Int)):=by omega
   simp only [Z25.l0,c1,if_false,List.take_length]
   exact Ev.now _
  | succ d ih =>
   intro j hj
   have hjl:j < C.length:=by omega
   have hm:=hle _ (g_mem hjl)
   have c1:(j:Int) < (C.length:Int):=by omega
   have c2:(0:Int)≤(j:Int):=by omega
   have c5:(I (((C.take j).filter (fun a=>decide (1 < a))).map (fun a=>a - 1))).length < 17592186044416:=by
    rw [I_len,List.length_map]
    have:=List.length_filter_le (fun a=>decide (1 < a)) (C.take j)
    rw [List.length_take] at this
    omega
   have c3:=w64s j (by omega)
   have e0:C.take (j + 1) = C.take j ++ [g C j]:=by rw [g_get hjl,List.take_append_getElem hjl]
   have key:=ih (j + 1) (by omega)
   rw [e0,List.filter_append,List.map_append] at key
   refine ev_succ ?_
   by_cases h:1 < g C j
   ·have h':((g C j:Nat):Int) > 1:=by omega
    have c6:wrap64 (((g C j:Nat):Int) - 1) = ((g C j - 1:Nat):Int):=by rw [w64 (by omega) (by omega)];omega
    have e1:([g C j].filter (fun a=>decide (1 < a))).map (fun a=>a - 1) = [g C j - 1]:=by simp [h]
    rw [e1] at key
    simp only [Z25.l0,c1,c2,c3,c5,c6,rdI,I_len',I_snoc,h',if_true]
    exact key
   ·have h':¬ ((g C j:Nat):Int) > 1:=by omega
    have e1:([g C j].filter (fun a=>decide (1 < a))).map (fun a=>a - 1) = []:=by simp [h]
    rw [e1,List.append_nil] at key
    simp only [Z25.l0,c1,c2,c3,rdI,I_len',h',if_true,if_false]
    exact key
 have key:=H C.length 0 (Nat.zero_add _)
 rw [← I_len C] at key
 exact key
structure Alike (s t:List Nat × List Nat):Prop where
 sf:Sf t.1 t.2
 len:t.1.length = s.1.length
 sym:symN t = symN s
 turn:ledN t (neg t) 0 = ledN s (neg s) 0
 ang:angL t = angL s
end Go.Proofs.YtoijcallajegfaaGreat.M
end
section
/- The surfaces of a stratum: the program and the reference find the same ones. No conditions. -/
namespace Go.Proofs.YtoijcallajegfaaGreat.M
set_option linter.unusedVariables false
set_option linter.unusedSimpArgs false
open Go.RowKit Go.Proofs.YtoijcallajegfaaGreatW.PrintWords Go.Proofs.YtoijcallajegfaaGreatW.PrintLast Go.Proofs.YtoijcallajegfaaGreatW.PrintMore Go.Proofs.YtoijcallajegfaaGreat.A
def tabN:Nat→List (List Nat × List Nat)
 | 1=>[([0],[0])]
 | 2=>[([0,1],[1,0]),([1,0],[0,1]),([1,0],[1,0])]
 | 3=>[([0,1,2],[1,2,0]),([0,2,1],[1,0,2]),([0,2,1],[1,2,0]),([1,2,0],[0,1,2]),([1,2,0],[0,2,1]),([1,2,0],[1,2,0]),([1,2,0],[2,0,1])]
 | 4=>[([0,1,2,3],[1,2,3,0]),([0,1,3,2],[1,2,0,3]),([0,1,3,2],[1,2,3,0]),([0,2,1,3],[1,0,3,2]),([0,2,1,3],[1,3,0,2]),([0,2,3,1],[1,0,2,3]),([0,2,3,1],[1,0,3,2]),([0,2,3,1],[1,2,0,3]),([0,2,3,1],[1,2,3,0]),([0,2,3,1],[1,3,0,2]),([0,2,3,1],[1,3,2,0]),([1,0,3,2],[0,2,1,3]),([1,0,3,2],[0,2,3,1]),([1,0,3,2],[1,2,3,0]),([1,0,3,2],[2,3,0,1]),([1,0,3,2],[2,3,1,0]),([1,2,3,0],[0,1,2,3]),([1,2,3,0],[0,1,3,2]),([1,2,3,0],[0,2,3,1]),([1,2,3,0],[0,3,1,2]),([1,2,3,0],[0,3,2,1]),([1,2,3,0],[1,0,3,2]),([1,2,3,0],[1,2,3,0]),([1,2,3,0],[1,3,0,2]),([1,2,3,0],[2,3,0,1]),([1,3,0,2],[2,0,3,1])]
 | _=>[]
theorem surf_tab3:surfN 1 = tabN 1∧surfN 2 = tabN 2∧surfN 3 = tabN 3:=by decide +kernel
theorem surf_tab4:surfN 4 = tabN 4:=by decide +kernel
theorem surf_tab {n:Nat} (h1:1≤n) (h4:n≤4):surfN n = tabN n:=by
 rcases four_cases h1 h4 with rfl | rfl | rfl | rfl
 ·exact surf_tab3.1
 ·exact surf_tab3.2.1
 ·exact surf_tab3.2.2
 ·exact surf_tab4
theorem tab_ok:∀ n:Fin 5,(tabN n.val).length≤26∧∀ s ∈ tabN n.val,surfB (I s.1) (I s.2) = true:=by decide +kernel
theorem tabN_ok {n:Nat} (h4:n≤4):(tabN n).length≤26∧∀ s ∈ tabN n,Sf s.1 s.2:=by
 obtain ⟨a,b⟩:=tab_ok ⟨n,by omega⟩
 exact ⟨a,fun s hs=>surfB_I.1 (b s hs)⟩
theorem strL_le {s:List Nat × List Nat} (hs:Sf s.1 s.2):(strL s).length≤24:=by
 unfold strL
 rw [List.length_map]
 refine Nat.le_trans (List.length_filter_le _ _) ?_
 rw [angL_len]
 exact cycles_len (p:=arnd s.1 s.2) (by rw [arnd_len];exact hs.le)
end Go.Proofs.YtoijcallajegfaaGreat.M
end
section
/- The strata: the program and the reference list them alike. No conditions. -/
namespace Go.Proofs.YtoijcallajegfaaGreat.M
set_option linter.unusedVariables false
set_option linter.unusedSimpArgs false
open Go.RowKit Go.Proofs.YtoijcallajegfaaGreatW.PrintWords Go.Proofs.YtoijcallajegfaaGreatW.PrintLast Go.Proofs.YtoijcallajegfaaGreatW.PrintMore Go.Proofs.YtoijcallajegfaaGreat.A
def LUp (l:List (List Nat)):Prop:=l.Pairwise (fun a b=>lexC a b < 0)
theorem LUp.nodup {l:List (List Nat)} (h:LUp l):l.Nodup :=
 h.imp (fun {a b} hab e=>by subst e;rw [(lexC_eq _ _).2 rfl] at hab;omega)
theorem lup_uniq {l l':List (List Nat)} (h:LUp l) (h':LUp l') (hm:∀ x,x ∈ l ↔ x ∈ l'):l = l':=by
 refine List.Perm.eq_of_pairwise (le:=fun a b=>lexC a b < 0) ?_ h h' ((List.perm_ext_iff_of_nodup h.nodup h'.nodup).2 hm)
 intro a b _ _ h1 h2
 have:=lexC_neg a b
 omega
theorem mem_cptGoL:∀ (p:List Nat) (l:List (List Nat)) (y:List Nat),y ∈ p :: cptGo (fun a b=>decide (a = b)) p l ↔ y ∈ p :: l
 | p,[],y=>by simp [cptGo]
 | p,x :: l,y=>by
  have:=mem_cptGoL x l y
  unfold cptGo
  by_cases e:x = p
  ·subst e
   simp only [decide_true,if_true]
   rw [this]
   simp
  ·simp only [e,decide_false,Bool.false_eq_true,if_false]
   rw [List.mem_cons,this,List.mem_cons (l:=x :: l)]
theorem lup_cptGo:∀ (p:List Nat) (l:List (List Nat)),(p :: l).Pairwise (fun a b=>¬ lexC b a < 0)→LUp (p :: cptGo (fun a b=>decide (a = b)) p l)
 | p,[],_=>List.pairwise_singleton _ _
 | p,x :: l,h=>by
  obtain ⟨h1,h2⟩:=List.pairwise_cons.1 h
  have:=lup_cptGo x l h2
  unfold cptGo
  by_cases e:x = p
  ·subst e
   simp only [decide_true,if_true]
   exact this
  ·simp only [e,decide_false,Bool.false_eq_true,if_false]
   refine List.pairwise_cons.2 ⟨?_,this⟩
   intro y hy
   rw [mem_cptGoL] at hy
   have hpx:lexC p x < 0:=by
    have a:=h1 x (by simp)
    have b:=lexC_neg p x
    have c:lexC p x≠0:=fun h0=>e ((lexC_eq _ _).1 h0).symm
    omega
   rcases List.mem_cons.1 hy with rfl | hy
   ·exact hpx
   ·have hxy:=(List.pairwise_cons.1 h2).1 y hy
    by_cases e0:lexC x y = 0
    ·rw [← (lexC_eq _ _).1 e0];exact hpx
    ·have:=lexC_neg x y
     exact lexC_tr _ _ _ hpx (by omega)
theorem merge_uniq (l R:List (List Nat)) (h:LUp R) (hm:∀ x,x ∈ R ↔ x ∈ l):cpt (fun a b=>decide (a = b)) (l.mergeSort (fun a b=>decide (¬ lexC b a < 0))) = R:=by
 have hp:=List.mergeSort_perm l (fun a b=>decide (¬ lexC b a < 0))
 have hs:(l.mergeSort (fun a b=>decide (¬ lexC b a < 0))).Pairwise (fun a b=>¬ lexC b a < 0):=by
  have:=List.pairwise_mergeSort (le:=fun a b=>decide (¬ lexC b a < 0)) (fun a b c h1 h2=>decide_eq_true (lexC_le_tr c b a (of_decide_eq_true h2) (of_decide_eq_true h1))) (fun a b=>by
   have:=lexC_neg a b
   simp only [Bool.or_eq_true,decide_eq_true_eq]
   omega) l
  exact this.imp (fun h=>of_decide_eq_true h)
 generalize l.mergeSort (fun a b=>decide (¬ lexC b a < 0)) = m at hp hs
 cases m with
 | nil =>
  have:l = []:=hp.symm.eq_nil
  subst this
  cases R with
  | nil=>rfl
  | cons y R=>exact absurd ((hm y).1 (by simp)) (by simp)
 | cons x m =>
  refine lup_uniq (lup_cptGo x m hs) h ?_
  intro y
  show y ∈ x :: cptGo (fun a b=>decide (a = b)) x m ↔ _
  rw [mem_cptGoL,hp.mem_iff,hm]
def strN:Nat→List (List Nat)
 | 1=>[[]]
 | 2=>[[]]
 | 3=>[[],[2]]
 | 4=>[[],[1,1],[2]]
 | _=>[]
theorem str_tab:∀ n:Fin 5,(strN n.val).Pairwise (fun a b=>lexC a b < 0)∧(∀ x ∈ strN n.val,x ∈ (tabN n.val).map strL)∧(∀ x ∈ (tabN n.val).map strL,x ∈ strN n.val):=by decide +kernel
theorem str_small:∀ n:Fin 5,(strN n.val).length≤3∧∀ x ∈ strN n.val,x.length≤2:=by decide +kernel
theorem spec_str_tab:∀ n:Fin 5,Z20.l0 200 [] (LS (tabN n.val)) ((LS (tabN n.val)).length:Int) 0 = some (I2 (strN n.val)):=by decide +kernel
theorem spec_strata {n:Nat} (h1:1≤n) (h4:n≤4):Ev (fun k=>Z20.f k (n:Int)) (I2 (strN n)):=by
 have h:=spec_with h1 h4
 rw [surf_tab h1 h4] at h
 unfold Z20.f
 exact Ev.bind h (Ev.of (fun k=>(Z20.mono_l k).1 _ _ _ _) (spec_str_tab ⟨n,by omega⟩))
theorem spec_strata_no {n:Int} (h:¬ (1≤n∧n≤4)):Ev (fun k=>Z20.f k n) ([]:List (List Int)):=by
 unfold Z20.f
 exact Ev.bind (spec_no h) (Ev.of (fun k=>(Z20.mono_l k).1 _ _ _ _) (spec_str_tab ⟨0,by omega⟩))
theorem compL_f {l:List (List Nat)} {R:List (List Nat)} (h:LUp R) (hm:∀ x,x ∈ R ↔ x ∈ l) (hl:l.length≤1000) (hs:∀ x ∈ l,x.length≤1000):slices_CompactFunc_int_int.f (I2 l) = some (I2 R):=by
 unfold slices_CompactFunc_int_int.f
 have e1:(I2 l).map toL = l:=by
  unfold I2
  rw [List.map_map]
  conv=>rhs;rw [← List.map_id l]
  exact List.map_congr_left (fun x _=>N_I x)
 have e2:∀ x ∈ I2 l,NN x:=by
  intro x hx
  obtain ⟨y,hy,rfl⟩:=List.mem_map.1 hx
  have:=hs y hy
  exact I_NN (by omega)
 rw [if_pos ⟨e2,by rw [I2_len];omega⟩,e1,merge_uniq l R h hm]
 rfl
theorem strata_loop (l:List (List Nat × List Nat)) (hl:l.length≤1000) (hs:∀ s ∈ l,Sf s.1 s.2) {R:List (List Nat)} (h:LUp R) (hm:∀ x,x ∈ R ↔ x ∈ l.map strL):∀ (rest pre:List (List Nat × List Nat)),pre ++ rest = l→Ev (fun k=>Z18.l0 k (I2 (pre.map strL)) (LS l) ((LS l).length:Int) (pre.length:Int)) (I2 R):=by
 intro rest
 induction rest with
 | nil =>
  intro pre e
  rw [List.append_nil] at e
  subst e
  refine ev_succ ?_
  have d1:¬ ((pre.length:Int) < ((LS pre).length:Int)):=by rw [LS_len];omega
  have d2:=compL_f h hm (by rw [List.length_map];omega) (fun x hx=>by
   obtain ⟨y,hy,rfl⟩:=List.mem_map.1 hx
   have:=strL_le (hs y hy)
   omega)
  simp only [Z18.l0,d1,if_false,d2,Option.bind_some]
  exact Ev.now _
 | cons s rest ih =>
  intro pre e
  have hlen:l.length = pre.length + (rest.length + 1):=by rw [← e];simp
  have h0:=hs s (by rw [← e];simp)
  refine ev_succ ?_
  have d1:((pre.length:Int) < ((LS l).length:Int)):=by rw [LS_len];omega
  have d2:(0:Int)≤(pre.length:Int):=by omega
  have d3:=w64s pre.length (by omega)
  have d4:rd_T38 (LS l) (pre.length:Int) = ⟨I s.1,I s.2⟩:=by rw [← e];exact LS_mid pre s rest
  have e3:((pre ++ [s]).length:Int) = ((pre.length + 1:Nat):Int):=by simp
  have d5:(I2 (pre.map strL)).length < 5864062014805:=by rw [I2_len,List.length_map];omega
  have d6:I2 (pre.map strL) ++ [I (strL s)] = I2 ((pre ++ [s]).map strL):=by rw [I2_snoc];simp
  have key:=ih (pre ++ [s]) (by rw [← e];simp)
  rw [e3] at key
  simp only [Z18.l0,d1,d2,d4,if_true]
  refine Ev.bind (impl_strat h0) ?_
  simp only [d5,if_true,d6,d3]
  exact key
theorem impl_strata {n:Nat} (h1:1≤n) (h4:n≤4):Ev (fun k=>Z18.f k (n:Int)) (I2 (strN n)):=by
 obtain ⟨a,b⟩:=tabN_ok h4
 have h:=impl_with h1 h4
 rw [surf_tab h1 h4] at h
 obtain ⟨t1,t2,t3⟩:=str_tab ⟨n,by omega⟩
 unfold Z18.f
 exact Ev.bind h (strata_loop (tabN n) (by omega) b t1 (fun x=>⟨t2 x,t3 x⟩) (tabN n) [] rfl)
theorem impl_strata_no {n:Int} (h:¬ (1≤n∧n≤4)):Ev (fun k=>Z18.f k n) ([]:List (List Int)):=by
 unfold Z18.f
 exact Ev.bind (impl_no h) (strata_loop [] (by simp) (by simp) (R:=[]) List.Pairwise.nil (fun x=>by simp) [] [] rfl)
end Go.Proofs.YtoijcallajegfaaGreat.M
end
section
/- Marks on lists of lists, as laws lay them. No conditions. -/
namespace Go.Proofs.YtoijcallajegfaaGreat.M
set_option linter.unusedVariables false
set_option linter.unusedSimpArgs false
open Go.RowKit Go.Proofs.YtoijcallajegfaaGreatW.PrintWords Go.Proofs.YtoijcallajegfaaGreatW.PrintLast Go.Proofs.YtoijcallajegfaaGreatW.PrintMore Go.Proofs.YtoijcallajegfaaGreat.A
theorem markSS_ev (xs:List (List Int)) (a:Int) (h0:0≤a) (h:a + (totL xs:Int)≤9000000000000000000) (hl:xs.length≤1000000000):Ev (fun k=>Z29.f k xs a) (a + (totL xs:Int),mkSS xs a):=by
 unfold Z29.f
 have H:∀ (rest p:List (List Int)) (b:Int),0≤b→b + (totL rest:Int)≤9000000000000000000→p.length + rest.length≤1000000000→Ev (fun k=>Z29.l0 k (p ++ rest) b (p.length:Int)) (b + (totL rest:Int),p ++ mkSS rest b):=by
  intro rest
  induction rest with
  | nil =>
   intro p b hb ht hlen
   refine ev_succ ?_
   have h1:¬ ((p.length:Int) < ((p ++ ([]:List (List Int))).length:Int)):=by simp
   simp only [Z29.l0,h1,if_false]
   have:b + (totL []:Int) = b:=by simp [totL]
   rw [this]
   exact Ev.now _
  | cons x rest ih =>
   intro p b hb ht hlen
   rw [totL_cons] at ht
   refine ev_succ ?_
   have h1:(p.length:Int) < ((p ++ x :: rest).length:Int):=by simp;omega
   have h2:(0:Int)≤(p.length:Int):=by omega
   have h3:=w64s p.length (by omega)
   have h4:rdOf ([]:List Int) (p ++ x :: rest) (p.length:Int) = x:=by unfold rdOf;rw [Int.toNat_natCast];exact getD_mid p x rest []
   simp only [Z29.l0,h1,h2,h4,if_true,Int.toNat_natCast,set_mid]
   refine Ev.bind (mark_ev x b hb (by omega)) ?_
   simp only [h3]
   have:=ih (p ++ [markL x.length b]) (b + (x.length:Int)) (by omega) (by omega) (by simp at hlen ⊢;omega)
   rw [snoc_app]
   have e:((p ++ [markL x.length b]).length:Int) = ((p.length + 1:Nat):Int):=by simp
   rw [e] at this
   rw [totL_cons]
   have e2:b + ((x.length + totL rest:Nat):Int) = b + (x.length:Int) + (totL rest:Int):=by omega
   rw [e2]
   have e3:p ++ mkSS (x :: rest) b = p ++ [markL x.length b] ++ mkSS rest (b + (x.length:Int)):=by simp [mkSS]
   rw [e3]
   exact this
 exact H xs [] a h0 h (by simpa using hl)
theorem heldSS_ev (xs:List (List Int)) (a:Int) (h0:0≤a) (h:a + (totL xs:Int)≤9000000000000000000) (hl:xs.length≤1000000000):Ev (fun k=>Z28.f k (mkSS xs a) a) (a + (totL xs:Int)):=by
 unfold Z28.f
 have H:∀ (rest p:List (List Int)) (b:Int),0≤b→b + (totL rest:Int)≤9000000000000000000→p.length + rest.length≤1000000000→Ev (fun k=>Z28.l0 k (p ++ mkSS rest b) b (p.length:Int)) (b + (totL rest:Int)):=by
  intro rest
  induction rest with
  | nil =>
   intro p b hb ht hlen
   refine ev_succ ?_
   have h1:¬ ((p.length:Int) < ((p ++ mkSS [] b).length:Int)):=by simp [mkSS]
   simp only [Z28.l0,h1,if_false]
   have:b + (totL []:Int) = b:=by simp [totL]
   rw [this]
   exact Ev.now _
  | cons x rest ih =>
   intro p b hb ht hlen
   rw [totL_cons] at ht
   refine ev_succ ?_
   have h1:(p.length:Int) < ((p ++ mkSS (x :: rest) b).length:Int):=by simp [mkSS];omega
   have h2:(0:Int)≤(p.length:Int):=by omega
   have h3:=w64s p.length (by omega)
   have h4:rd_L1 (p ++ mkSS (x :: rest) b) (p.length:Int) = markL x.length b:=by unfold rd_L1;rw [Int.toNat_natCast];exact getD_mid p _ _ []
   simp only [Z28.l0,h1,h2,h4,if_true]
   refine Ev.bind (held_ev x.length b hb (by omega)) ?_
   have h5:¬ (b + (x.length:Int) < 0):=by omega
   simp only [h3,h5,if_false]
   have:=ih (p ++ [markL x.length b]) (b + (x.length:Int)) (by omega) (by omega) (by simp at hlen ⊢;omega)
   have e:((p ++ [markL x.length b]).length:Int) = ((p.length + 1:Nat):Int):=by simp
   rw [e] at this
   rw [totL_cons]
   have e2:b + ((x.length + totL rest:Nat):Int) = b + (x.length:Int) + (totL rest:Int):=by omega
   rw [e2]
   have e3:p ++ mkSS (x :: rest) b = p ++ [markL x.length b] ++ mkSS rest (b + (x.length:Int)):=by simp [mkSS]
   rw [e3]
   exact this
 exact H xs [] a h0 h (by simpa using hl)
theorem eqSS_same (xs:List (List Int)) (hl:xs.length≤1000000000) (h:∀ x ∈ xs,x.length≤1000000000):Ev (fun k=>Z56.f k xs xs) true:=by
 unfold Z56.f
 simp only [if_true]
 have H:∀ (rest p:List (List Int)),p.length + rest.length≤1000000000→(∀ x ∈ rest,x.length≤1000000000)→Ev (fun k=>Z56.l0 k (p ++ rest) (p ++ rest) (p.length:Int)) true:=by
  intro rest
  induction rest with
  | nil =>
   intro p hlen hx
   refine ev_succ ?_
   have h1:¬ ((p.length:Int) < ((p ++ ([]:List (List Int))).length:Int)):=by simp
   simp only [Z56.l0,h1,if_false]
   exact Ev.now _
  | cons x rest ih =>
   intro p hlen hx
   refine ev_succ ?_
   have h1:(p.length:Int) < ((p ++ x :: rest).length:Int):=by simp;omega
   have h2:(0:Int)≤(p.length:Int):=by omega
   have h3:=w64s p.length (by omega)
   have h4:rd_L1 (p ++ x :: rest) (p.length:Int) = x:=by unfold rd_L1;rw [Int.toNat_natCast];exact getD_mid p _ _ []
   simp only [Z56.l0,h1,h2,h4,if_true]
   refine Ev.bind (eqInts_same x (by have:=hx x (by simp);omega)) ?_
   simp only [if_true,h3]
   rw [snoc_app]
   have:=ih (p ++ [x]) (by simp at hlen ⊢;omega) (fun y hy=>hx y (by simp [hy]))
   have e:((p ++ [x]).length:Int) = ((p.length + 1:Nat):Int):=by simp
   rw [e] at this
   exact this
 exact H xs [] (by simpa using hl) h
end Go.Proofs.YtoijcallajegfaaGreat.M
end
section
/- The law of strata answers true. No conditions. -/
namespace Go.Proofs.YtoijcallajegfaaGreat.Pure
set_option linter.unusedVariables false
set_option linter.unusedSimpArgs false
set_option linter.unusedVariables false
set_option linter.unusedSimpArgs false
open Go.RowKit Go.Proofs.YtoijcallajegfaaGreatW.PrintWords Go.Proofs.YtoijcallajegfaaGreatW.PrintLast Go.Proofs.YtoijcallajegfaaGreatW.PrintMore Go.Proofs.YtoijcallajegfaaGreat.A Go.Proofs.YtoijcallajegfaaGreat.M
theorem FnExactStrataWith (n:Int) (hn:(Lit.int .i64 n).wf = true):∃ k,Z2.F k n:=by
 unfold Z2.F
 have key:∃ l:List (List Int),l.length≤3∧(∀ x ∈ l,x.length≤2)∧totL l≤6∧Ev (fun k=>Z20.f k n) l∧Ev (fun k=>Z18.f k n) l:=by
  by_cases h:1≤n∧n≤4
  ·obtain ⟨m,rfl⟩:∃ m:Nat,n = (m:Int):=⟨n.toNat,by omega⟩
   obtain ⟨a,b⟩:=str_small ⟨m,by omega⟩
   refine ⟨_,by rw [I2_len];exact a,?_,?_,spec_strata (by omega) (by omega),impl_strata (by omega) (by omega)⟩
   ·intro x hx
    obtain ⟨y,hy,rfl⟩:=List.mem_map.1 hx
    rw [I_len]
    exact b y hy
   ·rw [I2_tot]
    have hf:∀ l:List (List Nat),(∀ x ∈ l,x.length≤2)→l.flatten.length≤l.length * 2:=by
     intro l
     induction l with
     | nil=>intro _;simp
     | cons x l ih =>
      intro h
      have:=ih (fun y hy=>h y (List.mem_cons_of_mem _ hy))
      have:=h x (by simp)
      rw [List.flatten_cons,List.length_append,List.length_cons]
      omega
    have hf1:(strN m).flatten.length≤(strN m).length * 2:=hf _ b
    have a':(strN m).length≤3:=a
    show (strN m).flatten.length≤6
    omega
  ·exact ⟨[],by simp,by simp,by simp [totL],spec_strata_no h,impl_strata_no h⟩
 obtain ⟨l,hl,hx,ht,⟨K1,e1⟩,⟨K2,e2⟩⟩:=key
 obtain ⟨K5,e5⟩:=eqSS_same l (by omega) (fun x h=>by have:=hx x h;omega)
 obtain ⟨K7,e7⟩:=markSS_ev l 1 (by omega) (by omega) (by omega)
 obtain ⟨K8,e8⟩:=heldSS_ev l 1 (by omega) (by omega) (by omega)
 exact ⟨K1 + K2 + K5 + K7 + K8,l,_,_,e1 _ (by omega),e2 _ (by omega),e5 _ (by omega),e7 _ (by omega),e8 _ (by omega),decide_eq_false (by omega)⟩
end Go.Proofs.YtoijcallajegfaaGreat.Pure
end
