/- Lemmas for the row FnExactGeneratorWords: the program's functions told as plain functions, and plain mathematics. No conditions. -/
import Derived.Test.YtcggfjpnfodbaaaQFnExactGeneratorWords4
section
/- The tests of surfaces, program and reference, come to one plain test. No conditions. -/
namespace Go.Proofs.Ytcggfjpnfodbaaa.M
set_option linter.unusedVariables false
set_option linter.unusedSimpArgs false
open Go.RowKit Go.Proofs.YtcggfjpnfodbaaaW.PrintWords Go.Proofs.YtcggfjpnfodbaaaW.PrintLast Go.Proofs.YtcggfjpnfodbaaaW.PrintMore Go.Proofs.Ytcggfjpnfodbaaa.A
theorem I_pair (a b:Nat):([(a:Int),(b:Int)]:List Int) = I [a,b]:=rfl
theorem I_len' (l:List Nat):((I l).length:Int) = (l.length:Int):=by rw [I_len]
theorem st1_I (out:List Nat) (x:Nat):I (st1 out x) = if (x:Int) ∈ I out then I out else I out ++ [(x:Int)]:=by
 unfold st1
 by_cases h:x ∈ out
 ·rw [if_pos h,if_pos (mem_I.mpr h)]
 ·rw [if_neg h,if_neg (fun k=>h (mem_I.mp k)),I_snoc]
theorem reach_one (p q out pr:List Nat) (a:Nat) (j:Nat) (hj:j < pr.length) (hp:pr.length≤2) (hl:out.length≤1000) (r:List Int)
  (H:Ev (fun k=>Z50.l1 k (I p) (I q) (I (st1 out (g pr j))) (a:Int) (I pr) (pr.length:Int) ((j + 1:Nat):Int)) r) :
  Ev (fun k=>Z50.l1 k (I p) (I q) (I out) (a:Int) (I pr) (pr.length:Int) (j:Int)) r:=by
 refine ev_succ ?_
 have h1:(j:Int) < (pr.length:Int):=by omega
 have h2:(0:Int)≤(j:Int):=by omega
 have h3:=w64s j (by omega)
 have h4:(I out).length < 17592186044416:=by rw [I_len];omega
 have hh:=has_ev (I out) ((g pr j:Nat):Int) (by rw [I_len];omega)
 simp only [Z50.l1,h1,h2,h3,h4,rdI,I_len',if_true]
 refine Ev.bind hh ?_
 rw [st1_I] at H
 by_cases hm:((g pr j:Nat):Int) ∈ I out
 ·rw [if_pos hm] at H
  simp only [hm,decide_true,if_true]
  exact H
 ·rw [if_neg hm] at H
  simp only [hm,decide_false,Bool.false_eq_true,if_false]
  exact H
theorem reach_loop {p q:List Nat} (hp:IsP p) (hq:IsP q) (hl:q.length = p.length) (h24:p.length≤24) (f:Nat):∀ (a:Nat) (out:List Nat),RInv p.length out→a≤out.length→p.length < f + a →
  Ev (fun k=>Z50.l0 k (I p) (I q) (I out) (a:Int)) (I (bfs p q f a out)):=by
 induction f with
 | zero =>
  intro a out hr ha hf
  have:=hr.le
  omega
 | succ f ih =>
  intro a out hr ha hf
  have hle:=hr.le
  refine ev_succ ?_
  by_cases h:a < out.length
  ·have h1:(a:Int) < (out.length:Int):=by omega
   have h2:(0:Int)≤(a:Int):=by omega
   have hx:=hr.g h
   have h3:((g out a:Nat):Int) < (p.length:Int):=by omega
   have h4:(0:Int)≤((g out a:Nat):Int):=by omega
   have h5:((g out a:Nat):Int) < (q.length:Int):=by omega
   have h6:=w64s a (by omega)
   simp only [Z50.l0,h1,h2,h3,h4,h5,rdI,I_len',if_true,Option.bind_some,I_pair]
   have r1:=hr.st (g_lt hp hx)
   have r2:=r1.st (x:=g q (g out a)) (by have:=g_lt hq (i:=g out a) (by omega);omega)
   have hb:bfs p q (f + 1) a out = bfs p q f (a + 1) (st1 (st1 out (g p (g out a))) (g q (g out a))):=by
    rw [bfs,if_pos h]
   rw [hb]
   have i1:=ih (a + 1) _ r2 (by have:=st1_len out (g p (g out a));have:=st1_len (st1 out (g p (g out a))) (g q (g out a));omega) (by omega)
   refine reach_one p q out [g p (g out a),g q (g out a)] a 0 (by simp) (by simp) (by omega) _ ?_
   refine reach_one p q _ [g p (g out a),g q (g out a)] a 1 (by simp) (by simp) (by have:=r1.le;simp only [g,List.getD_cons_zero] at this ⊢;omega) _ ?_
   refine ev_succ ?_
   have h7:¬ (((1 + 1:Nat):Int) < (([g p (g out a),g q (g out a)]:List Nat).length:Int)):=by simp
   simp only [Z50.l1,h7,h6,if_false]
   exact i1
  ·have h1:¬ ((a:Int) < (out.length:Int)):=by omega
   have hb:bfs p q (f + 1) a out = out:=by rw [bfs,if_neg h]
   rw [hb]
   simp only [Z50.l0,h1,I_len',if_false]
   exact Ev.now _
theorem reach_ev {p q:List Nat} (hp:IsP p) (hq:IsP q) (hl:q.length = p.length) (h24:p.length≤24) (s:Nat) (hs:s < p.length):Ev (fun k=>Z50.f k (I p) (I q) (s:Int)) (I (reach p q s)):=by
 unfold Z50.f reach
 exact reach_loop hp hq hl h24 (p.length + 1) 0 [s] ⟨by simp,by simpa using hs⟩ (by simp) (by omega)
theorem len_ne_false {r u:List Int} (h:r.length≠u.length):surfB r u = false:=by
 unfold surfB
 simp [h]
theorem surfB_mk {r u:List Int} (h1:permB r = true) (h2:permB u = true) (h3:r.length = u.length) (h4:0 < r.length):surfB r u = ((reach (N r) (N u) 0).length == r.length):=by
 unfold surfB
 simp [h1,h2,h3,h4]
 intro _
 omega
theorem spec_trans (r u:List Int):Ev (fun k=>Z14.f k r u) (surfB r u):=by
 unfold Z14.f
 refine Ev.bind (spec_permOk r) ?_
 by_cases h1:permB r = true
 ·simp only [h1,if_true]
  refine Ev.bind (spec_permOk u) ?_
  by_cases h2:permB u = true
  ·simp only [h2,if_true]
   by_cases h3:(r.length:Int) = (u.length:Int)
   ·have h3':r.length = u.length:=by omega
    by_cases h4:(r.length:Int) > 0
    ·have h4':0 < r.length:=by omega
     rw [surfB_mk h1 h2 h3' h4']
     obtain ⟨p,rfl,a1,a2⟩:=PI_nat (of_decide_eq_true h1)
     obtain ⟨q,rfl,b1,b2⟩:=PI_nat (of_decide_eq_true h2)
     rw [I_len,I_len] at h3'
     rw [I_len] at h4'
     have:=reach_ev a1 b1 h3'.symm a2 0 h4'
     simp only [h3,h4,if_true]
     rw [h3] at h4
     simp only [h4,if_true]
     refine Ev.bind this ?_
     rw [N_I,N_I]
     have e:(((I (reach p q 0)).length:Int) == ((I q).length:Int)) = ((reach p q 0).length == (I p).length):=by
      rw [I_len,I_len,I_len,Bool.eq_iff_iff,beq_iff_eq,beq_iff_eq]
      omega
     rw [← h3] at e
     simp only [h3] at e
     rw [← e]
     exact Ev.now _
    ·simp only [h3,if_true]
     rw [h3] at h4
     simp only [h4,if_false]
     have:surfB r u = false:=by
      unfold surfB
      have:¬ 0 < r.length:=by omega
      simp [this]
     rw [this]
     exact Ev.now _
   ·simp only [h3,if_false]
    rw [len_ne_false (by omega)]
    exact Ev.now _
  ·have h2':=Bool.eq_false_iff.mpr h2
   simp only [h2',Bool.false_eq_true,if_false]
   have:surfB r u = false:=by unfold surfB;simp [h2']
   rw [this]
   exact Ev.now _
 ·have h1':=Bool.eq_false_iff.mpr h1
  simp only [h1',Bool.false_eq_true,if_false]
  have:surfB r u = false:=by unfold surfB;simp [h1']
  rw [this]
  exact Ev.now _
theorem spec_surf (r u:List Int):Ev (fun k=>Z37.f k r u) (surfB r u):=by
 unfold Z37.f
 exact Ev.bind (spec_trans r u) (Ev.now _)
def Marks (n:Nat) (s:List Bool) (out:List Nat):Prop:=s.length = n∧∀ x,x < n→(s.getD x false = true ↔ x ∈ out)
theorem Marks.add {n:Nat} {s:List Bool} {out:List Nat} {x:Nat} (h:Marks n s out) (hx:x < n):Marks n (s.set x true) (out ++ [x]):=by
 refine ⟨by rw [List.length_set];exact h.1,fun y hy=>?_⟩
 rw [getD_set s x y (by rw [h.1];exact hx)]
 by_cases e:x = y
 ·subst e
  simp
 ·rw [if_neg e,h.2 y hy]
  have:¬ y = x:=fun k=>e k.symm
  simp [this]
theorem trans_one (p q out pr:List Nat) (s:List Bool) (a:Nat) (j:Nat) (hj:j < pr.length) (hp:pr.length≤2) (hl:out.length≤1000) (hm:Marks p.length s out) (hx:g pr j < p.length) (r:Bool)
  (H:∀ s',Marks p.length s' (st1 out (g pr j))→Ev (fun k=>Z12.l1 k (I p) (I q) s' (I (st1 out (g pr j))) (a:Int) (I pr) (pr.length:Int) ((j + 1:Nat):Int)) r) :
  Ev (fun k=>Z12.l1 k (I p) (I q) s (I out) (a:Int) (I pr) (pr.length:Int) (j:Int)) r:=by
 refine ev_succ ?_
 have h1:(j:Int) < (pr.length:Int):=by omega
 have h2:(0:Int)≤(j:Int):=by omega
 have h3:=w64s j (by omega)
 have h4:(I out).length < 17592186044416:=by rw [I_len];omega
 have h5:(0:Int)≤((g pr j:Nat):Int):=by omega
 have h6:((g pr j:Nat):Int) < (s.length:Int):=by rw [hm.1];omega
 simp only [Z12.l1,h1,h2,h3,h4,h5,h6,rdI,I_len',rdOf_nat,if_true,Int.toNat_natCast]
 by_cases hin:g pr j ∈ out
 ·have hs:=(hm.2 _ hx).mpr hin
  have e:st1 out (g pr j) = out:=by unfold st1;rw [if_pos hin]
  have:=H s (by rw [e];exact hm)
  rw [e] at this
  simp only [hs,if_true]
  exact this
 ·have hs:s.getD (g pr j) false = false:=Bool.eq_false_iff.mpr (fun h=>hin ((hm.2 _ hx).mp h))
  have e:st1 out (g pr j) = out ++ [g pr j]:=by unfold st1;rw [if_neg hin]
  have:=H (s.set (g pr j) true) (by rw [e];exact hm.add hx)
  rw [e,← I_snoc] at this
  simp only [hs,Bool.false_eq_true,if_false]
  exact this
theorem trans_loop {p q:List Nat} (hp:IsP p) (hq:IsP q) (hl:q.length = p.length) (h24:p.length≤24) (f:Nat):∀ (a:Nat) (out:List Nat) (s:List Bool),RInv p.length out→Marks p.length s out→a≤out.length→p.length < f + a →
  Ev (fun k=>Z12.l0 k (I p) (I q) s (I out) (a:Int)) ((bfs p q f a out).length == p.length):=by
 induction f with
 | zero =>
  intro a out s hr hm ha hf
  have:=hr.le
  omega
 | succ f ih =>
  intro a out s hr hm ha hf
  have hle:=hr.le
  refine ev_succ ?_
  by_cases h:a < out.length
  ·have h1:(a:Int) < (out.length:Int):=by omega
   have h2:(0:Int)≤(a:Int):=by omega
   have hx:=hr.g h
   have h3:((g out a:Nat):Int) < (p.length:Int):=by omega
   have h4:(0:Int)≤((g out a:Nat):Int):=by omega
   have h5:((g out a:Nat):Int) < (q.length:Int):=by omega
   have h6:=w64s a (by omega)
   simp only [Z12.l0,h1,h2,h3,h4,h5,rdI,I_len',if_true,Option.bind_some,I_pair]
   have hg1:=g_lt hp hx
   have hg2:g q (g out a) < p.length:=by have:=g_lt hq (i:=g out a) (by omega);omega
   have r1:=hr.st hg1
   have r2:=r1.st hg2
   have hb:bfs p q (f + 1) a out = bfs p q f (a + 1) (st1 (st1 out (g p (g out a))) (g q (g out a))):=by
    rw [bfs,if_pos h]
   rw [hb]
   refine trans_one p q out [g p (g out a),g q (g out a)] s a 0 (by simp) (by simp) (by omega) hm hg1 _ (fun s1 hm1=>?_)
   refine trans_one p q _ [g p (g out a),g q (g out a)] s1 a 1 (by simp) (by simp) (by have:=r1.le;simp only [g,List.getD_cons_zero] at this ⊢;omega) hm1 hg2 _ (fun s2 hm2=>?_)
   refine ev_succ ?_
   have h7:¬ (((1 + 1:Nat):Int) < (([g p (g out a),g q (g out a)]:List Nat).length:Int)):=by simp
   simp only [Z12.l1,h7,h6,if_false]
   exact ih (a + 1) _ s2 r2 hm2 (Nat.le_trans (by omega:a + 1≤out.length) (Nat.le_trans (st1_len _ _) (st1_len _ _))) (by omega)
  ·have h1:¬ ((a:Int) < (out.length:Int)):=by omega
   have hb:bfs p q (f + 1) a out = out:=by rw [bfs,if_neg h]
   rw [hb]
   simp only [Z12.l0,h1,I_len',if_false]
   have e:((out.length:Int) == (p.length:Int)) = (out.length == p.length):=by
    rw [Bool.eq_iff_iff,beq_iff_eq,beq_iff_eq]
    omega
   rw [e]
   exact Ev.now _
theorem j0_true (r u:List Int):Ev (fun k=>Z12.j0 k r u true) false:=by
 refine ev_succ ?_
 simp only [Z12.j0,if_true]
 exact Ev.now _
theorem impl_trans (r u:List Int):Ev (fun k=>Z12.f k r u) (surfB r u):=by
 unfold Z12.f
 refine Ev.bind (impl_permOk r) ?_
 by_cases h1:permB r = true
 ·simp only [h1,if_true]
  refine Ev.bind (impl_permOk u) ?_
  by_cases h2:permB u = true
  ·simp only [h2,if_true]
   by_cases h3:(r.length:Int) = (u.length:Int)
   ·have h3':r.length = u.length:=by omega
    simp only [h3,if_true]
    by_cases h4:0 < r.length
    ·rw [surfB_mk h1 h2 h3' h4]
     obtain ⟨p,rfl,a1,a2⟩:=PI_nat (of_decide_eq_true h1)
     obtain ⟨q,rfl,b1,b2⟩:=PI_nat (of_decide_eq_true h2)
     rw [I_len,I_len] at h3'
     rw [I_len] at h4
     refine ev_succ ?_
     have e0:((q.length:Int) == 0) = false:=by rw [beq_eq_false_iff_ne];omega
     have e1:(0:Int)≤(p.length:Int):=by omega
     have e2:((p.length:Int)).toNat≤281474976710656:=by omega
     have e3:(0:Int) < ((List.replicate p.length false).length:Int):=by rw [List.length_replicate];omega
     simp only [Z12.j0,e0,I_len',e1,e2,Bool.false_eq_true,if_true,if_false,Option.bind_some,Int.toNat_natCast,e3]
     simp only [Int.toNat_natCast] at e2
     simp only [e2,if_true]
     rw [N_I,N_I,I_len]
     refine trans_loop a1 b1 h3'.symm a2 (p.length + 1) 0 [0] _ ⟨by simp,by simpa using h4⟩ ?_ (by simp) (by omega)
     refine ⟨by simp,fun x hx=>?_⟩
     have:(0:Int).toNat = 0:=rfl
     rw [this,getD_set _ 0 x (by simp;omega)]
     by_cases e:0 = x
     ·subst e
      simp
     ·rw [if_neg e]
      have h0:¬ x = 0:=fun h=>e h.symm
      have:(List.replicate p.length false).getD x false = false:=by
       rw [List.getD_eq_getElem?_getD,List.getElem?_replicate]
       simp [hx]
      rw [this]
      simp [h0]
    ·have e0:((u.length:Int) == 0) = true:=by rw [beq_iff_eq];omega
     have:surfB r u = false:=by unfold surfB;simp [h4]
     rw [this]
     simp only [e0]
     exact j0_true r u
   ·simp only [h3,if_false]
    rw [len_ne_false (by omega)]
    exact j0_true r u
  ·have h2':=Bool.eq_false_iff.mpr h2
   simp only [h2',Bool.false_eq_true,if_false]
   have:surfB r u = false:=by unfold surfB;simp [h2']
   rw [this]
   exact j0_true r u
 ·have h1':=Bool.eq_false_iff.mpr h1
  simp only [h1',Bool.false_eq_true,if_false]
  have:surfB r u = false:=by unfold surfB;simp [h1']
  rw [this]
  exact j0_true r u
theorem impl_surf (r u:List Int):Ev (fun k=>Z31.f k r u) (surfB r u):=by
 unfold Z31.f
 exact Ev.bind (impl_trans r u) (Ev.now _)
end Go.Proofs.Ytcggfjpnfodbaaa.M
end
section
/- What every law does with its arguments; inverses. No conditions. -/
namespace Go.Proofs.Ytcggfjpnfodbaaa.M
set_option linter.unusedVariables false
set_option linter.unusedSimpArgs false
open Go.RowKit Go.Proofs.YtcggfjpnfodbaaaW.PrintWords Go.Proofs.YtcggfjpnfodbaaaW.PrintLast Go.Proofs.YtcggfjpnfodbaaaW.PrintMore Go.Proofs.Ytcggfjpnfodbaaa.A
theorem rd_set {l:List Int} {i j:Nat} {x:Int} (h:i < l.length):rd (l.set i x) (j:Int) = if i = j then x else rd l (j:Int):=by
 unfold rd
 simp only [Int.toNat_natCast]
 rw [List.getD_eq_getElem?_getD,List.getD_eq_getElem?_getD,List.getElem?_set]
 by_cases e:i = j
 ·subst e
  simp [h]
 ·simp [e]
theorem ext_rd {a b:List Int} (hl:a.length = b.length) (h:∀ i:Nat,i < a.length→rd a (i:Int) = rd b (i:Int)):a = b:=by
 apply List.ext_getElem hl
 intro i h1 h2
 rw [← rd_get a i h1,← rd_get b i h2]
 exact h i h1
theorem sz_small {r u:List Int} (h:r.length + u.length≤1048576):Z35.f r u 1048576 = some (1048576 - (r.length:Int) - (u.length:Int)):=by
 unfold Z35.f Z63.f
 have e1:wrap64 (1048576 - (r.length:Int)) = 1048576 - (r.length:Int):=w64 (by omega) (by omega)
 have e2:wrap64 (1048576 - (r.length:Int) - (u.length:Int)) = 1048576 - (r.length:Int) - (u.length:Int):=w64 (by omega) (by omega)
 have c1:¬ (1048576 - (r.length:Int) < 0):=by omega
 have c2:¬ (1048576 - (r.length:Int) - (u.length:Int) < 0):=by omega
 simp only [e1,c1,if_false,Option.bind_some,e2,c2]
theorem sz_big {r u:List Int} (hr:r.length≤9223372036854775807) (hu:u.length≤9223372036854775807) (h:¬ r.length + u.length≤1048576):Z35.f r u 1048576 = some (-1):=by
 unfold Z35.f Z63.f
 have e1:wrap64 (1048576 - (r.length:Int)) = 1048576 - (r.length:Int):=w64 (by omega) (by omega)
 by_cases c1:1048576 - (r.length:Int) < 0
 ·have c3:(-1:Int) < 0:=by omega
  simp only [e1,c1,if_true,Option.bind_some,c3]
 ·have e2:wrap64 (1048576 - (r.length:Int) - (u.length:Int)) = 1048576 - (r.length:Int) - (u.length:Int):=w64 (by omega) (by omega)
  have c2:1048576 - (r.length:Int) - (u.length:Int) < 0:=by omega
  have c3:(-1:Int) < 0:=by omega
  simp only [e1,c1,if_false,Option.bind_some,e2,c2,if_true,c3]
theorem toInts_ev (l:List Int) (h:l.length≤1048576):Ev (fun k=>Z64.f k l) l:=by
 unfold Z64.f
 have h1:(0:Int)≤(l.length:Int):=by omega
 have h2:((l.length:Int)).toNat≤35184372088832:=by omega
 simp only [h1,h2,if_true]
 have H:∀ (d i:Nat) (c:List Int),i + d = l.length→c.length = l.length→(∀ j:Nat,j < i→rd c (j:Int) = rd l (j:Int))→Ev (fun k=>Z64.l0 k l c (i:Int)) l:=by
  intro d
  induction d with
  | zero =>
   intro i c h hc hx
   refine ev_succ ?_
   have h1:¬ ((i:Int) < (l.length:Int)):=by omega
   have e:c = l:=ext_rd hc (fun j hj=>hx j (by omega))
   simp only [Z64.l0,h1,if_false]
   rw [e]
   exact Ev.now _
  | succ d ih =>
   intro i c h hc hx
   refine ev_succ ?_
   have h1:(i:Int) < (l.length:Int):=by omega
   have h2:(0:Int)≤(i:Int):=by omega
   have h3:(i:Int) < (c.length:Int):=by omega
   have h4:=w64s i (by omega)
   simp only [Z64.l0,h1,h2,h3,h4,if_true,Int.toNat_natCast]
   refine ih (i + 1) _ (by omega) (by rw [List.length_set];exact hc) (fun j hj=>?_)
   rw [rd_set (by omega)]
   by_cases e:i = j
   ·subst e
    simp
   ·rw [if_neg e]
    exact hx j (by omega)
 exact H l.length 0 _ (by omega) (by rw [List.length_replicate];omega) (fun j hj=>by omega)
theorem toSurf_ev (r u:List Int) (hr:r.length≤1048576) (hu:u.length≤1048576):Ev (fun k=>Z36.f k r u) (r,u):=by
 unfold Z36.f
 exact Ev.bind (toInts_ev r hr) (Ev.bind (toInts_ev u hu) (Ev.now _))
theorem eqInts_ev (a b:List Int) (ha:a.length≤9000000000000000000):Ev (fun k=>Z62.f k a b) (decide (a = b)):=by
 unfold Z62.f
 by_cases hl:(a.length:Int) = (b.length:Int)
 ·simp only [hl,if_true]
  have hl':a.length = b.length:=by omega
  have H:∀ d i:Nat,i + d = a.length→∃ c,Ev (fun k=>Z62.l0 k a b (i:Int)) c∧(c = true ↔ ∀ j:Nat,i≤j→j < a.length→rd a (j:Int) = rd b (j:Int)):=by
   intro d
   induction d with
   | zero =>
    intro i h
    refine ⟨true,ev_succ ?_,by simp;intro j h1 h2;omega⟩
    have h1:¬ ((i:Int) < (a.length:Int)):=by omega
    simp only [Z62.l0,h1,if_false]
    exact Ev.now _
   | succ d ih =>
    intro i h
    have h1:(i:Int) < (a.length:Int):=by omega
    have h2:(0:Int)≤(i:Int):=by omega
    have h3:(i:Int) < (b.length:Int):=by omega
    have h4:=w64s i (by omega)
    by_cases c:rd a (i:Int) = rd b (i:Int)
    ·obtain ⟨c',i1,i2⟩:=ih (i + 1) (by omega)
     refine ⟨c',ev_succ ?_,by
      rw [i2]
      constructor
      ·intro k j j1 j2
       by_cases e:j = i
       ·subst e;exact c
       ·exact k j (by omega) j2
      ·intro k j j1 j2
       exact k j (by omega) j2⟩
     simp only [Z62.l0,h1,h2,h3,h4,c,if_true]
     exact i1
    ·refine ⟨false,ev_succ ?_,by
      simp only [Bool.false_eq_true,false_iff]
      intro k
      exact c (k i (Nat.le_refl _) (by omega))⟩
     simp only [Z62.l0,h1,h2,h3,c,if_true,if_false]
     exact Ev.now _
  obtain ⟨c,i1,i2⟩:=H a.length 0 (by omega)
  have:decide (a = b) = c:=by
   rw [Bool.eq_iff_iff,i2,decide_eq_true_iff]
   constructor
   ·intro e j _ _
    rw [e]
   ·intro k
    exact ext_rd hl' (fun j hj=>k j (Nat.zero_le _) hj)
  rw [this]
  exact i1
 ·simp only [hl,if_false]
  have:decide (a = b) = false:=by
   rw [decide_eq_false_iff_not]
   intro e
   exact hl (by rw [e])
  rw [this]
  exact Ev.now _
theorem eqInts_same (a:List Int) (ha:a.length≤9000000000000000000):Ev (fun k=>Z62.f k a a) true:=by
 have:=eqInts_ev a a ha
 simpa using this
theorem eqSurf_same (r u:List Int) (hr:r.length≤9000000000000000000) (hu:u.length≤9000000000000000000):Ev (fun k=>Z34.f k r u r u) true:=by
 unfold Z34.f
 refine Ev.bind (eqInts_same r hr) ?_
 simp only [if_true]
 refine Ev.bind (eqInts_same u hu) ?_
 simp only [if_true]
 exact Ev.now _
theorem inv_of {p c:List Nat} (hp:IsP p) (hc:c.length = p.length) (h:∀ j,j < p.length→g c (g p j) = j):c = inv p:=by
 refine ext_g (by rw [inv_len,hc]) (fun x hx=>?_)
 rw [hc] at hx
 rw [g_inv hx]
 have:=h (ix p x) (ix_lt hp hx)
 rw [g_ix hp hx] at this
 exact this
theorem inv_step {p c:List Nat} (hp:IsP p) {i:Nat} (hi:i < p.length) (hc:c.length = p.length) (h:∀ j,j < i→g c (g p j) = j):∀ j,j < i + 1→g (c.set (g p i) i) (g p j) = j:=by
 intro j hj
 rw [g_set (by rw [hc];exact g_lt hp hi)]
 by_cases e:j = i
 ·subst e
  simp
 ·rw [if_neg (fun k=>e (g_inj hp (by omega) hi k.symm))]
  exact h j (by omega)
theorem spec_inv {p:List Nat} (hp:IsP p) (h24:p.length≤24):Ev (fun k=>Z28.f k (I p)) (I (inv p)):=by
 unfold Z28.f
 have H:∀ (d i:Nat) (c:List Nat),i + d = p.length→c.length = p.length→(∀ j,j < i→g c (g p j) = j)→Ev (fun k=>Z28.l0 k (I c) (I p) (p.length:Int) (i:Int)) (I (inv p)):=by
  intro d
  induction d with
  | zero =>
   intro i c h hc hx
   refine ev_succ ?_
   have h1:¬ ((i:Int) < (p.length:Int)):=by omega
   rw [← inv_of hp hc (fun j hj=>hx j (by omega))]
   simp only [Z28.l0,h1,if_false]
   exact Ev.now _
  | succ d ih =>
   intro i c h hc hx
   refine ev_succ ?_
   have hi:i < p.length:=by omega
   have h1:(i:Int) < (p.length:Int):=by omega
   have h2:(0:Int)≤(i:Int):=by omega
   have h3:=w64s i (by omega)
   have h4:(0:Int)≤((g p i:Nat):Int):=by omega
   have h5:((g p i:Nat):Int) < (c.length:Int):=by have:=g_lt hp hi;omega
   simp only [Z28.l0,h1,h2,h3,h4,h5,rdI,I_len',I_set,if_true,Int.toNat_natCast]
   exact ih (i + 1) _ (by omega) (by rw [List.length_set];exact hc) (inv_step hp hi hc hx)
 have h1:(0:Int)≤(p.length:Int):=by omega
 have h2:p.length≤35184372088832:=by omega
 simp only [I_len',h1,h2,if_true,Int.toNat_natCast]
 have:=H p.length 0 (List.replicate p.length 0) (by omega) (by simp) (fun j hj=>by omega)
 rw [I_rep] at this
 exact this
theorem impl_inv {p:List Nat} (hp:IsP p) (h24:p.length≤24):Ev (fun k=>Z16.f k (I p)) (I (inv p)):=by
 unfold Z16.f
 have H:∀ (d i:Nat) (c:List Nat),i + d = p.length→c.length = p.length→(∀ j,j < i→g c (g p j) = j)→Ev (fun k=>Z16.l0 k (I c) (I p) (p.length:Int) (i:Int)) (I (inv p)):=by
  intro d
  induction d with
  | zero =>
   intro i c h hc hx
   refine ev_succ ?_
   have h1:¬ ((i:Int) < (p.length:Int)):=by omega
   rw [← inv_of hp hc (fun j hj=>hx j (by omega))]
   simp only [Z16.l0,h1,if_false]
   exact Ev.now _
  | succ d ih =>
   intro i c h hc hx
   refine ev_succ ?_
   have hi:i < p.length:=by omega
   have h1:(i:Int) < (p.length:Int):=by omega
   have h2:(0:Int)≤(i:Int):=by omega
   have h3:=w64s i (by omega)
   have h4:(0:Int)≤((g p i:Nat):Int):=by omega
   have h5:((g p i:Nat):Int) < (c.length:Int):=by have:=g_lt hp hi;omega
   simp only [Z16.l0,h1,h2,h3,h4,h5,rdI,I_len',I_set,if_true,Int.toNat_natCast]
   exact ih (i + 1) _ (by omega) (by rw [List.length_set];exact hc) (inv_step hp hi hc hx)
 refine Ev.bind (impl_permOk (I p)) ?_
 have h0:permB (I p) = true:=permB_I.mpr ⟨hp,h24⟩
 have h1:(0:Int)≤(p.length:Int):=by omega
 have h2:p.length≤35184372088832:=by omega
 simp only [h0,I_len',h1,h2,if_true,Int.toNat_natCast]
 have:=H p.length 0 (List.replicate p.length 0) (by omega) (by simp) (fun j hj=>by omega)
 rw [I_rep] at this
 exact this
end Go.Proofs.Ytcggfjpnfodbaaa.M
end
section
/- Names from a square, and renaming: the program and the reference act alike. No conditions. -/
namespace Go.Proofs.Ytcggfjpnfodbaaa.M
set_option linter.unusedVariables false
set_option linter.unusedSimpArgs false
open Go.RowKit Go.Proofs.YtcggfjpnfodbaaaW.PrintWords Go.Proofs.YtcggfjpnfodbaaaW.PrintLast Go.Proofs.YtcggfjpnfodbaaaW.PrintMore Go.Proofs.Ytcggfjpnfodbaaa.A
theorem set_mid5 {α:Type} (p:List α) (x y:α) (xs:List α):(p ++ x :: xs).set p.length y = p ++ y :: xs:=by
 induction p with
 | nil=>rfl
 | cons a p ih=>simp [ih]
theorem isP_reach {r u:List Nat} (hs:Sf r u) {s:Nat} (h:s < r.length):IsP (reach r u s)∧(reach r u s).length = r.length:=by
 obtain ⟨h1,h2⟩:=reach_full hs h
 have l1:=h1.le
 have l2:=nodup_sub_len5 (List.range r.length) (reach r u s) List.nodup_range (fun x hx=>h2 x (List.mem_range.mp hx))
 rw [List.length_range] at l2
 have hl:(reach r u s).length = r.length:=by omega
 exact ⟨⟨fun x hx=>by rw [hl];exact h1.lt x hx,h1.nd⟩,hl⟩
def nm (r u:List Nat) (s:Nat):List Nat:=inv (reach r u s)
theorem isP_nm {r u:List Nat} (hs:Sf r u) {s:Nat} (h:s < r.length):IsP (nm r u s)∧(nm r u s).length = r.length:=by
 obtain ⟨h1,h2⟩:=isP_reach hs h
 exact ⟨isP_inv h1,by unfold nm;rw [inv_len,h2]⟩
theorem ren_of {p q c:List Nat} (hq:IsP q) (hl:q.length = p.length) (hc:c.length = p.length) (h:∀ j,j < p.length→g c (g q j) = g q (g p j)):c = ren p q:=by
 refine ext_g (by rw [ren_len,hc]) (fun x hx=>?_)
 rw [hc] at hx
 rw [g_ren hx]
 have hx':ix q x < q.length:=ix_lt hq (by omega)
 have:=h (ix q x) (by omega)
 rw [g_ix hq (by omega)] at this
 exact this
theorem ren_step {p q c:List Nat} (hq:IsP q) (hl:q.length = p.length) {i:Nat} (hi:i < p.length) (hc:c.length = p.length) (h:∀ j,j < i→g c (g q j) = g q (g p j)):∀ j,j < i + 1→g (c.set (g q i) (g q (g p i))) (g q j) = g q (g p j):=by
 intro j hj
 have hlt:g q i < c.length:=by rw [hc,← hl];exact g_lt hq (by omega)
 rw [g_set hlt]
 by_cases e:j = i
 ·subst e
  simp
 ·rw [if_neg (fun k=>e (g_inj hq (by omega) (by omega) k.symm))]
  exact h j (by omega)
theorem spec_ren {p q:List Nat} (hp:IsP p) (hq:IsP q) (hl:q.length = p.length) (h24:p.length≤24):Ev (fun k=>Z38.f k (I p) (I q)) (I (ren p q)):=by
 unfold Z38.f
 have H:∀ (d i:Nat) (c:List Nat),i + d = p.length→c.length = p.length→(∀ j,j < i→g c (g q j) = g q (g p j))→Ev (fun k=>Z38.l0 k (I q) (I c) (I p) (p.length:Int) (i:Int)) (I (ren p q)):=by
  intro d
  induction d with
  | zero =>
   intro i c h hc hx
   refine ev_succ ?_
   have h1:¬ ((i:Int) < (p.length:Int)):=by omega
   rw [← ren_of hq hl hc (fun j hj=>hx j (by omega))]
   simp only [Z38.l0,h1,if_false]
   exact Ev.now _
  | succ d ih =>
   intro i c h hc hx
   refine ev_succ ?_
   have hi:i < p.length:=by omega
   have k1:=g_lt hp hi
   have k2:=g_lt hq (i:=i) (by omega)
   have h1:(i:Int) < (p.length:Int):=by omega
   have h2:(0:Int)≤(i:Int):=by omega
   have h4:(i:Int) < (q.length:Int):=by omega
   have h5:(0:Int)≤((g p i:Nat):Int):=by omega
   have h6:((g p i:Nat):Int) < (q.length:Int):=by omega
   have h7:(0:Int)≤((g q i:Nat):Int):=by omega
   have h8:((g q i:Nat):Int) < (c.length:Int):=by omega
   have h3:=w64s i (by omega)
   simp only [Z38.l0,h1,h2,h3,h4,h5,h6,h7,h8,rdI,I_len',I_set,if_true,Int.toNat_natCast]
   exact ih (i + 1) _ (by omega) (by rw [List.length_set];exact hc) (ren_step hq hl hi hc hx)
 have h1:(0:Int)≤(p.length:Int):=by omega
 have h2:p.length≤35184372088832:=by omega
 simp only [I_len',h1,h2,if_true,Int.toNat_natCast]
 have:=H p.length 0 (List.replicate p.length 0) (by omega) (by simp) (fun j hj=>by omega)
 rw [I_rep] at this
 exact this
theorem impl_ren {p q:List Nat} (hp:IsP p) (hq:IsP q) (hl:q.length = p.length) (h24:p.length≤24):Ev (fun k=>Z26.f k (I p) (I q)) (I (ren p q)):=by
 unfold Z26.f
 have H:∀ (d i:Nat) (c:List Nat),i + d = p.length→c.length = p.length→(∀ j,j < i→g c (g q j) = g q (g p j))→Ev (fun k=>Z26.l0 k (I q) (I c) (I p) (p.length:Int) (i:Int)) (I (ren p q)):=by
  intro d
  induction d with
  | zero =>
   intro i c h hc hx
   refine ev_succ ?_
   have h1:¬ ((i:Int) < (p.length:Int)):=by omega
   rw [← ren_of hq hl hc (fun j hj=>hx j (by omega))]
   simp only [Z26.l0,h1,if_false]
   exact Ev.now _
  | succ d ih =>
   intro i c h hc hx
   refine ev_succ ?_
   have hi:i < p.length:=by omega
   have k1:=g_lt hp hi
   have k2:=g_lt hq (i:=i) (by omega)
   have h1:(i:Int) < (p.length:Int):=by omega
   have h2:(0:Int)≤(i:Int):=by omega
   have h4:(i:Int) < (q.length:Int):=by omega
   have h5:(0:Int)≤((g p i:Nat):Int):=by omega
   have h6:((g p i:Nat):Int) < (q.length:Int):=by omega
   have h7:(0:Int)≤((g q i:Nat):Int):=by omega
   have h8:((g q i:Nat):Int) < (c.length:Int):=by omega
   have h3:=w64s i (by omega)
   simp only [Z26.l0,h1,h2,h3,h4,h5,h6,h7,h8,rdI,I_len',I_set,if_true,Int.toNat_natCast]
   exact ih (i + 1) _ (by omega) (by rw [List.length_set];exact hc) (ren_step hq hl hi hc hx)
 have b1:permB (I p) = true:=permB_I.mpr ⟨hp,h24⟩
 have b2:permB (I q) = true:=permB_I.mpr ⟨hq,by omega⟩
 refine Ev.bind (impl_permOk _) ?_
 simp only [b1,if_true]
 refine Ev.bind (impl_permOk _) ?_
 have e:((p.length:Int) != (q.length:Int)) = false:=by rw [bne_eq_false_iff_eq];omega
 simp only [b2,I_len',e,if_true]
 refine ev_succ ?_
 have h1:(0:Int)≤(p.length:Int):=by omega
 have h2:p.length≤35184372088832:=by omega
 simp only [Z26.j0,I_len',h1,h2,Bool.false_eq_true,if_false,if_true,Int.toNat_natCast]
 have:=H p.length 0 (List.replicate p.length 0) (by omega) (by simp) (fun j hj=>by omega)
 rw [I_rep] at this
 exact this
def rnS (r u q:List Nat):List Nat × List Nat:=(ren r q,ren u q)
theorem spec_renS {r u q:List Nat} (hs:Sf r u) (hq:IsP q) (hl:q.length = r.length):Ev (fun k=>Z40.f k (I r) (I u) (I q)) (I (rnS r u q).1,I (rnS r u q).2):=by
 unfold Z40.f
 exact Ev.bind (spec_ren hs.pr hq hl hs.le) (Ev.bind (spec_ren hs.pu hq (by rw [hl,hs.eq]) (by rw [hs.eq];exact hs.le)) (Ev.now _))
theorem impl_renS {r u q:List Nat} (hs:Sf r u) (hq:IsP q) (hl:q.length = r.length):Ev (fun k=>Z8.f k (I r) (I u) (I q)) (I (rnS r u q).1,I (rnS r u q).2,true):=by
 unfold Z8.f
 have h0:=surfB_I.mpr hs
 have hle:=hs.le
 have b2:permB (I q) = true:=permB_I.mpr ⟨hq,by omega⟩
 refine Ev.bind (impl_surf _ _) ?_
 simp only [h0,if_true]
 refine Ev.bind (impl_permOk _) ?_
 have e:((q.length:Int) != (r.length:Int)) = false:=by rw [bne_eq_false_iff_eq];omega
 simp only [b2,I_len',e,if_true]
 refine ev_succ ?_
 simp only [Z8.j0,Bool.false_eq_true,if_false]
 exact Ev.bind (impl_ren hs.pr hq hl hs.le) (Ev.bind (impl_ren hs.pu hq (by rw [hl,hs.eq]) (by rw [hs.eq];exact hs.le)) (Ev.now _))
theorem spec_names {r u:List Nat} (hs:Sf r u) {s:Nat} (h:s < r.length):Ev (fun k=>Z52.f k (I r) (I u) (s:Int)) (I (nm r u s)):=by
 obtain ⟨h1,h2⟩:=isP_reach hs h
 unfold Z52.f
 exact Ev.bind (reach_ev hs.pr hs.pu hs.eq hs.le s h) (Ev.bind (spec_inv h1 (by rw [h2];exact hs.le)) (Ev.now _))
def nmP (n:Nat) (out:List Nat):List Int:=(List.range n).map (fun x=>if x ∈ out then ((out.idxOf x:Nat):Int) else -1)
theorem nmP_len (n:Nat) (out:List Nat):(nmP n out).length = n:=by simp [nmP]
theorem rd_nmP {n:Nat} {out:List Nat} {x:Nat} (h:x < n):rd (nmP n out) (x:Int) = if x ∈ out then ((out.idxOf x:Nat):Int) else -1:=by
 rw [rd_get _ _ (by rw [nmP_len];exact h)]
 simp [nmP]
theorem nmP_add {n:Nat} {out:List Nat} {x:Nat} (h:x < n) (hn:x ∉ out):(nmP n out).set x (out.length:Int) = nmP n (out ++ [x]):=by
 refine ext_rd (by rw [List.length_set,nmP_len,nmP_len]) (fun i hi=>?_)
 rw [List.length_set,nmP_len] at hi
 rw [rd_set (by rw [nmP_len];exact h),rd_nmP hi,rd_nmP hi]
 by_cases e:x = i
 ·subst e
  have:x ∈ out ++ [x]:=by simp
  rw [if_pos rfl,if_pos this,List.idxOf_append,if_neg hn]
  simp
 ·rw [if_neg e]
  by_cases hm:i ∈ out
  ·have:i ∈ out ++ [x]:=by simp [hm]
   rw [if_pos hm,if_pos this,List.idxOf_append,if_pos hm]
  ·have:i ∉ out ++ [x]:=by simp [hm];omega
   rw [if_neg hm,if_neg this]
theorem nmP_full {n:Nat} {out:List Nat} (hl:out.length = n) (h:∀ x,x < n→x ∈ out):nmP n out = I (inv out):=by
 refine ext_rd (by rw [nmP_len,I_len,inv_len,hl]) (fun i hi=>?_)
 rw [nmP_len] at hi
 rw [rd_nmP hi,if_pos (h i hi),rdI,g_inv (by omega)]
 rfl
theorem names_one {p q:List Nat} {out pr:List Nat} (a j:Nat) (hj:j < pr.length) (hpr:pr.length≤2) (hl:out.length≤1000) (hx:g pr j < p.length) (res:List Int)
  (H:Ev (fun k=>Z30.l2 k (nmP p.length (st1 out (g pr j))) (I (st1 out (g pr j))) (a:Int) (I pr) (pr.length:Int) ((j + 1:Nat):Int) (I p) (I q)) res) :
  Ev (fun k=>Z30.l2 k (nmP p.length out) (I out) (a:Int) (I pr) (pr.length:Int) (j:Int) (I p) (I q)) res:=by
 refine ev_succ ?_
 have h1:(j:Int) < (pr.length:Int):=by omega
 have h2:(0:Int)≤(j:Int):=by omega
 have h4:(I out).length < 17592186044416:=by rw [I_len];omega
 have h5:(0:Int)≤((g pr j:Nat):Int):=by omega
 have h6:((g pr j:Nat):Int) < ((nmP p.length out).length:Int):=by rw [nmP_len];omega
 have h7:rd (nmP p.length out) ((g pr j:Nat):Int) = if g pr j ∈ out then ((out.idxOf (g pr j):Nat):Int) else -1:=rd_nmP hx
 have h3:=w64s j (by omega)
 by_cases hin:g pr j ∈ out
 ·have e:st1 out (g pr j) = out:=by unfold st1;rw [if_pos hin]
  rw [e] at H
  rw [if_pos hin] at h7
  have h8:¬ (((out.idxOf (g pr j):Nat):Int) < 0):=by omega
  simp only [Z30.l2,h1,h2,h3,h5,h6,h7,h8,rdI,I_len',if_true,if_false]
  exact H
 ·have e:st1 out (g pr j) = out ++ [g pr j]:=by unfold st1;rw [if_neg hin]
  rw [e,← nmP_add hx hin,← I_snoc] at H
  rw [if_neg hin] at h7
  have h8:(-1:Int) < 0:=by omega
  simp only [Z30.l2,h1,h2,h3,h4,h5,h6,h7,h8,rdI,I_len',if_true,Int.toNat_natCast]
  exact H
theorem names_loop {p q:List Nat} (hp:IsP p) (hq:IsP q) (hl:q.length = p.length) (h24:p.length≤24) (f:Nat):∀ (a:Nat) (out:List Nat),RInv p.length out→a≤out.length→p.length < f + a →
  Ev (fun k=>Z30.l1 k (nmP p.length out) (I out) (a:Int) (I p) (I q)) (nmP p.length (bfs p q f a out)):=by
 induction f with
 | zero =>
  intro a out hr ha hf
  have:=hr.le
  omega
 | succ f ih =>
  intro a out hr ha hf
  have hle:=hr.le
  refine ev_succ ?_
  by_cases h:a < out.length
  ·have hx:=hr.g h
   have hg1:=g_lt hp hx
   have hg2:g q (g out a) < p.length:=by have:=g_lt hq (i:=g out a) (by omega);omega
   have r1:=hr.st hg1
   have r2:=r1.st hg2
   have h1:(a:Int) < (out.length:Int):=by omega
   have h2:(0:Int)≤(a:Int):=by omega
   have h3:((g out a:Nat):Int) < (p.length:Int):=by omega
   have h4:(0:Int)≤((g out a:Nat):Int):=by omega
   have h5:((g out a:Nat):Int) < (q.length:Int):=by omega
   have hb:bfs p q (f + 1) a out = bfs p q f (a + 1) (st1 (st1 out (g p (g out a))) (g q (g out a))):=by
    rw [bfs,if_pos h]
   rw [hb]
   have key:=ih (a + 1) _ r2 (Nat.le_trans (by omega:a + 1≤out.length) (Nat.le_trans (st1_len _ _) (st1_len _ _))) (by omega)
   have hq1:a≤9000000000000000000:=by omega
   have l1:=r1.le
   simp only [Z30.l1,h1,h2,h3,h4,h5,rdI,I_len',if_true,Option.bind_some,I_pair]
   refine names_one (q:=q) a 0 (by simp) (by simp) (by omega) hg1 _ ?_
   refine names_one (q:=q) a 1 (by simp) (by simp) (by simp only [g,List.getD_cons_zero] at l1 ⊢;omega) hg2 _ ?_
   refine ev_succ ?_
   have h7:¬ (((1 + 1:Nat):Int) < (([g p (g out a),g q (g out a)]:List Nat).length:Int)):=by simp
   have h6:=w64s a hq1
   simp only [Z30.l2,h7,h6,if_false]
   exact key
  ·have h1:¬ ((a:Int) < (out.length:Int)):=by omega
   have hb:bfs p q (f + 1) a out = out:=by rw [bfs,if_neg h]
   rw [hb]
   simp only [Z30.l1,h1,I_len',if_false]
   exact Ev.now _
theorem impl_names {r u:List Nat} (hs:Sf r u) {s:Nat} (h:s < r.length):Ev (fun k=>Z30.f k (I r) (I u) (s:Int)) (I (nm r u s)):=by
 have hle:=hs.le
 have h0:=surfB_I.mpr hs
 obtain ⟨k1,k2⟩:=reach_full hs h
 obtain ⟨_,k3⟩:=isP_reach hs h
 have fin:=names_loop hs.pr hs.pu hs.eq hs.le (r.length + 1) 0 [s] ⟨by simp,by simpa using h⟩ (by simp) (by omega)
 have e1:bfs r u (r.length + 1) 0 [s] = reach r u s:=rfl
 rw [e1,nmP_full k3 k2] at fin
 have H:∀ d i:Nat,i + d = r.length→Ev (fun k=>Z30.l0 k (s:Int) (List.replicate i (-1) ++ List.replicate d 0) (r.length:Int) (i:Int) (I r) (I u)) (I (nm r u s)):=by
  intro d
  induction d with
  | zero =>
   intro i hi
   obtain rfl:i = r.length:=by omega
   refine ev_succ ?_
   have c1:¬ ((r.length:Int) < (r.length:Int)):=by omega
   have c2:(0:Int)≤(s:Int):=by omega
   have c3:(s:Int) < (((List.replicate r.length (-1) ++ List.replicate 0 0:List Int)).length:Int):=by simp;omega
   have c4:(List.replicate r.length (-1) ++ List.replicate 0 0:List Int).set ((s:Int)).toNat 0 = nmP r.length [s]:=by
    refine ext_rd (by rw [List.length_set,nmP_len];simp) (fun i hi=>?_)
    rw [List.length_set] at hi
    have hi':i < r.length:=by simpa using hi
    rw [Int.toNat_natCast,rd_set (by simp;exact h),rd_nmP hi']
    by_cases e:s = i
    ·subst e
     simp
    ·rw [if_neg e]
     have:i ∉ [s]:=by simp;omega
     rw [if_neg this,rd_get _ _ hi]
     simp
   simp only [Z30.l0,c1,c2,c3,c4,if_true,if_false]
   exact fin
  | succ d ih =>
   intro i hi
   refine ev_succ ?_
   have c1:(i:Int) < (r.length:Int):=by omega
   have c2:(0:Int)≤(i:Int):=by omega
   have c3:(i:Int) < (((List.replicate i (-1) ++ List.replicate (d + 1) 0:List Int)).length:Int):=by simp;omega
   have c4:(List.replicate i (-1) ++ List.replicate (d + 1) 0:List Int).set ((i:Int)).toNat (-1) = List.replicate (i + 1) (-1) ++ List.replicate d 0:=by
    have hm:=set_mid5 (List.replicate i (-1:Int)) 0 (-1) (List.replicate d 0)
    rw [List.length_replicate] at hm
    rw [Int.toNat_natCast,List.replicate_succ,hm,List.replicate_succ',List.append_assoc]
    rfl
   have c5:=w64s i (by omega)
   simp only [Z30.l0,c1,c2,c3,c4,c5,if_true]
   exact ih (i + 1) (by omega)
 unfold Z30.f
 refine Ev.bind (impl_surf _ _) ?_
 have n1:¬ ((s:Int) < 0):=by omega
 have n2:decide ((s:Int) ≥ (r.length:Int)) = false:=by rw [decide_eq_false_iff_not];omega
 simp only [h0,n1,n2,I_len',if_true,if_false]
 refine ev_succ ?_
 have z1:(0:Int)≤(r.length:Int):=by omega
 have z2:r.length≤35184372088832:=by omega
 simp only [Z30.j0,Bool.false_eq_true,I_len',z1,z2,if_true,if_false,Int.toNat_natCast,Option.bind_some,List.length_replicate]
 have:=H r.length 0 (Nat.zero_add _)
 simpa using this
end Go.Proofs.Ytcggfjpnfodbaaa.M
end
section
/- The canonical form: the program and the reference find the same one. No conditions. -/
namespace Go.Proofs.Ytcggfjpnfodbaaa.M
set_option linter.unusedVariables false
set_option linter.unusedSimpArgs false
open Go.RowKit Go.Proofs.YtcggfjpnfodbaaaW.PrintWords Go.Proofs.YtcggfjpnfodbaaaW.PrintLast Go.Proofs.YtcggfjpnfodbaaaW.PrintMore Go.Proofs.Ytcggfjpnfodbaaa.A
def lexC:List Nat→List Nat→Int
 | [],[]=>0
 | [],_ :: _=>-1
 | _ :: _,[]=>1
 | a :: l,b :: m=>if a < b then -1 else if b < a then 1 else lexC l m
theorem cmp_ev (a b:Nat):Z25.f (a:Int) (b:Int) = some (if a < b then -1 else if b < a then 1 else 0):=by
 unfold Z25.f Z43.f
 simp only [bne_self_eq_false,Option.bind_some,Bool.false_eq_true,if_false]
 by_cases h1:a < b
 ·have:(a:Int) < (b:Int):=by omega
  simp only [h1,this,if_true]
 ·have n1:¬ (a:Int) < (b:Int):=by omega
  by_cases h2:b < a
  ·have:(a:Int) > (b:Int):=by omega
   simp only [h1,n1,h2,this,if_true,if_false]
  ·have n2:¬ (a:Int) > (b:Int):=by omega
   simp only [h1,n1,h2,n2,if_false]
theorem lexC_eq:∀ (a b:List Nat),lexC a b = 0 ↔ a = b:=by
 intro a
 induction a with
 | nil=>intro b;cases b <;> simp [lexC]
 | cons x a ih =>
  intro b
  cases b with
  | nil=>simp [lexC]
  | cons y b =>
   unfold lexC
   by_cases h1:x < y
   ·simp [h1];omega
   ·by_cases h2:y < x
    ·simp [h1,h2];omega
    ·have e:x = y:=by omega
     subst e
     simp [h1,ih]
theorem compare_ev (a b:List Nat) (hl:a.length≤1000000):Ev (fun k=>Z1.f k (I a) (I b)) (lexC a b):=by
 unfold Z1.f
 have H:∀ d i:Nat,i + d = a.length→i≤b.length→Ev (fun k=>Z1.l0 k (I a) (I b) (I a) (a.length:Int) (i:Int)) (lexC (a.drop i) (b.drop i)):=by
  intro d
  induction d with
  | zero =>
   intro i hi hb
   refine ev_succ ?_
   have c1:¬ ((i:Int) < (a.length:Int)):=by omega
   rw [List.drop_of_length_le (l:=a) (by omega)]
   simp only [Z1.l0,c1,I_len',if_false]
   by_cases h:(a.length:Int) < (b.length:Int)
   ·have:lexC [] (b.drop i) = -1:=by
     rw [List.drop_eq_getElem_cons (by omega)]
     rfl
    simp only [h,if_true,this]
    exact Ev.now _
   ·have:lexC [] (b.drop i) = 0:=by
     rw [List.drop_of_length_le (by omega)]
     rfl
    simp only [h,if_false,this]
    exact Ev.now _
  | succ d ih =>
   intro i hi hb
   have hia:i < a.length:=by omega
   rw [List.drop_eq_getElem_cons hia,← g_get hia]
   have c1:(i:Int) < (a.length:Int):=by omega
   have c2:(0:Int)≤(i:Int):=by omega
   have c3:=w64s i (by omega)
   refine ev_succ ?_
   by_cases h:i < b.length
   ·rw [List.drop_eq_getElem_cons h,← g_get h]
    have n1:¬ ((i:Int) ≥ (b.length:Int)):=by omega
    have n2:(i:Int) < (b.length:Int):=by omega
    simp only [Z1.l0,c1,c2,c3,n1,n2,I_len',rdI,cmp_ev,Option.bind_some,if_true,if_false]
    unfold lexC
    by_cases h1:g a i < g b i
    ·have z:¬ ((-1:Int) = 0):=by omega
     simp only [h1,z,if_true,if_false]
     exact Ev.now _
    ·by_cases h2:g b i < g a i
     ·have z:¬ ((1:Int) = 0):=by omega
      simp only [h1,h2,z,if_true,if_false]
      exact Ev.now _
     ·simp only [h1,h2,if_true,if_false]
      exact ih (i + 1) (by omega) (by omega)
   ·have n1:(i:Int) ≥ (b.length:Int):=by omega
    rw [List.drop_of_length_le (l:=b) (by omega)]
    simp only [Z1.l0,c1,c2,n1,I_len',if_true]
    exact Ev.now _
 have key:=H a.length 0 (Nat.zero_add _) (Nat.zero_le _)
 rw [List.drop_zero,List.drop_zero] at key
 simp only [I_len']
 exact key
theorem less_ev (a b:List Nat) (hl:a.length≤1000000) (he:b.length = a.length):Ev (fun k=>Z57.f k (I a) (I b)) (decide (lexC a b < 0)):=by
 unfold Z57.f
 have H:∀ d i:Nat,i + d = a.length→Ev (fun k=>Z57.l0 k (I b) (I a) (a.length:Int) (i:Int)) (decide (lexC (a.drop i) (b.drop i) < 0)):=by
  intro d
  induction d with
  | zero =>
   intro i hi
   refine ev_succ ?_
   have c1:¬ ((i:Int) < (a.length:Int)):=by omega
   rw [List.drop_of_length_le (l:=a) (by omega),List.drop_of_length_le (l:=b) (by omega)]
   simp only [Z57.l0,c1,if_false]
   exact Ev.now _
  | succ d ih =>
   intro i hi
   have hia:i < a.length:=by omega
   have hib:i < b.length:=by omega
   rw [List.drop_eq_getElem_cons hia,← g_get hia,List.drop_eq_getElem_cons hib,← g_get hib]
   have c1:(i:Int) < (a.length:Int):=by omega
   have c2:(0:Int)≤(i:Int):=by omega
   have n2:(i:Int) < (b.length:Int):=by omega
   have c3:=w64s i (by omega)
   refine ev_succ ?_
   simp only [Z57.l0,c1,c2,c3,n2,I_len',rdI,if_true]
   unfold lexC
   by_cases h1:g a i < g b i
   ·have z1:¬ (((g a i:Nat):Int) = ((g b i:Nat):Int)):=by omega
    have z2:decide (((g a i:Nat):Int) < ((g b i:Nat):Int)) = true:=by rw [decide_eq_true_iff];omega
    have z3:decide ((-1:Int) < 0) = true:=by decide
    simp only [h1,z1,z2,z3,if_true,if_false]
    exact Ev.now _
   ·by_cases h2:g b i < g a i
    ·have z1:¬ (((g a i:Nat):Int) = ((g b i:Nat):Int)):=by omega
     have z2:decide (((g a i:Nat):Int) < ((g b i:Nat):Int)) = false:=by rw [decide_eq_false_iff_not];omega
     have z3:decide ((1:Int) < 0) = false:=by decide
     simp only [h1,h2,z1,z2,z3,if_true,if_false]
     exact Ev.now _
    ·have z1:((g a i:Nat):Int) = ((g b i:Nat):Int):=by omega
     simp only [h1,h2,z1,if_true,if_false]
     exact ih (i + 1) (by omega)
 have key:=H a.length 0 (Nat.zero_add _)
 rw [List.drop_zero,List.drop_zero] at key
 simp only [I_len']
 exact key
def cmpS (a b:List Nat × List Nat):Int:=if lexC a.1 b.1 = 0 then lexC a.2 b.2 else lexC a.1 b.1
theorem impl_cmpS (a b:List Nat × List Nat) (h1:a.1.length≤1000000) (h2:a.2.length≤1000000):Ev (fun k=>Z3.f k (I a.1) (I a.2) (I b.1) (I b.2)) (cmpS a b):=by
 unfold Z3.f cmpS
 refine Ev.bind (compare_ev a.1 b.1 h1) ?_
 by_cases h:lexC a.1 b.1 = 0
 ·simp only [h,if_true]
  exact Ev.bind (compare_ev a.2 b.2 h2) (Ev.now _)
 ·simp only [h,if_false]
  exact Ev.now _
theorem sameList_nat (a b:List Nat) (h:a.length≤1000000000):Ev (fun k=>Z49.f k (I a) (I b)) (decide (a = b)):=by
 unfold Z49.f
 by_cases hl:(a.length:Int) = (b.length:Int)
 ·have hl':a.length = b.length:=by omega
  simp only [I_len',hl,ne_eq,not_true_eq_false,if_false,if_true]
  have H:∀ d i:Nat,i + d = a.length→Ev (fun k=>Z49.l0 k (I b) (I a) (b.length:Int) (i:Int)) (decide (a.drop i = b.drop i)):=by
   intro d
   induction d with
   | zero =>
    intro i hi
    refine ev_succ ?_
    have c1:¬ ((i:Int) < (b.length:Int)):=by omega
    have e:decide (a.drop i = b.drop i) = true:=by rw [List.drop_of_length_le (by omega),List.drop_of_length_le (by omega)];simp
    simp only [Z49.l0,c1,if_false,e]
    exact Ev.now _
   | succ d ih =>
    intro i hi
    have hia:i < a.length:=by omega
    have hib:i < b.length:=by omega
    rw [List.drop_eq_getElem_cons hia,← g_get hia,List.drop_eq_getElem_cons hib,← g_get hib]
    have c1:(i:Int) < (b.length:Int):=by omega
    have c2:(0:Int)≤(i:Int):=by omega
    have c4:(i:Int) < (a.length:Int):=by omega
    have c3:=w64s i (by omega)
    refine ev_succ ?_
    by_cases he:g a i = g b i
    ·have z:((g a i:Nat):Int) = ((g b i:Nat):Int):=by omega
     have e:decide (g a i :: a.drop (i + 1) = g b i :: b.drop (i + 1)) = decide (a.drop (i + 1) = b.drop (i + 1)):=by simp [he]
     rw [e]
     simp only [Z49.l0,c1,c2,c3,c4,I_len',rdI,z,if_true]
     exact ih (i + 1) (by omega)
    ·have z:¬ (((g a i:Nat):Int) = ((g b i:Nat):Int)):=by omega
     have e:decide (g a i :: a.drop (i + 1) = g b i :: b.drop (i + 1)) = false:=by simp [he]
     rw [e]
     simp only [Z49.l0,c1,c2,c4,I_len',rdI,z,if_true,if_false]
     exact Ev.now _
  have key:=H a.length 0 (Nat.zero_add _)
  rw [List.drop_zero,List.drop_zero] at key
  exact key
 ·have e:decide (a = b) = false:=by
   rw [decide_eq_false_iff_not]
   intro e
   rw [e] at hl
   exact hl rfl
  simp only [I_len',hl,ne_eq,not_false_eq_true,if_true,if_false,e]
  exact Ev.now _
theorem spec_before (a b:List Nat × List Nat) (h1:a.1.length≤1000000) (h2:a.2.length≤1000000) (e1:b.1.length = a.1.length) (e2:b.2.length = a.2.length):Ev (fun k=>Z39.f k (I a.1) (I a.2) (I b.1) (I b.2)) (decide (cmpS a b < 0)):=by
 unfold Z39.f cmpS
 refine Ev.bind (sameList_nat a.1 b.1 (by omega)) ?_
 by_cases h:a.1 = b.1
 ·have z:=(lexC_eq a.1 b.1).mpr h
  rw [z]
  simp only [h,decide_true,if_true]
  exact Ev.bind (less_ev a.2 b.2 h2 e2) (Ev.now _)
 ·have z:¬ lexC a.1 b.1 = 0:=fun k=>h ((lexC_eq _ _).mp k)
  simp only [h,z,decide_false,Bool.false_eq_true,if_false]
  exact Ev.bind (less_ev a.1 b.1 h1 e1) (Ev.now _)
def rS (r u:List Nat) (s:Nat):List Nat × List Nat:=rnS r u (nm r u s)
theorem rS_len {r u:List Nat} (s:Nat):(rS r u s).1.length = r.length∧(rS r u s).2.length = u.length:=⟨ren_len _ _,ren_len _ _⟩
def canK (r u:List Nat):Nat→List Nat × List Nat
 | 0=>rS r u 0
 | k + 1=>if cmpS (rS r u (k + 1)) (canK r u k) < 0 then rS r u (k + 1) else canK r u k
theorem canK_len {r u:List Nat} (k:Nat):(canK r u k).1.length = r.length∧(canK r u k).2.length = u.length:=by
 induction k with
 | zero=>exact rS_len 0
 | succ k ih =>
  unfold canK
  split
  ·exact rS_len _
  ·exact ih
def canS (r u:List Nat):List Nat × List Nat:=canK r u (r.length - 1)
theorem spec_canon {r u:List Nat} (hs:Sf r u):Ev (fun k=>Z51.f k (I r) (I u)) (I (canS r u).1,I (canS r u).2):=by
 have hle:=hs.le
 have heq:=hs.eq
 have hpos:=hs.pos
 unfold Z51.f
 have e0:=spec_names hs hpos
 have q0:=isP_nm hs hpos
 refine Ev.bind e0 (Ev.bind (spec_renS hs q0.1 q0.2) ?_)
 have H:∀ d i:Nat,i + 1 + d = r.length→Ev (fun k=>Z51.l0 k ((i + 1:Nat):Int) (I r) (I u) (I (canK r u i).1) (I (canK r u i).2)) (I (canS r u).1,I (canS r u).2):=by
  intro d
  induction d with
  | zero =>
   intro i hi
   refine ev_succ ?_
   have c1:¬ (((i + 1:Nat):Int) < (r.length:Int)):=by omega
   have e:canS r u = canK r u i:=by
    unfold canS
    congr 1
    omega
   rw [e]
   simp only [Z51.l0,c1,I_len',if_false]
   exact Ev.now _
  | succ d ih =>
   intro i hi
   have hi1:i + 1 < r.length:=by omega
   have q1:=isP_nm hs hi1
   have c1:((i + 1:Nat):Int) < (r.length:Int):=by omega
   have c3:=w64s (i + 1) (by omega)
   have lk:=canK_len (r:=r) (u:=u) i
   have lr:=rS_len (r:=r) (u:=u) (i + 1)
   refine ev_succ ?_
   simp only [Z51.l0,c1,c3,I_len',if_true]
   refine Ev.bind (spec_names hs hi1) (Ev.bind (spec_renS hs q1.1 q1.2) ?_)
   refine Ev.bind (spec_before (rS r u (i + 1)) (canK r u i) (by rw [lr.1];omega) (by rw [lr.2];omega) (by rw [lr.1,lk.1]) (by rw [lr.2,lk.2])) ?_
   have key:=ih (i + 1) (by omega)
   unfold canK at key
   by_cases h:cmpS (rS r u (i + 1)) (canK r u i) < 0
   ·rw [if_pos h] at key
    simp only [h,decide_true,if_true]
    exact key
   ·rw [if_neg h] at key
    simp only [h,decide_false,Bool.false_eq_true,if_false]
    exact key
 have key:=H (r.length - 1) 0 (by omega)
 exact key
def namedL (r u:List Nat) (n:Nat):List S25:=(List.range n).map (fun s=>(⟨I (rS r u s).1,I (rS r u s).2⟩:S25))
theorem namedL_len (r u:List Nat) (n:Nat):(namedL r u n).length = n:=by simp [namedL]
theorem rd_named {r u:List Nat} {n i:Nat} (h:i < n):rd_T25 (namedL r u n) (i:Int) = ⟨I (rS r u i).1,I (rS r u i).2⟩:=by
 unfold rd_T25 namedL
 simp [List.getD_eq_getElem?_getD,h]
theorem count_sq {r u:List Nat} (hs:Sf r u):Ev (fun k=>Z11.f k (I r) (I u)) (r.length:Int):=by
 unfold Z11.f
 refine Ev.bind (impl_surf _ _) ?_
 have h0:=surfB_I.mpr hs
 simp only [h0,I_len',if_true]
 exact Ev.now _
theorem impl_named {r u:List Nat} (hs:Sf r u):Ev (fun k=>Z32.f k (I r) (I u)) (namedL r u r.length):=by
 have hle:=hs.le
 unfold Z32.f
 have H:∀ d i:Nat,i + d = r.length→Ev (fun k=>Z32.l0 k (namedL r u i) (i:Int) (I r) (I u)) (namedL r u r.length):=by
  intro d
  induction d with
  | zero =>
   intro i hi
   obtain rfl:i = r.length:=by omega
   refine ev_succ ?_
   simp only [Z32.l0]
   refine Ev.bind (count_sq hs) ?_
   have c1:¬ ((r.length:Int) < (r.length:Int)):=by omega
   simp only [c1,if_false]
   exact Ev.now _
  | succ d ih =>
   intro i hi
   have hil:i < r.length:=by omega
   have q1:=isP_nm hs hil
   refine ev_succ ?_
   simp only [Z32.l0]
   refine Ev.bind (count_sq hs) ?_
   have c1:(i:Int) < (r.length:Int):=by omega
   have c2:(namedL r u i).length < 2932031007402:=by rw [namedL_len];omega
   have c3:=w64s i (by omega)
   simp only [c1,if_true]
   refine Ev.bind (impl_names hs hil) (Ev.bind (impl_renS hs q1.1 q1.2) ?_)
   have e:namedL r u i ++ [(⟨I (rnS r u (nm r u i)).1,I (rnS r u (nm r u i)).2⟩:S25)] = namedL r u (i + 1):=by
    unfold namedL
    rw [List.range_succ,List.map_append]
    rfl
   simp only [c2,c3,e,if_true]
   exact ih (i + 1) (by omega)
 exact H r.length 0 (Nat.zero_add _)
theorem impl_canon {r u:List Nat} (hs:Sf r u):Ev (fun k=>Z55.f k (I r) (I u)) (I (canS r u).1,I (canS r u).2,true):=by
 have hle:=hs.le
 have heq:=hs.eq
 have hpos:=hs.pos
 unfold Z55.f
 refine Ev.bind (impl_named hs) ?_
 have c0:¬ ((r.length:Int) = 0):=by omega
 simp only [namedL_len,c0,if_false]
 refine Ev.bind (a:=(I (canS r u).1,I (canS r u).2)) ?_ (Ev.now _)
 unfold Z27.f
 have c1:¬ ((r.length:Int) < 1):=by omega
 have c2:(0:Int) < (r.length:Int):=by omega
 have e0:rd_T25 (namedL r u r.length) 0 = ⟨I (canK r u 0).1,I (canK r u 0).2⟩:=rd_named hpos
 simp only [namedL_len,c1,c2,e0,if_true,if_false]
 have H:∀ d i:Nat,i + 1 + d = r.length→Ev (fun k=>Z27.l0 k (namedL r u r.length) ((i + 1:Nat):Int) (I (canK r u i).1) (I (canK r u i).2)) (I (canS r u).1,I (canS r u).2):=by
  intro d
  induction d with
  | zero =>
   intro i hi
   refine ev_succ ?_
   have c1:¬ (((i + 1:Nat):Int) < (r.length:Int)):=by omega
   have e:canS r u = canK r u i:=by
    unfold canS
    congr 1
    omega
   rw [e]
   simp only [Z27.l0,c1,namedL_len,if_false]
   exact Ev.now _
  | succ d ih =>
   intro i hi
   have hi1:i + 1 < r.length:=by omega
   have c1:((i + 1:Nat):Int) < (r.length:Int):=by omega
   have c2:(0:Int)≤((i + 1:Nat):Int):=by omega
   have c4:rd_T25 (namedL r u r.length) ((i + 1:Nat):Int) = ⟨I (rS r u (i + 1)).1,I (rS r u (i + 1)).2⟩:=rd_named hi1
   have c3:=w64s (i + 1) (by omega)
   have lr:=rS_len (r:=r) (u:=u) (i + 1)
   refine ev_succ ?_
   simp only [Z27.l0,c1,c2,c3,c4,namedL_len,if_true]
   refine Ev.bind (impl_cmpS (rS r u (i + 1)) (canK r u i) (by rw [lr.1];omega) (by rw [lr.2];omega)) ?_
   have key:=ih (i + 1) (by omega)
   unfold canK at key
   by_cases h:cmpS (rS r u (i + 1)) (canK r u i) < 0
   ·rw [if_pos h] at key
    simp only [h,if_true]
    exact key
   ·rw [if_neg h] at key
    simp only [h,if_false]
    exact key
 exact H (r.length - 1) 0 (by omega)
theorem impl_canon_no {r u:List Int} (h:¬ surfB r u = true):Ev (fun k=>Z55.f k r u) ([],[],false):=by
 have h':=Bool.eq_false_iff.mpr h
 unfold Z55.f
 refine Ev.bind (a:=([]:List S25)) ?_ ?_
 ·unfold Z32.f
  refine ev_succ ?_
  simp only [Z32.l0]
  refine Ev.bind (a:=(0:Int)) ?_ ?_
  ·unfold Z11.f
   refine Ev.bind (impl_surf _ _) ?_
   simp only [h',Bool.false_eq_true,if_false]
   exact Ev.now _
  ·have c1:¬ ((0:Int) < 0):=by omega
   simp only [c1,if_false]
   exact Ev.now _
 ·simp only [List.length_nil]
  exact Ev.now _
theorem equal_ev (a b:List Nat) (h:a.length≤1000000000):Ev (fun k=>Z44.f k (I a) (I b)) (decide (a = b)):=by
 unfold Z44.f Z4.f
 refine Ev.bind (a:=decide (a = b)) ?_ (Ev.now _)
 by_cases hl:(a.length:Int) = (b.length:Int)
 ·have hl':a.length = b.length:=by omega
  simp only [I_len',hl,if_true]
  have H:∀ d i:Nat,i + d = a.length→Ev (fun k=>Z4.l0 k (I a) (I b) (b.length:Int) (i:Int)) (decide (a.drop i = b.drop i)):=by
   intro d
   induction d with
   | zero =>
    intro i hi
    refine ev_succ ?_
    have c1:¬ ((i:Int) < (b.length:Int)):=by omega
    have e:decide (a.drop i = b.drop i) = true:=by rw [List.drop_of_length_le (by omega),List.drop_of_length_le (by omega)];simp
    simp only [Z4.l0,c1,if_false,e]
    exact Ev.now _
   | succ d ih =>
    intro i hi
    have hia:i < a.length:=by omega
    have hib:i < b.length:=by omega
    rw [List.drop_eq_getElem_cons hia,← g_get hia,List.drop_eq_getElem_cons hib,← g_get hib]
    have c1:(i:Int) < (b.length:Int):=by omega
    have c2:(0:Int)≤(i:Int):=by omega
    have c4:(i:Int) < (a.length:Int):=by omega
    have c3:=w64s i (by omega)
    refine ev_succ ?_
    by_cases he:g a i = g b i
    ·have z:((g a i:Nat):Int) = ((g b i:Nat):Int):=by omega
     have e:decide (g a i :: a.drop (i + 1) = g b i :: b.drop (i + 1)) = decide (a.drop (i + 1) = b.drop (i + 1)):=by simp [he]
     rw [e]
     simp only [Z4.l0,c1,c2,c3,c4,I_len',rdI,z,if_true]
     exact ih (i + 1) (by omega)
    ·have z:¬ (((g a i:Nat):Int) = ((g b i:Nat):Int)):=by omega
     have e:decide (g a i :: a.drop (i + 1) = g b i :: b.drop (i + 1)) = false:=by simp [he]
     rw [e]
     simp only [Z4.l0,c1,c2,c4,I_len',rdI,z,if_true,if_false]
     exact Ev.now _
  have key:=H a.length 0 (Nat.zero_add _)
  rw [List.drop_zero,List.drop_zero] at key
  exact key
 ·have e:decide (a = b) = false:=by
   rw [decide_eq_false_iff_not]
   intro e
   rw [e] at hl
   exact hl rfl
  simp only [I_len',hl,if_false,e]
  exact Ev.now _
end Go.Proofs.Ytcggfjpnfodbaaa.M
end
section
/- The canonical form tells which surfaces are alike. No conditions. -/
namespace Go.Proofs.Ytcggfjpnfodbaaa.M
set_option linter.unusedVariables false
set_option linter.unusedSimpArgs false
theorem is_rS {s:List Nat × List Nat} (hs:Sf s.1 s.2) {i:Nat} (hi:i < s.1.length):Is s (rS s.1 s.2 i) (g (nm s.1 s.2 i)):=by
 obtain ⟨p,l⟩:=isP_nm hs hi
 refine ⟨(rS_len i).1,fun x hx=>?_,fun x y hx hy e=>g_inj p (by rw [l];exact hx) (by rw [l];exact hy) e,fun x hx=>?_,fun x hx=>?_⟩
 ·have:=g_lt p (i:=x) (by rw [l];exact hx)
  rw [l] at this
  exact this
 ·have h1:=g_lt p (i:=x) (by rw [l];exact hx)
  rw [l] at h1
  show _ = g (ren s.1 (nm s.1 s.2 i)) _
  rw [g_ren h1,ix_g p (by rw [l];exact hx)]
 ·have h1:=g_lt p (i:=x) (by rw [l];exact hx)
  rw [l] at h1
  show _ = g (ren s.2 (nm s.1 s.2 i)) _
  rw [g_ren (by rw [hs.eq];exact h1),ix_g p (by rw [l];exact hx)]
theorem sf_rS {s:List Nat × List Nat} (hs:Sf s.1 s.2) {i:Nat} (hi:i < s.1.length):Sf (rS s.1 s.2 i).1 (rS s.1 s.2 i).2:=by
 obtain ⟨p,l⟩:=isP_nm hs hi
 have h:=rS_len (r:=s.1) (u:=s.2) i
 exact hs.of_is (is_rS hs hi) (isP_ren hs.pr p l.symm) (isP_ren hs.pu p (by rw [l,hs.eq])) (by rw [h.1,h.2,hs.eq])
theorem canK_at (r u:List Nat):∀ k,∃ i,i≤k∧canK r u k = rS r u i:=by
 intro k
 induction k with
 | zero=>exact ⟨0,Nat.le_refl _,rfl⟩
 | succ k ih =>
  obtain ⟨i,hi,e⟩:=ih
  unfold canK
  split
  ·exact ⟨k + 1,Nat.le_refl _,rfl⟩
  ·exact ⟨i,by omega,e⟩
theorem canS_at {r u:List Nat} (hs:Sf r u):∃ i,i < r.length∧canS r u = rS r u i:=by
 obtain ⟨i,hi,e⟩:=canK_at r u (r.length - 1)
 have:=hs.pos
 exact ⟨i,by omega,e⟩
theorem sf_canS {s:List Nat × List Nat} (hs:Sf s.1 s.2):Sf (canS s.1 s.2).1 (canS s.1 s.2).2:=by
 obtain ⟨i,hi,e⟩:=canS_at hs
 rw [e]
 exact sf_rS hs hi
end Go.Proofs.Ytcggfjpnfodbaaa.M
end
section
/- Marks that laws lay and look for. No conditions. -/
namespace Go.Proofs.Ytcggfjpnfodbaaa.M
set_option linter.unusedVariables false
set_option linter.unusedSimpArgs false
open Go.RowKit Go.Proofs.YtcggfjpnfodbaaaW.PrintWords Go.Proofs.YtcggfjpnfodbaaaW.PrintLast Go.Proofs.YtcggfjpnfodbaaaW.PrintMore Go.Proofs.Ytcggfjpnfodbaaa.A
def markL (n:Nat) (a:Int):List Int:=(List.range n).map (fun (i:Nat)=>a + (i:Int))
theorem markL_len (n:Nat) (a:Int):(markL n a).length = n:=by simp [markL]
theorem rd_markL {n i:Nat} {a:Int} (h:i < n):rd (markL n a) (i:Int) = a + (i:Int):=by
 rw [rd_get _ i (by rw [markL_len];exact h)]
 simp [markL]
theorem w64a (a:Int) (i:Nat) (h0:0≤a) (h:a + (i:Int)≤9000000000000000000):wrap64 (a + (i:Int) + 1) = a + ((i + 1:Nat):Int):=by rw [w64 (by omega) (by omega)];omega
theorem mark_ev (l:List Int) (a:Int) (h0:0≤a) (h:a + (l.length:Int)≤9000000000000000000):Ev (fun k=>Z47.f k l a) (a + (l.length:Int),markL l.length a):=by
 unfold Z47.f
 have H:∀ (d i:Nat) (c:List Int),i + d = l.length→c.length = l.length→(∀ j:Nat,j < i→rd c (j:Int) = a + (j:Int))→Ev (fun k=>Z47.l0 k c (a + (i:Int)) (i:Int)) (a + (l.length:Int),markL l.length a):=by
  intro d
  induction d with
  | zero =>
   intro i c hi hc hx
   refine ev_succ ?_
   have h1:¬ ((i:Int) < (c.length:Int)):=by omega
   have e:c = markL l.length a:=ext_rd (by rw [markL_len];exact hc) (fun j hj=>by rw [hx j (by omega),rd_markL (by omega)])
   have e2:i = l.length:=by omega
   simp only [Z47.l0,h1,if_false]
   rw [e,e2]
   exact Ev.now _
  | succ d ih =>
   intro i c hi hc hx
   refine ev_succ ?_
   have h1:(i:Int) < (c.length:Int):=by omega
   have h2:(0:Int)≤(i:Int):=by omega
   have h3:=w64s i (by omega)
   have h4:=w64a a i h0 (by omega)
   simp only [Z47.l0,h1,h2,h3,h4,if_true,Int.toNat_natCast]
   refine ih (i + 1) _ (by omega) (by rw [List.length_set];exact hc) (fun j hj=>?_)
   rw [rd_set (by omega)]
   by_cases e:i = j
   ·subst e
    simp
   ·rw [if_neg e]
    exact hx j (by omega)
 have:=H l.length 0 l (by omega) rfl (fun j hj=>by omega)
 simpa using this
theorem markSurf_ev (r u:List Int) (h:r.length + u.length≤1048576):Ev (fun k=>Z22.f k r u 1) (1 + (r.length:Int) + (u.length:Int),markL r.length 1,markL u.length (1 + (r.length:Int))):=by
 unfold Z22.f
 refine Ev.bind (mark_ev r 1 (by omega) (by omega)) ?_
 refine Ev.bind (mark_ev u (1 + (r.length:Int)) (by omega) (by omega)) ?_
 exact Ev.now _
end Go.Proofs.Ytcggfjpnfodbaaa.M
end
section
/- One round about a corner; first places in lists. No conditions. -/
namespace Go.Proofs.Ytcggfjpnfodbaaa.M
set_option linter.unusedVariables false
set_option linter.unusedSimpArgs false
open Go.RowKit Go.Proofs.YtcggfjpnfodbaaaW.PrintWords Go.Proofs.YtcggfjpnfodbaaaW.PrintLast Go.Proofs.YtcggfjpnfodbaaaW.PrintMore Go.Proofs.Ytcggfjpnfodbaaa.A
theorem impl_then {p q:List Nat} (hp:IsP p) (hq:IsP q) (hl:p.length = q.length) (h24:p.length≤24):Ev (fun k=>Z45.f k (I p) (I q)) (I (thn p q)):=by
 unfold Z45.f
 refine Ev.bind (impl_permOk (I p)) ?_
 have e1:permB (I p) = true:=permB_I.mpr ⟨hp,h24⟩
 have e2:permB (I q) = true:=permB_I.mpr ⟨hq,by omega⟩
 simp only [e1,if_true]
 refine Ev.bind (impl_permOk (I q)) ?_
 have e3:((p.length:Int) != (q.length:Int)) = false:=by simp [hl]
 simp only [e2,if_true,I_len',e3]
 refine ev_succ ?_
 have h1:(0:Int)≤(p.length:Int):=by omega
 have h2:p.length≤35184372088832:=by omega
 simp only [Z45.j0,Bool.false_eq_true,if_false,I_len',h1,h2,if_true,Int.toNat_natCast]
 have H:∀ (d i:Nat) (c:List Nat),i + d = p.length→c.length = p.length→(∀ j,j < i→g c j = g q (g p j))→Ev (fun k=>Z45.l0 k (I q) (I c) (I p) (p.length:Int) (i:Int)) (I (thn p q)):=by
  intro d
  induction d with
  | zero =>
   intro i c h hc hx
   refine ev_succ ?_
   have h1:¬ ((i:Int) < (p.length:Int)):=by omega
   have e:thn p q = c:=by
    refine (eq_tab hc (fun j hj=>hx j (by omega))).symm
   simp only [Z45.l0,h1,if_false]
   rw [e]
   exact Ev.now _
  | succ d ih =>
   intro i c h hc hx
   refine ev_succ ?_
   have hi:i < p.length:=by omega
   have gp:=g_lt hp hi
   have c1:(i:Int) < (p.length:Int):=by omega
   have c2:(0:Int)≤(i:Int):=by omega
   have c3:(0:Int)≤((g p i:Nat):Int):=by omega
   have c4:((g p i:Nat):Int) < (q.length:Int):=by omega
   have c5:(i:Int) < (c.length:Int):=by omega
   have h3:=w64s i (by omega)
   simp only [Z45.l0,c1,c2,c3,c4,c5,h3,rdI,I_len',I_set,if_true,Int.toNat_natCast]
   refine ih (i + 1) _ (by omega) (by rw [List.length_set];exact hc) (fun j hj=>?_)
   rw [g_set (by omega)]
   by_cases e:i = j
   ·subst e
    simp
   ·rw [if_neg e]
    exact hx j (by omega)
 have:=H p.length 0 (List.replicate p.length 0) (by omega) (by simp) (fun j hj=>by omega)
 rw [I_rep] at this
 exact this
end Go.Proofs.Ytcggfjpnfodbaaa.M
end
section
/- Slopes and paths: the program and the reference answer alike. No conditions. -/
namespace Go.Proofs.Ytcggfjpnfodbaaa.M
set_option linter.unusedVariables false
set_option linter.unusedSimpArgs false
open Go.RowKit Go.Proofs.YtcggfjpnfodbaaaW.PrintWords Go.Proofs.YtcggfjpnfodbaaaW.PrintLast Go.Proofs.YtcggfjpnfodbaaaW.PrintMore Go.Proofs.Ytcggfjpnfodbaaa.A
theorem tab_snoc (i:Nat) (f:Nat→Nat):tab i f ++ [f i] = tab (i + 1) f:=by unfold tab;rw [List.range_succ];simp
theorem spec_then {p q:List Nat} (hp:∀ i,i < p.length→g p i < q.length) (h:p.length≤1000):Ev (fun k=>Z56.f k (I p) (I q)) (I (thn p q)):=by
 unfold Z56.f
 have H:∀ d i:Nat,i + d = p.length→Ev (fun k=>Z56.l0 k (I q) (I (tab i (fun i=>g q (g p i)))) (I p) (p.length:Int) (i:Int)) (I (thn p q)):=by
  intro d
  induction d with
  | zero =>
   intro i h
   obtain rfl:i = p.length:=by omega
   refine ev_succ ?_
   have h1:¬ ((p.length:Int) < (p.length:Int)):=by omega
   simp only [Z56.l0,h1,if_false]
   exact Ev.now _
  | succ d ih =>
   intro i h
   have hi:i < p.length:=by omega
   have hg:=hp i hi
   refine ev_succ ?_
   have h1:(i:Int) < (p.length:Int):=by omega
   have h2:=w64s i (by omega)
   have h3:(I (tab i (fun i=>g q (g p i)))).length < 17592186044416:=by rw [I_len,tab_len];omega
   have h4:(0:Int)≤(i:Int):=by omega
   have h5:(0:Int)≤((g p i:Nat):Int):=by omega
   have h6:((g p i:Nat):Int) < (q.length:Int):=by omega
   have e:=tab_snoc i (fun i=>g q (g p i))
   simp only [Z56.l0,h1,h2,h3,h4,h5,h6,rdI,I_len',if_true,I_snoc,e]
   exact ih (i + 1) (by omega)
 have:=H p.length 0 (by omega)
 simp only [I_len']
 exact this
def wk (r u:List Nat) (w:ByteArray):Nat→Nat→Nat
 | 0,x=>x
 | j + 1,x=>if bt w (j:Int) = 114 then g r (wk r u w j x) else g u (wk r u w j x)
end Go.Proofs.Ytcggfjpnfodbaaa.M
end
section
/- Words of letters: the program and the reference act alike. No conditions. -/
namespace Go.Proofs.Ytcggfjpnfodbaaa.M
set_option linter.unusedVariables false
set_option linter.unusedSimpArgs false
open Go.RowKit Go.Proofs.YtcggfjpnfodbaaaW.PrintWords Go.Proofs.YtcggfjpnfodbaaaW.PrintLast Go.Proofs.YtcggfjpnfodbaaaW.PrintMore Go.Proofs.Ytcggfjpnfodbaaa.A
def lt (c:Int) (s:List Nat × List Nat):List Nat × List Nat:=if c = 84 then (s.1,thn (inv s.1) s.2) else if c = 116 then (s.1,thn s.1 s.2) else if c = 83 then (inv s.2,s.1) else (s.2,inv s.1)
theorem sf_lt {s:List Nat × List Nat} (hs:Sf s.1 s.2) (c:Int):Sf (lt c s).1 (lt c s).2∧(lt c s).1.length = s.1.length:=by
 unfold lt
 split
 ·exact ⟨sf_T hs,rfl⟩
 ·split
  ·exact ⟨sf_t hs,rfl⟩
  ·split
   ·exact ⟨sf_S hs,by show (inv s.2).length = _;rw [inv_len,hs.eq]⟩
   ·exact ⟨sf_s hs,hs.eq⟩
theorem thn_small {r u:List Nat} (hs:Sf r u):(∀ i,i < (inv r).length→g (inv r) i < u.length)∧(∀ i,i < r.length→g r i < u.length):=by
 constructor
 ·intro i hi
  have:=g_lt (isP_inv hs.pr) hi
  rw [inv_len] at this
  rw [hs.eq]
  exact this
 ·intro i hi
  rw [hs.eq]
  exact g_lt hs.pr hi
theorem spec_letter {s:List Nat × List Nat} (hs:Sf s.1 s.2) (c:Int):Ev (fun k=>Z41.f k (I s.1) (I s.2) c) (I (lt c s).1,I (lt c s).2):=by
 have hle:=hs.le
 have heq:=hs.eq
 have c1:([]:List Int).length + (I s.1).length < 17592186044416:=by rw [I_len];simp;omega
 have c2:([]:List Int).length + (I s.2).length < 17592186044416:=by rw [I_len];simp;omega
 obtain ⟨t1,t2⟩:=thn_small hs
 unfold Z41.f lt
 by_cases h1:c = 84
 ·simp only [h1,if_true]
  refine Ev.bind (a:=(I s.1,I (thn (inv s.1) s.2))) ?_ (Ev.now _)
  unfold Z53.f
  simp only [Option.bind_some,c1,if_true,List.nil_append]
  exact Ev.bind (spec_inv hs.pr hs.le) (Ev.bind (spec_then t1 (by rw [inv_len];omega)) (Ev.now _))
 ·by_cases h2:c = 116
  ·have n1:¬ ((116:Int) = 84):=by omega
   simp only [h2,n1,if_true,if_false]
   refine Ev.bind (a:=(I s.1,I (thn s.1 s.2))) ?_ (Ev.now _)
   unfold Z29.f
   simp only [Option.bind_some,c1,if_true,List.nil_append]
   exact Ev.bind (spec_then t2 (by omega)) (Ev.now _)
  ·by_cases h3:c = 83
   ·have n1:¬ ((83:Int) = 84):=by omega
    have n2:¬ ((83:Int) = 116):=by omega
    simp only [h3,n1,n2,if_true,if_false]
    refine Ev.bind (a:=(I (inv s.2),I s.1)) ?_ (Ev.now _)
    unfold Z58.f
    refine Ev.bind (spec_inv hs.pu (by omega)) ?_
    simp only [Option.bind_some,c1,if_true,List.nil_append]
    exact Ev.now _
   ·simp only [h1,h2,h3,if_false]
    refine Ev.bind (a:=(I s.2,I (inv s.1))) ?_ (Ev.now _)
    unfold Z42.f
    simp only [Option.bind_some,c2,if_true,List.nil_append]
    exact Ev.bind (spec_inv hs.pr hs.le) (Ev.now _)
def letB (c:Int):Bool:=decide (c = 84 ∨ c = 116 ∨ c = 83 ∨ c = 115)
theorem idx_ev {c:Int} (h0:0≤c) (h1:c≤255):∃ i,Z15.f (⟨#[84,116,83,115]⟩:ByteArray) c = some i∧decide (i < 0) = !letB c:=by
 have idx_tab:∀ n:Fin 256,decide (Lib.indexByte [84,116,83,115] n.val.toUInt8 < 0) = !letB (n.val:Int):=by decide +kernel
 obtain ⟨n,rfl⟩:∃ n:Nat,c = n:=⟨c.toNat,by omega⟩
 refine ⟨_,rfl,?_⟩
 exact idx_tab ⟨n,by omega⟩
def wordB (w:ByteArray):Bool:=decide ((∀ j,j < w.size→letB (bt w (j:Int)) = true)∧w.size≤40)
theorem impl_wordOk (w:ByteArray) (hw:w.size≤9000000000000000000):Ev (fun k=>Z61.f k w) (wordB w):=by
 unfold Z61.f
 have H:∀ d j:Nat,j + d = w.size→(∀ i,i < j→letB (bt w (i:Int)) = true)→Ev (fun k=>Z61.l0 k w (j:Int)) (wordB w):=by
  intro d
  induction d with
  | zero =>
   intro j hj hl
   obtain rfl:j = w.size:=by omega
   refine ev_succ ?_
   have c1:¬ ((w.size:Int) < (w.size:Int)):=by omega
   have e:decide ((w.size:Int)≤40) = wordB w:=by
    unfold wordB
    rw [decide_eq_decide]
    constructor
    ·intro h
     exact ⟨hl,by omega⟩
    ·intro h
     have:=h.2
     omega
   simp only [Z61.l0,c1,if_false,e]
   exact Ev.now _
  | succ d ih =>
   intro j hj hl
   obtain ⟨b0,b1⟩:=bt_range w (j:Int)
   obtain ⟨i,e,hi⟩:=idx_ev b0 b1
   refine ev_succ ?_
   have c1:(j:Int) < (w.size:Int):=by omega
   have c2:(0:Int)≤(j:Int):=by omega
   have c3:=w64s j (by omega)
   simp only [Z61.l0,c1,c2,c3,e,if_true,Option.bind_some]
   by_cases hb:letB (bt w (j:Int)) = true
   ·have c4:¬ i < 0:=by
     rw [hb] at hi
     exact of_decide_eq_false hi
    simp only [c4,if_false]
    exact ih (j + 1) (by omega) (fun q hq=>by
     by_cases e:q = j
     ·rw [e];exact hb
     ·exact hl q (by omega))
   ·have hb':=Bool.eq_false_iff.mpr hb
    have c4:i < 0:=by
     rw [hb'] at hi
     exact of_decide_eq_true hi
    have e2:wordB w = false:=by
     unfold wordB
     rw [decide_eq_false_iff_not]
     intro h
     exact hb (h.1 j (by omega))
    simp only [c4,if_true,e2]
    exact Ev.now _
 exact H w.size 0 (Nat.zero_add _) (fun i hi=>by omega)
theorem copy_ev (l:List Int) (h:l.length≤1000000):Z46.f l = some l:=by
 unfold Z46.f
 have c1:([]:List Int).length + l.length < 17592186044416:=by simp;omega
 simp only [Option.bind_some,c1,if_true,List.nil_append]
theorem impl_letter {s:List Nat × List Nat} (hs:Sf s.1 s.2) (c:Int) (hc:letB c = true):Ev (fun k=>Z10.f k (I s.1) (I s.2) c) (I (lt c s).1,I (lt c s).2):=by
 have hle:=hs.le
 have heq:=hs.eq
 have h0:=surfB_I.mpr hs
 have k1:=copy_ev (I s.1) (by rw [I_len];omega)
 have k2:=copy_ev (I s.2) (by rw [I_len];omega)
 have hc:=of_decide_eq_true hc
 unfold Z10.f lt
 by_cases h1:c = 84
 ·simp only [h1,if_true]
  refine Ev.bind (a:=(I s.1,I (thn (inv s.1) s.2),true)) ?_ (Ev.now _)
  unfold Z13.f
  refine Ev.bind (impl_surf _ _) ?_
  simp only [h0,k1,if_true,Option.bind_some]
  exact Ev.bind (impl_inv hs.pr hs.le) (Ev.bind (impl_then (isP_inv hs.pr) hs.pu (by rw [inv_len,hs.eq]) (by rw [inv_len];exact hs.le)) (Ev.now _))
 ·by_cases h2:c = 116
  ·have n1:¬ ((116:Int) = 84):=by omega
   simp only [h2,n1,if_true,if_false]
   refine Ev.bind (a:=(I s.1,I (thn s.1 s.2),true)) ?_ (Ev.now _)
   unfold Z6.f
   refine Ev.bind (impl_surf _ _) ?_
   simp only [h0,k1,if_true,Option.bind_some]
   exact Ev.bind (impl_then hs.pr hs.pu hs.eq.symm hs.le) (Ev.now _)
  ·by_cases h3:c = 83
   ·have n1:¬ ((83:Int) = 84):=by omega
    have n2:¬ ((83:Int) = 116):=by omega
    simp only [h3,n1,n2,if_true,if_false]
    refine Ev.bind (a:=(I (inv s.2),I s.1,true)) ?_ (Ev.now _)
    unfold Z19.f
    refine Ev.bind (impl_surf _ _) ?_
    simp only [h0,if_true]
    refine Ev.bind (impl_inv hs.pu (by omega)) ?_
    simp only [k1,Option.bind_some]
    exact Ev.now _
   ·have h4:c = 115:=by omega
    have n1:¬ ((115:Int) = 84):=by omega
    have n2:¬ ((115:Int) = 116):=by omega
    have n3:¬ ((115:Int) = 83):=by omega
    simp only [h4,n1,n2,n3,if_true,if_false]
    refine Ev.bind (a:=(I s.2,I (inv s.1),true)) ?_ (Ev.now _)
    unfold Z9.f
    refine Ev.bind (impl_surf _ _) ?_
    simp only [h0,k2,if_true,Option.bind_some]
    exact Ev.bind (impl_inv hs.pr hs.le) (Ev.now _)
end Go.Proofs.Ytcggfjpnfodbaaa.M
end
section
/- Surfaces that are alike; surfaces that a word keeps. No conditions. -/
namespace Go.Proofs.Ytcggfjpnfodbaaa.M
set_option linter.unusedVariables false
set_option linter.unusedSimpArgs false
open Go.RowKit Go.Proofs.YtcggfjpnfodbaaaW.PrintWords Go.Proofs.YtcggfjpnfodbaaaW.PrintLast Go.Proofs.YtcggfjpnfodbaaaW.PrintMore Go.Proofs.Ytcggfjpnfodbaaa.A
theorem impl_same (a b:List Nat × List Nat) (h1:a.1.length≤1000000) (h2:a.2.length≤1000000):Ev (fun k=>Z18.f k (I a.1) (I a.2) (I b.1) (I b.2)) (decide (a = b)):=by
 unfold Z18.f
 refine Ev.bind (equal_ev a.1 b.1 (by omega)) ?_
 by_cases h:a.1 = b.1
 ·have e:decide (a = b) = decide (a.2 = b.2):=by
   rw [decide_eq_decide,Prod.ext_iff]
   simp [h]
  rw [e]
  simp only [h,decide_true,if_true]
  exact Ev.bind (equal_ev a.2 b.2 (by omega)) (Ev.now _)
 ·have e:decide (a = b) = false:=by
   rw [decide_eq_false_iff_not]
   intro e
   exact h (by rw [e])
  rw [e]
  simp only [h,decide_false,Bool.false_eq_true,if_false]
  exact Ev.now _
theorem spec_same (a b:List Nat × List Nat) (h1:a.1.length≤1000000) (h2:a.2.length≤1000000):Ev (fun k=>Z24.f k (I a.1) (I a.2) (I b.1) (I b.2)) (decide (a = b)):=by
 unfold Z24.f
 refine Ev.bind (sameList_nat a.1 b.1 (by omega)) ?_
 by_cases h:a.1 = b.1
 ·have e:decide (a = b) = decide (a.2 = b.2):=by
   rw [decide_eq_decide,Prod.ext_iff]
   simp [h]
  rw [e]
  simp only [h,decide_true,if_true]
  exact Ev.bind (sameList_nat a.2 b.2 (by omega)) (Ev.now _)
 ·have e:decide (a = b) = false:=by
   rw [decide_eq_false_iff_not]
   intro e
   exact h (by rw [e])
  rw [e]
  simp only [h,decide_false,Bool.false_eq_true,if_false]
  exact Ev.now _
theorem spec_wordOk (w:ByteArray):Ev (fun k=>Z66.f k w) (wordB w):=by
 unfold Z66.f
 by_cases h40:(w.size:Int) > 40
 ·have e:wordB w = false:=by
   unfold wordB
   rw [decide_eq_false_iff_not]
   intro h
   have:=h.2
   omega
  simp only [h40,if_true,e]
  exact Ev.now _
 ·simp only [h40,if_false]
  have H:∀ d j:Nat,j + d = w.size→(∀ i,i < j→letB (bt w (i:Int)) = true)→Ev (fun k=>Z66.l0 k w (j:Int)) (wordB w):=by
   intro d
   induction d with
   | zero =>
    intro j hj hl
    obtain rfl:j = w.size:=by omega
    refine ev_succ ?_
    have c1:¬ ((w.size:Int) < (w.size:Int)):=by omega
    have e:wordB w = true:=by
     unfold wordB
     rw [decide_eq_true_iff]
     exact ⟨hl,by omega⟩
    simp only [Z66.l0,c1,if_false,e]
    exact Ev.now _
   | succ d ih =>
    intro j hj hl
    refine ev_succ ?_
    have c1:(j:Int) < (w.size:Int):=by omega
    have c2:(0:Int)≤(j:Int):=by omega
    have key:=fun (hb:letB (bt w (j:Int)) = true)=>ih (j + 1) (by omega) (fun q hq=>by
     by_cases e:q = j
     ·rw [e];exact hb
     ·exact hl q (by omega))
    have c3:=w64s j (by omega)
    simp only [Z66.l0,c1,c2,c3,if_true]
    by_cases h1:bt w (j:Int) = 84
    ·simp only [h1,if_true]
     exact key (by unfold letB;exact decide_eq_true (Or.inl h1))
    ·by_cases h2:bt w (j:Int) = 116
     ·have n1:¬ ((116:Int) = 84):=by omega
      simp only [h2,n1,if_true,if_false]
      exact key (by unfold letB;exact decide_eq_true (Or.inr (Or.inl h2)))
     ·by_cases h3:bt w (j:Int) = 83
      ·have n1:¬ ((83:Int) = 84):=by omega
       have n2:¬ ((83:Int) = 116):=by omega
       simp only [h3,n1,n2,if_true,if_false]
       exact key (by unfold letB;exact decide_eq_true (Or.inr (Or.inr (Or.inl h3))))
      ·by_cases h4:bt w (j:Int) = 115
       ·have n1:¬ ((115:Int) = 84):=by omega
        have n2:¬ ((115:Int) = 116):=by omega
        have n3:¬ ((115:Int) = 83):=by omega
        simp only [h4,n1,n2,n3,if_true,if_false]
        exact key (by unfold letB;exact decide_eq_true (Or.inr (Or.inr (Or.inr h4))))
       ·have e:wordB w = false:=by
         unfold wordB
         rw [decide_eq_false_iff_not]
         intro h
         have:=of_decide_eq_true (h.1 j (by omega))
         omega
        simp only [h1,h2,h3,h4,if_false,e]
        exact Ev.now _
  exact H w.size 0 (Nat.zero_add _) (fun i hi=>by omega)
end Go.Proofs.Ytcggfjpnfodbaaa.M
end
section
/- The orbit in plain words: the program and the reference run alike. No conditions. -/
namespace Go.Proofs.Ytcggfjpnfodbaaa.M
set_option linter.unusedVariables false
set_option linter.unusedSimpArgs false
open Go.RowKit Go.Proofs.YtcggfjpnfodbaaaW.PrintWords Go.Proofs.YtcggfjpnfodbaaaW.PrintLast Go.Proofs.YtcggfjpnfodbaaaW.PrintMore Go.Proofs.Ytcggfjpnfodbaaa.A
def oS (p:List Nat × List Nat):S25:=⟨I p.1,I p.2⟩
def nxt (c:Int) (s:List Nat × List Nat):List Nat × List Nat:=canS (lt c s).1 (lt c s).2
theorem sf_nxt {s:List Nat × List Nat} (hs:Sf s.1 s.2) (c:Int):Sf (nxt c s).1 (nxt c s).2:=sf_canS (s:=lt c s) (sf_lt hs c).1
structure PO where
 L:List (List Nat × List Nat)
 W:List ByteArray
 F:List Int
 B:List Int
 T:List Int
 S:List Int
def PO.orb (s:PO):Orb:=⟨s.L.map oS,s.W,s.F,s.B,s.T,s.S⟩
def fi (L:List (List Nat × List Nat)) (x:List Nat × List Nat):Int:=if x ∈ L then ((L.idxOf x:Nat):Int) else -1
def atL (L:List (List Nat × List Nat)) (i:Nat):List Nat × List Nat:=L.getD i ([],[])
def atW (W:List ByteArray) (i:Nat):ByteArray:=rdOf ByteArray.empty W (i:Int)
def stepP (i:Nat) (c:Int) (s:PO):Option PO :=
 if nxt c (atL s.L i) ∈ s.L then some { s with T:=if c = 84 then s.T ++ [((s.L.idxOf (nxt c (atL s.L i)):Nat):Int)] else s.T,S:=if c = 84 then s.S else s.S ++ [((s.L.idxOf (nxt c (atL s.L i)):Nat):Int)] }
 else if s.L.length = 120 then none
 else some ⟨s.L ++ [nxt c (atL s.L i)],s.W ++ [atW s.W i ++ strOfNums [c]],s.F ++ [(i:Int)],s.B ++ [c],if c = 84 then s.T ++ [(s.L.length:Int)] else s.T,if c = 84 then s.S else s.S ++ [(s.L.length:Int)]⟩
def roundP (i:Nat) (s:PO):Option PO:=(stepP i 84 s).bind (stepP i 83)
def lpP:Nat→PO→Nat→Option PO
 | 0,s,_=>some s
 | f + 1,s,i=>if i < s.L.length then (roundP i s).bind (fun s'=>lpP f s' (i + 1)) else some s
structure Good (s:PO):Prop where
 sf:∀ x ∈ s.L,Sf x.1 x.2
 lw:s.W.length = s.L.length
 lf:s.F.length = s.L.length
 lb:s.B.length = s.L.length
 ws:∀ j,j < s.L.length→(atW s.W j).size≤j
 lt:s.T.length≤200
 ls:s.S.length≤200
theorem atL_get {L:List (List Nat × List Nat)} {i:Nat} (h:i < L.length):atL L i = L[i]:=by simp [atL,List.getD_eq_getElem?_getD,h]
theorem atL_mem {L:List (List Nat × List Nat)} {i:Nat} (h:i < L.length):atL L i ∈ L:=by rw [atL_get h];exact List.getElem_mem h
theorem atL_app {L:List (List Nat × List Nat)} {i:Nat} (h:i < L.length) (x:List Nat × List Nat):atL (L ++ [x]) i = atL L i:=by
 unfold atL
 rw [List.getD_eq_getElem?_getD,List.getD_eq_getElem?_getD,List.getElem?_append_left h]
theorem rd_oS {L:List (List Nat × List Nat)} {i:Nat} (h:i < L.length):rd_T25 (L.map oS) (i:Int) = oS (atL L i):=by
 unfold rd_T25
 rw [atL_get h]
 simp [List.getD_eq_getElem?_getD,h]
theorem str1 (c:Int):(strOfNums [c]).size = 1:=by simp [strOfNums,ByteArray.size]
theorem oidx_ev {L:List (List Nat × List Nat)} (hL:∀ x ∈ L,Sf x.1 x.2) (hl:L.length≤1000) (x:List Nat × List Nat):Ev (fun k=>indexO k (L.map oS) (I x.1) (I x.2)) (fi L x):=by
 unfold indexO
 have c1:(L.map oS).length < 4611686018427387904:=by rw [List.length_map];omega
 simp only [c1,if_true]
 have H:∀ (M:List (List Nat × List Nat)) (i:Nat),(∀ x ∈ M,Sf x.1 x.2)→Ev (fun k=>idxS k (I x.1) (I x.2) (M.map oS) i) (if x ∈ M then ((i + M.idxOf x:Nat):Int) else -1):=by
  intro M
  induction M with
  | nil=>intro i _;exact Ev.now _
  | cons y M ih =>
   intro i hM
   have hy:=hM y (by simp)
   have ly:=hy.le
   have ly2:=hy.eq
   rw [List.map_cons]
   simp only [idxS]
   refine Ev.bind (impl_same y x (by omega) (by omega)) ?_
   by_cases e:y = x
   ·subst e
    simp only [decide_true,if_true,List.mem_cons,true_or,List.idxOf_cons_self,Nat.add_zero]
    exact Ev.now _
   ·have hb:(y == x) = false:=beq_eq_false_iff_ne.mpr e
    simp only [e,decide_false,Bool.false_eq_true,if_false]
    have key:=ih (i + 1) (fun z hz=>hM z (by simp [hz]))
    have e1:(if x ∈ y :: M then ((i + (y :: M).idxOf x:Nat):Int) else -1) = (if x ∈ M then ((i + 1 + M.idxOf x:Nat):Int) else -1):=by
     have e2:x ∈ y :: M ↔ x ∈ M:=by simp [Ne.symm e]
     rw [List.idxOf_cons,hb]
     by_cases hm:x ∈ M
     ·rw [if_pos (e2.mpr hm),if_pos hm]
      simp only [cond_false]
      congr 1
      omega
     ·rw [if_neg (fun h=>hm (e2.mp h)),if_neg hm]
    rw [e1]
    exact key
 have key:=H L 0 hL
 unfold fi
 simp only [Nat.zero_add] at key
 exact key
theorem ofind_ev {L:List (List Nat × List Nat)} (hL:∀ x ∈ L,Sf x.1 x.2) (hl:L.length≤1000) (x:List Nat × List Nat):Ev (fun k=>Z59.f k (L.map oS) (I x.1) (I x.2)) (fi L x):=by
 unfold Z59.f
 have H:∀ d i:Nat,i + d = L.length→(∀ j,j < i→atL L j≠x)→Ev (fun k=>Z59.l0 k (L.map oS) (L.length:Int) (i:Int) (I x.1) (I x.2)) (fi L x):=by
  intro d
  induction d with
  | zero =>
   intro i hi hn
   obtain rfl:i = L.length:=by omega
   have e:fi L x = -1:=by
    unfold fi
    rw [if_neg]
    intro hm
    obtain ⟨j,hj,e⟩:=List.mem_iff_getElem.mp hm
    exact hn j hj (by rw [atL_get hj,e])
   refine ev_succ ?_
   have c1:¬ ((L.length:Int) < (L.length:Int)):=by omega
   simp only [Z59.l0,c1,if_false,e]
   exact Ev.now _
  | succ d ih =>
   intro i hi hn
   have hil:i < L.length:=by omega
   have hy:=hL _ (atL_mem hil)
   have ly:=hy.le
   have ly2:=hy.eq
   have c1:(i:Int) < (L.length:Int):=by omega
   have c2:(0:Int)≤(i:Int):=by omega
   have c3:=w64s i (by omega)
   refine ev_succ ?_
   simp only [Z59.l0,c1,c2,c3,List.length_map,rd_oS hil,if_true]
   refine Ev.bind (spec_same (atL L i) x (by omega) (by omega)) ?_
   by_cases e:atL L i = x
   ·have ef:fi L x = (i:Int):=by
     unfold fi
     have hm:x ∈ L:=by rw [← e];exact atL_mem hil
     rw [if_pos hm]
     congr 1
     have h1:L.idxOf x≤i:=by
      apply Classical.byContradiction
      intro hlt
      have:=List.not_of_lt_findIdx (xs:=L) (p:=(· == x)) (i:=i) (by unfold List.idxOf at hlt;omega)
      rw [← atL_get hil,e] at this
      simp at this
     have h2:¬ L.idxOf x < i:=by
      intro hlt
      have hlt2:L.idxOf x < L.length:=List.idxOf_lt_length_of_mem hm
      refine hn _ hlt ?_
      rw [atL_get hlt2]
      exact List.getElem_idxOf hlt2
     omega
    rw [ef]
    simp only [e,decide_true,if_true]
    exact Ev.now _
   ·simp only [e,decide_false,Bool.false_eq_true,if_false]
    exact ih (i + 1) (by omega) (fun j hj=>by
     by_cases ej:j = i
     ·rw [ej];exact e
     ·exact hn j (by omega))
 have key:=H L.length 0 (Nat.zero_add _) (fun j hj=>by omega)
 rw [List.length_map]
 exact key
theorem fi_neg {L:List (List Nat × List Nat)} {x:List Nat × List Nat}:fi L x < 0 ↔ x ∉ L:=by
 unfold fi
 by_cases h:x ∈ L
 ·rw [if_pos h];constructor
  ·intro h2;omega
  ·intro h2;exact absurd h h2
 ·rw [if_neg h];simp [h]
theorem let_ok {c:Int} (hc:c = 84 ∨ c = 83):letB c = true:=by
 rcases hc with rfl | rfl <;> rfl
theorem stpO_ev {s:PO} (hg:Good s) {i:Nat} (hi:i < s.L.length) (hl:s.L.length≤120) {c:Int} (hc:c = 84 ∨ c = 83):Ev (fun k=>stpO k (i:Int) c s.orb) ((stepP i c s).map PO.orb):=by
 have hs:=hg.sf _ (atL_mem hi)
 have h1:=impl_letter hs c (let_ok hc)
 have h2:=impl_canon (sf_lt hs c).1
 have h3:=oidx_ev hg.sf (by omega) (nxt c (atL s.L i))
 have c1:(0:Int)≤(i:Int):=by omega
 have c2:(i:Int) < (s.orb.L.length:Int):=by show (i:Int) < ((s.L.map oS).length:Int);rw [List.length_map];omega
 unfold stpO
 simp only [c1,c2,if_true]
 have e1:rd_T25 s.orb.L (i:Int) = oS (atL s.L i):=rd_oS hi
 rw [e1]
 refine Ev.bind h1 (Ev.bind h2 (Ev.bind h3 ?_))
 have el:s.orb.L.length = s.L.length:=List.length_map _
 have lw:=hg.lw
 have lf:=hg.lf
 have lb:=hg.lb
 have lt':=hg.lt
 have ls:=hg.ls
 by_cases hm:nxt c (atL s.L i) ∈ s.L
 ·have hn:¬ fi s.L (nxt c (atL s.L i)) < 0:=fun h=>fi_neg.mp h hm
  have e2:fi s.L (nxt c (atL s.L i)) = ((s.L.idxOf (nxt c (atL s.L i)):Nat):Int):=if_pos hm
  have c5:s.orb.T.length < 1000000∧s.orb.S.length < 1000000:=⟨by show s.T.length < _;omega,by show s.S.length < _;omega⟩
  have e3:stepP i c s = some { s with T:=if c = 84 then s.T ++ [((s.L.idxOf (nxt c (atL s.L i)):Nat):Int)] else s.T,S:=if c = 84 then s.S else s.S ++ [((s.L.idxOf (nxt c (atL s.L i)):Nat):Int)] }:=if_pos hm
  rw [e3,e2]
  rw [e2] at hn
  rw [if_neg hn,if_pos c5]
  exact Ev.now _
 ·have hn:fi s.L (nxt c (atL s.L i)) < 0:=fi_neg.mpr hm
  simp only [hn,if_true]
  by_cases h120:s.L.length = 120
  ·have e3:stepP i c s = none:=by unfold stepP;rw [if_neg hm,if_pos h120]
   have c6:(s.orb.L.length:Int) = 120:=by rw [el];omega
   rw [e3,if_pos c6]
   exact Ev.now _
  ·have c6:¬ (s.orb.L.length:Int) = 120:=by rw [el];omega
   have c7:s.orb.L.length < 1000000∧s.orb.W.length < 1000000∧s.orb.F.length < 1000000∧s.orb.B.length < 1000000∧s.orb.T.length < 1000000∧s.orb.S.length < 1000000:=⟨by rw [el];omega,by show s.W.length < _;omega,by show s.F.length < _;omega,by show s.B.length < _;omega,by show s.T.length < _;omega,by show s.S.length < _;omega⟩
   have c8:(i:Int) < (s.orb.W.length:Int):=by show (i:Int) < (s.W.length:Int);omega
   have c9:(rdOf ByteArray.empty s.orb.W (i:Int)).size + 1≤9223372036854775807:=by have:=hg.ws i hi;show (atW s.W i).size + 1≤_;omega
   have e3:stepP i c s = some ⟨s.L ++ [nxt c (atL s.L i)],s.W ++ [atW s.W i ++ strOfNums [c]],s.F ++ [(i:Int)],s.B ++ [c],if c = 84 then s.T ++ [(s.L.length:Int)] else s.T,if c = 84 then s.S else s.S ++ [(s.L.length:Int)]⟩:=by unfold stepP;rw [if_neg hm,if_neg h120]
   rw [e3,if_neg c6,if_pos c7,if_pos c8,if_pos c9]
   have e4:s.orb.L ++ [(⟨I (canS (lt c (atL s.L i)).1 (lt c (atL s.L i)).2).1,I (canS (lt c (atL s.L i)).1 (lt c (atL s.L i)).2).2⟩:S25)] = (s.L ++ [nxt c (atL s.L i)]).map oS:=by rw [List.map_append];rfl
   refine Ev.of (k:=0) (fun k=>LeO.refl _) ?_
   show some (some (Orb.mk _ _ _ _ _ _)) = some (some (Orb.mk _ _ _ _ _ _))
   rw [e4,el]
   rfl
theorem atW_app {W:List ByteArray} {j:Nat} (h:j < W.length) (x:ByteArray):atW (W ++ [x]) j = atW W j:=by
 unfold atW rdOf
 rw [Int.toNat_natCast,List.getD_eq_getElem?_getD,List.getD_eq_getElem?_getD,List.getElem?_append_left h]
theorem atW_last (W:List ByteArray) (x:ByteArray):atW (W ++ [x]) W.length = x:=by
 unfold atW rdOf
 rw [Int.toNat_natCast,List.getD_eq_getElem?_getD,List.getElem?_append_right (Nat.le_refl _)]
 simp
theorem step_good {s s':PO} (hg:Good s) {i:Nat} (hi:i < s.L.length) {c:Int} (hT:s.T.length < 200) (hS:s.S.length < 200) (h:stepP i c s = some s'):Good s'∧i < s'.L.length∧s'.T.length≤s.T.length + 1∧s'.S.length≤s.S.length + 1∧(s.L.length≤120→s'.L.length≤120):=by
 have hs:=hg.sf _ (atL_mem hi)
 unfold stepP at h
 by_cases hm:nxt c (atL s.L i) ∈ s.L
 ·rw [if_pos hm] at h
  have h:=Option.some.inj h
  subst h
  have q1:(if c = 84 then s.T ++ [((s.L.idxOf (nxt c (atL s.L i)):Nat):Int)] else s.T).length≤s.T.length + 1:=by split <;> simp
  have q2:(if c = 84 then s.S else s.S ++ [((s.L.idxOf (nxt c (atL s.L i)):Nat):Int)]).length≤s.S.length + 1:=by split <;> simp
  exact ⟨⟨hg.sf,hg.lw,hg.lf,hg.lb,hg.ws,by show (if c = 84 then _ else _:List Int).length≤200;omega,by show (if c = 84 then _ else _:List Int).length≤200;omega⟩,hi,q1,q2,fun h=>h⟩
 ·rw [if_neg hm] at h
  by_cases h120:s.L.length = 120
  ·rw [if_pos h120] at h;cases h
  ·rw [if_neg h120] at h
   have h:=Option.some.inj h
   subst h
   have q1:(if c = 84 then s.T ++ [(s.L.length:Int)] else s.T).length≤s.T.length + 1:=by split <;> simp
   have q2:(if c = 84 then s.S else s.S ++ [(s.L.length:Int)]).length≤s.S.length + 1:=by split <;> simp
   refine ⟨⟨fun x hx=>?_,by simp [hg.lw],by simp [hg.lf],by simp [hg.lb],fun j hj=>?_,by show (if c = 84 then _ else _:List Int).length≤200;omega,by show (if c = 84 then _ else _:List Int).length≤200;omega⟩,by simp;omega,q1,q2,fun h=>by simp;omega⟩
   ·rcases List.mem_append.mp hx with hx | hx
    ·exact hg.sf x hx
    ·obtain rfl:x = nxt c (atL s.L i):=by simpa using hx
     exact sf_nxt hs c
   ·have hj:j < s.L.length + 1:=by simpa using hj
    show (atW (s.W ++ [atW s.W i ++ strOfNums [c]]) j).size≤j
    by_cases e:j = s.L.length
    ·rw [e,← hg.lw,atW_last,ByteArray.size_append,str1,hg.lw]
     have:=hg.ws i hi
     omega
    ·rw [atW_app (by rw [hg.lw];omega)]
     exact hg.ws j (by omega)
def stepU (i:Nat) (c:Int) (L:List (List Nat × List Nat)) (W:List ByteArray):List (List Nat × List Nat) × List ByteArray:=if nxt c (atL L i) ∈ L then (L,W) else (L ++ [nxt c (atL L i)],W ++ [atW W i ++ strOfNums [c]])
theorem stepU_of {s s':PO} {i:Nat} {c:Int} (h:stepP i c s = some s'):stepU i c s.L s.W = (s'.L,s'.W):=by
 unfold stepP at h
 unfold stepU
 by_cases hm:nxt c (atL s.L i) ∈ s.L
 ·rw [if_pos hm] at h ⊢
  have h:=Option.some.inj h
  subst h
  rfl
 ·rw [if_neg hm] at h ⊢
  by_cases h120:s.L.length = 120
  ·rw [if_pos h120] at h;cases h
  ·rw [if_neg h120] at h
   have h:=Option.some.inj h
   subst h
   rfl
theorem stepU_none {s:PO} {i:Nat} {c:Int} (h:stepP i c s = none):(stepU i c s.L s.W).1.length = 121:=by
 unfold stepP at h
 unfold stepU
 by_cases hm:nxt c (atL s.L i) ∈ s.L
 ·rw [if_pos hm] at h;cases h
 ·rw [if_neg hm] at h ⊢
  by_cases h120:s.L.length = 120
  ·simp [h120]
  ·rw [if_neg h120] at h;cases h
structure GoodU (L:List (List Nat × List Nat)) (W:List ByteArray):Prop where
 sf:∀ x ∈ L,Sf x.1 x.2
 lw:W.length = L.length
 ws:∀ j,j < L.length→(atW W j).size≤j
theorem Good.u {s:PO} (h:Good s):GoodU s.L s.W:=⟨h.sf,h.lw,h.ws⟩
theorem stepU_good {L:List (List Nat × List Nat)} {W:List ByteArray} (hg:GoodU L W) {i:Nat} (hi:i < L.length) (c:Int):GoodU (stepU i c L W).1 (stepU i c L W).2∧L.length≤(stepU i c L W).1.length∧(stepU i c L W).1.length≤L.length + 1:=by
 have hs:=hg.sf _ (atL_mem hi)
 unfold stepU
 by_cases hm:nxt c (atL L i) ∈ L
 ·rw [if_pos hm];exact ⟨hg,Nat.le_refl _,by simp⟩
 ·rw [if_neg hm]
  refine ⟨⟨fun x hx=>?_,by simp [hg.lw],fun j hj=>?_⟩,by simp,by simp⟩
  ·rcases List.mem_append.mp hx with hx | hx
   ·exact hg.sf x hx
   ·obtain rfl:x = nxt c (atL L i):=by simpa using hx
    exact sf_nxt hs c
  ·have hj:j < L.length + 1:=by simpa using hj
   show (atW (W ++ [atW W i ++ strOfNums [c]]) j).size≤j
   by_cases e:j = L.length
   ·rw [e,← hg.lw,atW_last,ByteArray.size_append,str1,hg.lw]
    have:=hg.ws i hi
    omega
   ·rw [atW_app (by rw [hg.lw];omega)]
    exact hg.ws j (by omega)
theorem specU_ev {L:List (List Nat × List Nat)} {W:List ByteArray} (hg:GoodU L W) {i:Nat} (hi:i < L.length) (hl:L.length≤1000) {j:Nat} {c:Int} (hj:j < 2) (hc:rd [84,83] (j:Int) = c) (res:List S25 × List ByteArray × Bool)
  (H:Ev (fun k=>Z54.l1 k ((stepU i c L W).1.map oS) (stepU i c L W).2 (i:Int) [84,83] 2 ((j + 1:Nat):Int)) res):Ev (fun k=>Z54.l1 k (L.map oS) W (i:Int) [84,83] 2 (j:Int)) res:=by
 have hs:=hg.sf _ (atL_mem hi)
 have h1:=spec_letter hs c
 have h2:=spec_canon (sf_lt hs c).1
 have h3:=ofind_ev hg.sf (by omega) (nxt c (atL L i))
 have c1:(j:Int) < 2:=by omega
 have c2:(0:Int)≤(j:Int):=by omega
 have c3:=w64s j (by omega)
 have c4:(j:Int) < (([84,83]:List Int).length:Int):=by show (j:Int) < ((2:Nat):Int);omega
 have c5:(0:Int)≤(i:Int):=by omega
 have c6:(i:Int) < ((L.map oS).length:Int):=by rw [List.length_map];omega
 refine ev_succ ?_
 simp only [Z54.l1,c1,c2,c3,c4,c5,c6,hc,rd_oS hi,if_true,Option.bind_some]
 refine Ev.bind h1 (Ev.bind h2 (Ev.bind h3 ?_))
 unfold stepU at H
 by_cases hm:nxt c (atL L i) ∈ L
 ·have hn:¬ fi L (nxt c (atL L i)) < 0:=fun h=>fi_neg.mp h hm
  rw [if_pos hm] at H
  simp only [hn,if_false]
  exact H
 ·have hn:fi L (nxt c (atL L i)) < 0:=fi_neg.mpr hm
  rw [if_neg hm] at H
  have c7:(L.map oS).length < 2932031007402:=by rw [List.length_map];omega
  have c8:(i:Int) < (W.length:Int):=by have:=hg.lw;omega
  have c9:(rdOf ByteArray.empty W (i:Int)).size + (strOfNums [c]).size≤9223372036854775807:=by have:=hg.ws i hi;rw [str1];show (atW W i).size + 1≤_;omega
  have c10:W.length < 8796093022208:=by have:=hg.lw;omega
  simp only [hn,c7,c8,c9,c10,if_true]
  have e4:L.map oS ++ [(⟨I (canS (lt c (atL L i)).1 (lt c (atL L i)).2).1,I (canS (lt c (atL L i)).1 (lt c (atL L i)).2).2⟩:S25)] = (L ++ [nxt c (atL L i)]).map oS:=by rw [List.map_append];rfl
  rw [e4]
  exact H
def specR:Option PO→List S25 × List ByteArray × Bool
 | none=>([],[],false)
 | some s=>(s.L.map oS,s.W,true)
theorem orb_sim:∀ (f i:Nat) (s:PO),121≤f + i→Good s→i≤s.L.length→s.L.length≤120→s.T.length≤i→s.S.length≤i→Ev (fun k=>loopO k s.orb (i:Int)) ((lpP f s i).map PO.orb)∧Ev (fun k=>Z54.l0 k (s.L.map oS) s.W (i:Int)) (specR (lpP f s i)):=by
 intro f
 induction f with
 | zero=>intro i s h1 h2 h3 h4;omega
 | succ f ih =>
  intro i s hf hg hi0 hl hT hS
  have el:s.orb.L.length = s.L.length:=List.length_map _
  by_cases hi:i < s.L.length
  ·have c1:(i:Int) < (s.orb.L.length:Int):=by rw [el];omega
   have c2:(i:Int) < ((s.L.map oS).length:Int):=by rw [List.length_map];omega
   have c3:=w64s i (by omega)
   have hu:=hg.u
   have e1:=stpO_ev hg hi hl (c:=84) (.inl rfl)
   have u1:=stepU_good hu hi 84
   have eL:lpP (f + 1) s i = (roundP i s).bind (fun s'=>lpP f s' (i + 1)):=by rw [lpP,if_pos hi]
   have fin:∀ (L2:List (List Nat × List Nat)) (W2:List ByteArray) (res:List S25 × List ByteArray × Bool),stepU i 83 (stepU i 84 s.L s.W).1 (stepU i 84 s.L s.W).2 = (L2,W2)→Ev (fun k=>if ((L2.map oS).length:Int) > 120 then (some (([]:List S25),([]:List ByteArray),false)) else Z54.l0 k (L2.map oS) W2 (wrap64 ((i:Int) + 1))) res→Ev (fun k=>Z54.l0 k (s.L.map oS) s.W (i:Int)) res:=by
    intro L2 W2 res e H
    refine ev_succ ?_
    simp only [Z54.l0,c2,if_true,Option.bind_some]
    refine specU_ev hu hi (by omega) (j:=0) (c:=84) (by omega) rfl res ?_
    have hi2:i < (stepU i 84 s.L s.W).1.length:=by omega
    refine specU_ev u1.1 hi2 (by omega) (j:=1) (c:=83) (by omega) rfl res ?_
    rw [e]
    refine ev_succ ?_
    have c9:¬ ((((1 + 1:Nat):Int)) < 2):=by omega
    simp only [Z54.l1,c9,if_false]
    exact H
   have impl0:∀ r:Option Orb,Ev (fun k=>innerO k (i:Int) [84,83] s.orb) r→Ev (fun k=>match r with | none=>some none | some s'=>loopO k s' (wrap64 ((i:Int) + 1))) ((lpP (f + 1) s i).map PO.orb)→Ev (fun k=>loopO k s.orb (i:Int)) ((lpP (f + 1) s i).map PO.orb):=by
    intro r h1 h2
    refine ev_succ ?_
    simp only [loopO,c1,if_true]
    exact Ev.bind h1 h2
   cases h84:stepP i 84 s with
   | none =>
    have en:lpP (f + 1) s i = none:=by rw [eL];unfold roundP;rw [h84];rfl
    have l121:=stepU_none h84
    rw [h84] at e1
    rw [en] at impl0 ⊢
    have u2:=stepU_good u1.1 (i:=i) (by omega) 83
    have l2:(stepU i 83 (stepU i 84 s.L s.W).1 (stepU i 84 s.L s.W).2).1.length > 120:=by omega
    refine ⟨impl0 none ?_ (Ev.now _),?_⟩
    ·unfold innerO
     exact Ev.bind e1 (Ev.now _)
    ·revert l2
     generalize ep:stepU i 83 (stepU i 84 s.L s.W).1 (stepU i 84 s.L s.W).2 = p
     intro l2
     refine fin p.1 p.2 _ ep ?_
     have c9:((p.1.map oS).length:Int) > 120:=by rw [List.length_map];omega
     simp only [c9,if_true]
     exact Ev.now _
   | some s1 =>
    obtain ⟨g1,i1,t1,ss1,l1⟩:=step_good hg hi (by omega) (by omega) h84
    have e2:=stpO_ev g1 i1 (l1 hl) (c:=83) (.inr rfl)
    have eu:=stepU_of h84
    rw [h84] at e1
    have eR:lpP (f + 1) s i = (stepP i 83 s1).bind (fun s'=>lpP f s' (i + 1)):=by rw [eL];unfold roundP;rw [h84];rfl
    cases h83:stepP i 83 s1 with
    | none =>
     have en:lpP (f + 1) s i = none:=by rw [eR,h83];rfl
     have l121:=stepU_none h83
     rw [h83] at e2
     rw [en] at impl0 ⊢
     have l2:(stepU i 83 (stepU i 84 s.L s.W).1 (stepU i 84 s.L s.W).2).1.length > 120:=by rw [eu,l121];omega
     refine ⟨impl0 none ?_ (Ev.now _),?_⟩
     ·unfold innerO
      refine Ev.bind e1 ?_
      simp only [innerO]
      exact Ev.bind e2 (Ev.now _)
     ·revert l2
      generalize ep:stepU i 83 (stepU i 84 s.L s.W).1 (stepU i 84 s.L s.W).2 = p
      intro l2
      refine fin p.1 p.2 _ ep ?_
      have c9:((p.1.map oS).length:Int) > 120:=by rw [List.length_map];omega
      simp only [c9,if_true]
      exact Ev.now _
    | some s2 =>
     obtain ⟨g2,i2,t2,ss2,l2⟩:=step_good g1 i1 (by omega) (by omega) h83
     have eu2:=stepU_of h83
     rw [h83] at e2
     have es:lpP (f + 1) s i = lpP f s2 (i + 1):=by rw [eR,h83];rfl
     have hT2:s2.T.length≤i + 1∧s2.S.length≤i + 1:=by
      have a1:s1.S.length = s.S.length:=by
       unfold stepP at h84
       split at h84
       ·have h:=Option.some.inj h84;subst h;rfl
       ·split at h84
        ·cases h84
        ·have h:=Option.some.inj h84;subst h;rfl
      have a2:s2.T.length = s1.T.length:=by
       unfold stepP at h83
       split at h83
       ·have h:=Option.some.inj h83;subst h;rfl
       ·split at h83
        ·cases h83
        ·have h:=Option.some.inj h83;subst h;rfl
      omega
     obtain ⟨k1,k2⟩:=ih (i + 1) s2 (by omega) g2 (by omega) (l2 (l1 hl)) hT2.1 hT2.2
     rw [es] at impl0 ⊢
     refine ⟨impl0 (some s2.orb) ?_ ?_,?_⟩
     ·unfold innerO
      refine Ev.bind e1 ?_
      simp only [innerO]
      refine Ev.bind e2 (Ev.now _)
     ·simp only [c3]
      exact k1
     ·refine fin s2.L s2.W _ (by rw [eu];exact eu2) ?_
      have c9:¬ ((s2.L.map oS).length:Int) > 120:=by rw [List.length_map];have:=l2 (l1 hl);omega
      simp only [c9,if_false,c3]
      exact k2
  ·have c1:¬ (i:Int) < (s.orb.L.length:Int):=by rw [el];omega
   have c2:¬ (i:Int) < ((s.L.map oS).length:Int):=by rw [List.length_map];omega
   have eL:lpP (f + 1) s i = some s:=by rw [lpP,if_neg hi]
   rw [eL]
   constructor
   ·refine ev_succ ?_
    simp only [loopO,c1,if_false]
    exact Ev.now _
   ·refine ev_succ ?_
    simp only [Z54.l0,c2,if_false]
    exact Ev.now _
def start0 (a:List Nat × List Nat):PO:=⟨[canS a.1 a.2],[⟨#[]⟩],[-1],[0],[],[]⟩
def orbP (a:List Nat × List Nat):Option PO:=lpP 121 (start0 a) 0
theorem start_good {a:List Nat × List Nat} (ha:Sf a.1 a.2):Good (start0 a) :=
 ⟨fun x hx=>by obtain rfl:x = canS a.1 a.2:=(by simpa [start0] using hx);exact sf_canS ha,rfl,rfl,rfl,fun j hj=>by
  have hj:j < 1:=hj
  obtain rfl:j = 0:=by omega
  exact Nat.le_refl _,by simp [start0],by simp [start0]⟩
theorem orb_both {a:List Nat × List Nat} (ha:Sf a.1 a.2):Ev (fun k=>orbitO k (I a.1) (I a.2)) ((orbP a).map PO.orb)∧Ev (fun k=>Z54.f k (I a.1) (I a.2)) (specR (orbP a)):=by
 obtain ⟨h1,h2⟩:=orb_sim 121 0 (start0 a) (by omega) (start_good ha) (Nat.zero_le _) (by simp [start0]) (by simp [start0]) (by simp [start0])
 constructor
 ·unfold orbitO
  refine Ev.bind (impl_canon ha) ?_
  simp only [if_true]
  exact h1
 ·unfold Z54.f
  exact Ev.bind (spec_canon ha) h2
theorem orbO_no {r u:List Int} (h:¬ surfB r u = true):Ev (fun k=>orbitO k r u) none:=by
 unfold orbitO
 refine Ev.bind (impl_canon_no h) ?_
 simp only [Bool.false_eq_true,if_false]
 exact Ev.now _
end Go.Proofs.Ytcggfjpnfodbaaa.M
end
section
/- The orbit's size: the program and the reference agree. No conditions. -/
namespace Go.Proofs.Ytcggfjpnfodbaaa.M
set_option linter.unusedSimpArgs false
open Go.RowKit Go.Proofs.YtcggfjpnfodbaaaW.PrintWords Go.Proofs.YtcggfjpnfodbaaaW.PrintLast Go.Proofs.YtcggfjpnfodbaaaW.PrintMore Go.Proofs.Ytcggfjpnfodbaaa.A
def orbR (r u:List Int):Option PO:=if surfB r u = true then orbP (N r,N u) else none
theorem N_I' (l:List Nat):N (I l) = l:=N_I l
theorem orbR_I {a:List Nat × List Nat} (ha:Sf a.1 a.2):orbR (I a.1) (I a.2) = orbP a:=by
 unfold orbR
 rw [if_pos (surfB_I.mpr ha),N_I',N_I']
theorem orbR_ev (r u:List Int):Ev (fun k=>orbitO k r u) ((orbR r u).map PO.orb):=by
 by_cases h:surfB r u = true
 ·obtain ⟨r',u',rfl,rfl,hs⟩:=surf_nat h
  rw [orbR_I (a:=(r',u')) hs]
  exact (orb_both (a:=(r',u')) hs).1
 ·have e:orbR r u = none:=if_neg h
  rw [e]
  exact orbO_no h
end Go.Proofs.Ytcggfjpnfodbaaa.M
end
section
/- Is a surface in the orbit: the program and the reference agree. No conditions. -/
namespace Go.Proofs.Ytcggfjpnfodbaaa.M
set_option linter.unusedSimpArgs false
open Go.RowKit Go.Proofs.YtcggfjpnfodbaaaW.PrintWords Go.Proofs.YtcggfjpnfodbaaaW.PrintLast Go.Proofs.YtcggfjpnfodbaaaW.PrintMore Go.Proofs.Ytcggfjpnfodbaaa.A
theorem round_good {s s':PO} {i:Nat} (hg:Good s) (hi:i < s.L.length) (hl:s.L.length≤120) (hT:s.T.length≤i) (hS:s.S.length≤i) (h:roundP i s = some s'):Good s'∧i < s'.L.length∧s'.L.length≤120∧s'.T.length≤i + 1∧s'.S.length≤i + 1:=by
 unfold roundP at h
 cases h84:stepP i 84 s with
 | none=>rw [h84] at h;cases h
 | some s1 =>
  rw [h84] at h
  have h83:stepP i 83 s1 = some s':=h
  obtain ⟨g1,i1,t1,ss1,l1⟩:=step_good hg hi (by omega) (by omega) h84
  obtain ⟨g2,i2,t2,ss2,l2⟩:=step_good g1 i1 (by omega) (by omega) h83
  have a1:s1.S.length = s.S.length:=by
   unfold stepP at h84
   split at h84
   ·have h:=Option.some.inj h84;subst h;rfl
   ·split at h84
    ·cases h84
    ·have h:=Option.some.inj h84;subst h;rfl
  have a2:s'.T.length = s1.T.length:=by
   unfold stepP at h83
   split at h83
   ·have h:=Option.some.inj h83;subst h;rfl
   ·split at h83
    ·cases h83
    ·have h:=Option.some.inj h83;subst h;rfl
  exact ⟨g2,i2,l2 (l1 hl),by omega,by omega⟩
theorem lp_good:∀ (f i:Nat) (s s':PO),Good s→i≤s.L.length→s.L.length≤120→s.T.length≤i→s.S.length≤i→lpP f s i = some s'→Good s'∧s'.L.length≤120:=by
 intro f
 induction f with
 | zero=>intro i s s' hg _ hl _ _ h;have h:=Option.some.inj h;subst h;exact ⟨hg,hl⟩
 | succ f ih =>
  intro i s s' hg hi hl hT hS h
  rw [lpP] at h
  by_cases c:i < s.L.length
  ·rw [if_pos c] at h
   cases e:roundP i s with
   | none=>rw [e] at h;cases h
   | some s1 =>
    rw [e] at h
    obtain ⟨g1,i1,l1,t1,u1⟩:=round_good hg c hl hT hS e
    exact ih (i + 1) s1 s' g1 (by omega) l1 t1 u1 h
  ·rw [if_neg c] at h
   have h:=Option.some.inj h
   subst h
   exact ⟨hg,hl⟩
theorem orbP_good {a:List Nat × List Nat} (ha:Sf a.1 a.2) {s:PO} (h:orbP a = some s):Good s∧s.L.length≤120 :=
 lp_good 121 0 (start0 a) s (start_good ha) (Nat.zero_le _) (by simp [start0]) (by simp [start0]) (by simp [start0]) h
end Go.Proofs.Ytcggfjpnfodbaaa.M
end
section
/- Where each surface of the orbit came from: words and places. No conditions. -/
namespace Go.Proofs.Ytcggfjpnfodbaaa.M
set_option linter.unusedVariables false
set_option linter.unusedSimpArgs false
open Go.RowKit Go.Proofs.YtcggfjpnfodbaaaW.PrintWords Go.Proofs.YtcggfjpnfodbaaaW.PrintLast Go.Proofs.YtcggfjpnfodbaaaW.PrintMore Go.Proofs.Ytcggfjpnfodbaaa.A
abbrev PS:Type:=List Nat × List Nat
theorem rd_app1 {R:List Int} {j:Nat} (h:j < R.length) (x:Int):rd (R ++ [x]) (j:Int) = rd R (j:Int):=by
 unfold rd
 rw [Int.toNat_natCast,List.getD_eq_getElem?_getD,List.getD_eq_getElem?_getD,List.getElem?_append_left h]
theorem rd_app2 (R:List Int) (x:Int) {j:Nat} (h:j = R.length):rd (R ++ [x]) (j:Int) = x:=by
 subst h
 unfold rd
 rw [Int.toNat_natCast,List.getD_eq_getElem?_getD,List.getElem?_append_right (Nat.le_refl _)]
 simp
theorem atL_app2 (L:List PS) (x:PS) {j:Nat} (h:j = L.length):atL (L ++ [x]) j = x:=by
 subst h
 unfold atL
 rw [List.getD_eq_getElem?_getD,List.getElem?_append_right (Nat.le_refl _)]
 simp
theorem atW_app2 (W:List ByteArray) (x:ByteArray) {j:Nat} (h:j = W.length):atW (W ++ [x]) j = x:=by
 subst h
 exact atW_last W x
structure WI (L:List PS) (W:List ByteArray) (F B:List Int) (i:Nat):Prop where
 nd:L.Nodup
 pos:0 < L.length
 lw:W.length = L.length
 lf:F.length = L.length
 lb:B.length = L.length
 w0:(atW W 0).size = 0
 f0:rd F ((0:Nat):Int) = -1
 st:∀ k:Nat,0 < k→k < L.length→∃ j:Nat,j < k∧rd F (k:Int) = (j:Int)∧(rd B (k:Int) = 84 ∨ rd B (k:Int) = 83)∧atW W k = atW W j ++ strOfNums [rd B (k:Int)]∧atL L k = nxt (rd B (k:Int)) (atL L j)
 mon:∀ j k:Nat,j≤k→k < L.length→(atW W j).size≤(atW W k).size
 cap:∀ j:Nat,j < L.length→i < L.length→(atW W j).size≤(atW W i).size + 1
structure RI (L:List PS) (W:List ByteArray) (c:Int) (R:List Int) (n:Nat):Prop where
 l:R.length = n
 t:∀ j:Nat,j < n→∃ m:Nat,m < L.length∧rd R (j:Int) = (m:Int)∧atL L m = nxt c (atL L j)∧(atW W m).size≤(atW W j).size + 1
section
variable {L:List PS} {W:List ByteArray} {F B R:List Int} {i n:Nat} {c:Int}
theorem RI.grow (h:RI L W c R n) (hn:n≤L.length) (hw:W.length = L.length) (x:PS) (w:ByteArray):RI (L ++ [x]) (W ++ [w]) c R n:=by
 refine ⟨h.l,fun j hj=>?_⟩
 obtain ⟨m,h1,h2,h3,h4⟩:=h.t j hj
 refine ⟨m,by simp;omega,h2,?_,?_⟩
 ·rw [atL_app h1,atL_app (by omega)];exact h3
 ·rw [atW_app (by omega),atW_app (by omega)];exact h4
theorem RI.add (h:RI L W c R n) {m:Nat} (h1:m < L.length) (h3:atL L m = nxt c (atL L n)) (h4:(atW W m).size≤(atW W n).size + 1):RI L W c (R ++ [(m:Int)]) (n + 1):=by
 refine ⟨by rw [List.length_append,h.l];rfl,fun j hj=>?_⟩
 by_cases e:j = n
 ·subst e
  exact ⟨m,h1,rd_app2 R _ h.l.symm,h3,h4⟩
 ·rw [rd_app1 (by rw [h.l];omega)]
  exact h.t j (by omega)
theorem WI.next (h:WI L W F B i):WI L W F B (i + 1) :=
 ⟨h.nd,h.pos,h.lw,h.lf,h.lb,h.w0,h.f0,h.st,h.mon,fun j hj hi=>by
  have h1:=h.cap j hj (by omega)
  have h2:=h.mon i (i + 1) (by omega) hi
  omega⟩
theorem WI.grow (h:WI L W F B i) (hi:i < L.length) (hc:c = 84 ∨ c = 83) (hm:nxt c (atL L i) ∉ L):WI (L ++ [nxt c (atL L i)]) (W ++ [atW W i ++ strOfNums [c]]) (F ++ [(i:Int)]) (B ++ [c]) i:=by
 have lw:=h.lw
 have lf:=h.lf
 have lb:=h.lb
 have hsz:(atW W i ++ strOfNums [c]).size = (atW W i).size + 1:=by rw [ByteArray.size_append,str1]
 refine ⟨?_,by simp,by simp [lw],by simp [lf],by simp [lb],?_,?_,fun k h0 hk=>?_,fun j k hjk hk=>?_,fun j hj _=>?_⟩
 ·rw [List.nodup_append]
  exact ⟨h.nd,by simp,fun a ha b hb=>by
   obtain rfl:b = nxt c (atL L i):=by simpa using hb
   intro e
   subst e
   exact hm ha⟩
 ·rw [atW_app (by have:=h.pos;omega)];exact h.w0
 ·rw [rd_app1 (by have:=h.pos;omega)];exact h.f0
 ·have hk:k < L.length + 1:=by simpa using hk
  by_cases e:k = L.length
  ·refine ⟨i,by omega,?_,?_,?_,?_⟩
   ·exact rd_app2 F _ (by omega)
   ·rw [rd_app2 B _ (by omega)];exact hc
   ·rw [rd_app2 B _ (by omega),atW_app2 W _ (by omega),atW_app (by omega)]
   ·rw [rd_app2 B _ (by omega),atL_app2 L _ e,atL_app hi]
  ·obtain ⟨j,h1,h2,h3,h4,h5⟩:=h.st k h0 (by omega)
   refine ⟨j,h1,?_,?_,?_,?_⟩
   ·rw [rd_app1 (by omega)];exact h2
   ·rw [rd_app1 (by omega)];exact h3
   ·rw [rd_app1 (by omega),atW_app (by omega),atW_app (by omega)];exact h4
   ·rw [rd_app1 (by omega),atL_app (by omega),atL_app (by omega)];exact h5
 ·have hk:k < L.length + 1:=by simpa using hk
  by_cases e:k = L.length
  ·by_cases e2:j = L.length
   ·rw [e,e2]
    exact Nat.le_refl _
   ·rw [atW_app2 W _ (j:=k) (by omega),atW_app (by omega),hsz]
    exact h.cap j (by omega) hi
  ·rw [atW_app (by omega),atW_app (by omega)]
   exact h.mon j k hjk (by omega)
 ·have hj:j < L.length + 1:=by simpa using hj
  rw [atW_app (W:=W) (j:=i) (by omega)]
  by_cases e:j = L.length
  ·rw [atW_app2 W _ (j:=j) (by omega),hsz]
   exact Nat.le_refl _
  ·rw [atW_app (by omega)]
   exact h.cap j (by omega) hi
end
structure OI (s:PO) (i n m:Nat):Prop where
 w:WI s.L s.W s.F s.B i
 t:RI s.L s.W 84 s.T n
 u:RI s.L s.W 83 s.S m
theorem OI_84 {s s':PO} {i:Nat} (h:OI s i i i) (hi:i < s.L.length) (e:stepP i 84 s = some s'):OI s' i (i + 1) i∧s.L.length≤s'.L.length:=by
 unfold stepP at e
 split at e
 ·rename_i hm
  have e:=Option.some.inj e
  subst e
  have hx:=List.idxOf_lt_length_of_mem hm
  refine ⟨⟨h.w,?_,h.u⟩,Nat.le_refl _⟩
  show RI s.L s.W 84 (if (84:Int) = 84 then s.T ++ [((s.L.idxOf (nxt 84 (atL s.L i)):Nat):Int)] else s.T) (i + 1)
  rw [if_pos rfl]
  refine h.t.add hx ?_ (h.w.cap _ hx hi)
  rw [atL_get hx]
  exact List.getElem_idxOf hx
 ·rename_i hm
  split at e
  ·cases e
  ·have e:=Option.some.inj e
   subst e
   have lw:=h.w.lw
   refine ⟨⟨h.w.grow hi (.inl rfl) hm,?_,h.u.grow (by omega) lw _ _⟩,by simp⟩
   show RI (s.L ++ [nxt 84 (atL s.L i)]) (s.W ++ [atW s.W i ++ strOfNums [84]]) 84 (if (84:Int) = 84 then s.T ++ [(s.L.length:Int)] else s.T) (i + 1)
   rw [if_pos rfl]
   refine (h.t.grow (by omega) lw _ _).add (by simp) ?_ ?_
   ·rw [atL_app2 s.L _ rfl,atL_app hi]
   ·rw [atW_app2 s.W _ (by omega),atW_app (by omega),ByteArray.size_append,str1]
    exact Nat.le_refl _
theorem OI_83 {s s':PO} {i:Nat} (h:OI s i (i + 1) i) (hi:i < s.L.length) (e:stepP i 83 s = some s'):OI s' i (i + 1) (i + 1)∧s.L.length≤s'.L.length:=by
 have hne:¬ (83:Int) = 84:=by omega
 unfold stepP at e
 split at e
 ·rename_i hm
  have e:=Option.some.inj e
  subst e
  have hx:=List.idxOf_lt_length_of_mem hm
  refine ⟨⟨h.w,?_,?_⟩,Nat.le_refl _⟩
  ·show RI s.L s.W 84 (if (83:Int) = 84 then s.T ++ [((s.L.idxOf (nxt 83 (atL s.L i)):Nat):Int)] else s.T) (i + 1)
   rw [if_neg hne]
   exact h.t
  ·show RI s.L s.W 83 (if (83:Int) = 84 then s.S else s.S ++ [((s.L.idxOf (nxt 83 (atL s.L i)):Nat):Int)]) (i + 1)
   rw [if_neg hne]
   refine h.u.add hx ?_ (h.w.cap _ hx hi)
   rw [atL_get hx]
   exact List.getElem_idxOf hx
 ·rename_i hm
  split at e
  ·cases e
  ·have e:=Option.some.inj e
   subst e
   have lw:=h.w.lw
   refine ⟨⟨h.w.grow hi (.inr rfl) hm,?_,?_⟩,by simp⟩
   ·show RI (s.L ++ [nxt 83 (atL s.L i)]) (s.W ++ [atW s.W i ++ strOfNums [83]]) 84 (if (83:Int) = 84 then s.T ++ [(s.L.length:Int)] else s.T) (i + 1)
    rw [if_neg hne]
    exact h.t.grow (by omega) lw _ _
   ·show RI (s.L ++ [nxt 83 (atL s.L i)]) (s.W ++ [atW s.W i ++ strOfNums [83]]) 83 (if (83:Int) = 84 then s.S else s.S ++ [(s.L.length:Int)]) (i + 1)
    rw [if_neg hne]
    refine (h.u.grow (by omega) lw _ _).add (by simp) ?_ ?_
    ·rw [atL_app2 s.L _ rfl,atL_app hi]
    ·rw [atW_app2 s.W _ (by omega),atW_app (by omega),ByteArray.size_append,str1]
     exact Nat.le_refl _
theorem lp_OI:∀ (f i:Nat) (s s':PO),121≤f + i→s.L.length≤120→i≤s.L.length→OI s i i i→Good s→s.T.length≤i→s.S.length≤i→lpP f s i = some s'→OI s' s'.L.length s'.L.length s'.L.length:=by
 intro f
 induction f with
 | zero=>intro i s s' h1 h2 h3;omega
 | succ f ih =>
  intro i s s' hf hl hi hoi hg hT hS h
  rw [lpP] at h
  by_cases c:i < s.L.length
  ·rw [if_pos c] at h
   cases e:roundP i s with
   | none=>rw [e] at h;cases h
   | some s1 =>
    rw [e] at h
    obtain ⟨g1,i1,l1,t1,u1⟩:=round_good hg c hl hT hS e
    refine ih (i + 1) s1 s' (by omega) l1 (by omega) ?_ g1 t1 u1 h
    unfold roundP at e
    cases e84:stepP i 84 s with
    | none=>rw [e84] at e;cases e
    | some s0 =>
     rw [e84] at e
     have e83:stepP i 83 s0 = some s1:=e
     obtain ⟨h0,n0⟩:=OI_84 hoi c e84
     obtain ⟨h2,n2⟩:=OI_83 h0 (by omega) e83
     exact ⟨h2.w.next,h2.t,h2.u⟩
  ·rw [if_neg c] at h
   have h:=Option.some.inj h
   subst h
   have e:s.L.length = i:=by omega
   rw [e]
   exact hoi
theorem orbP_OI {a:List Nat × List Nat} (ha:Sf a.1 a.2) {s:PO} (h:orbP a = some s):OI s s.L.length s.L.length s.L.length :=
 lp_OI 121 0 (start0 a) s (by omega) (by simp [start0]) (Nat.zero_le _) ⟨⟨by simp [start0],by simp [start0],rfl,rfl,rfl,rfl,rfl,fun k h0 hk=>by
   have hk:k < 1:=hk
   omega,fun j k hjk hk=>by
   have hk:k < 1:=hk
   obtain rfl:k = 0:=by omega
   obtain rfl:j = 0:=by omega
   exact Nat.le_refl _,fun j hj _=>by
   have hj:j < 1:=hj
   obtain rfl:j = 0:=by omega
   omega⟩,⟨rfl,fun j hj=>by omega⟩,⟨rfl,fun j hj=>by omega⟩⟩ (start_good ha) (by simp [start0]) (by simp [start0]) h
theorem str_end {a b:ByteArray} {c d:Int} (hc:c = 84 ∨ c = 83) (hd:d = 84 ∨ d = 83) (h:a ++ strOfNums [c] = b ++ strOfNums [d]):a = b∧c = d:=by
 have h1:(a ++ strOfNums [c]).data.toList = (b ++ strOfNums [d]).data.toList:=by rw [h]
 rw [ByteArray.data_append,ByteArray.data_append,Array.toList_append,Array.toList_append] at h1
 have h2:=List.append_inj' h1 (by simp [strOfNums])
 refine ⟨?_,?_⟩
 ·cases a;cases b
  congr 1
  exact Array.toList_inj.mp h2.1
 ·have h3:=h2.2
  rcases hc with rfl | rfl <;> rcases hd with rfl | rfl
  ·rfl
  ·exact absurd h3 (by decide)
  ·exact absurd h3 (by decide)
  ·rfl
section
variable {L:List PS} {W:List ByteArray} {F B:List Int} {i:Nat}
theorem WI.pos_size (h:WI L W F B i) {k:Nat} (hk:k < L.length):(atW W k).size = 0 ↔ k = 0:=by
 constructor
 ·intro hz
  apply Classical.byContradiction
  intro hn
  obtain ⟨j,_,_,_,h4,_⟩:=h.st k (by omega) hk
  rw [h4,ByteArray.size_append,str1] at hz
  omega
 ·intro e;subst e;exact h.w0
theorem WI.inj (h:WI L W F B i):∀ k:Nat,∀ j:Nat,k < L.length→j < L.length→atW W j = atW W k→atL L j = atL L k:=by
 intro k
 induction k using Nat.strongRecOn with
 | _ k ih =>
  intro j hk hj e
  by_cases k0:k = 0
  ·have:(atW W j).size = 0:=by rw [e,k0];exact h.w0
   have:=(h.pos_size hj).mp this
   rw [this,k0]
  ·have j0:¬ j = 0:=fun e0=>by
    have:(atW W k).size = 0:=by rw [← e,e0];exact h.w0
    exact k0 ((h.pos_size hk).mp this)
   obtain ⟨k',a1,_,a3,a4,a5⟩:=h.st k (by omega) hk
   obtain ⟨j',b1,_,b3,b4,b5⟩:=h.st j (by omega) hj
   rw [a4,b4] at e
   obtain ⟨e1,e2⟩:=str_end b3 a3 e
   rw [a5,b5,e2,ih k' a1 j' (by omega) (by omega) e1]
theorem WI.same (h:WI L W F B i) {j k:Nat} (hk:k < L.length) (hj:j < L.length) (e:atW W j = atW W k):j = k:=by
 have h1:=h.inj k j hk hj e
 rw [atL_get hj,atL_get hk] at h1
 have hp:=List.pairwise_iff_getElem.mp h.nd
 rcases Nat.lt_trichotomy j k with hlt | rfl | hlt
 ·exact absurd h1 (hp j k hj hk hlt)
 ·rfl
 ·exact absurd h1.symm (hp k j hk hj hlt)
theorem WI.skip (h:WI L W F B i) {a k:Nat} (ha:a < L.length) (hk:k < L.length) {c:Int} (hc:c = 84 ∨ c = 83):(rd F (k:Int) = (a:Int)∧rd B (k:Int) = c) ↔ atW W a ++ strOfNums [c] = atW W k:=by
 constructor
 ·rintro ⟨h1,h2⟩
  have k0:0 < k:=by
   apply Nat.pos_of_ne_zero
   intro e
   subst e
   rw [h.f0] at h1
   omega
  obtain ⟨j,_,b2,_,b4,_⟩:=h.st k k0 hk
  have:j = a:=by omega
  rw [b4,this,h2]
 ·intro e
  have k0:0 < k:=by
   apply Nat.pos_of_ne_zero
   intro e0
   have h1:=h.w0
   rw [← e0,← e,ByteArray.size_append,str1] at h1
   omega
  obtain ⟨j,b1,b2,b3,b4,_⟩:=h.st k k0 hk
  rw [b4] at e
  obtain ⟨e1,e2⟩:=str_end hc b3 e
  have:a = j:=h.same (by omega) ha e1
  exact ⟨by omega,e2.symm⟩
end
theorem size_60 (s:ByteArray):s.data.toList.length = s.size:=Array.length_toList
theorem bt_60 (s:ByteArray) (j:Nat):bt s (j:Int) = (((s.data.toList)[j]?.getD 0).toNat:Int):=by
 unfold bt
 have e:((j:Int)).toNat = j:=by omega
 have hs:=size_60 s
 by_cases h:j < s.size
 ·rw [dif_pos (by rw [e];exact h)]
  have h':j < s.data.toList.length:=by rw [hs];exact h
  rw [List.getElem?_eq_getElem h',Option.getD_some]
  congr 1
 ·rw [dif_neg (by rw [e];exact h),List.getElem?_eq_none (by rw [hs];omega)]
  rfl
theorem bt_app60 (x y:ByteArray) (j:Nat):bt (x ++ y) (j:Int) = if j < x.size then bt x (j:Int) else bt y ((j - x.size:Nat):Int):=by
 rw [bt_60,bt_60,bt_60,ByteArray.data_append,Array.toList_append,List.getElem?_append,size_60]
 split <;> rfl
section
variable {L:List PS} {W:List ByteArray} {F B:List Int} {i:Nat}
theorem WI.letters (h:WI L W F B i):∀ k:Nat,k < L.length→∀ j:Nat,j < (atW W k).size→letB (bt (atW W k) (j:Int)) = true:=by
 intro k
 induction k using Nat.strongRecOn with
 | _ k ih =>
  intro hk j hj
  by_cases k0:k = 0
  ·have:(atW W k).size = 0:=by rw [k0];exact h.w0
   omega
  ·obtain ⟨k',a1,_,a3,a4,_⟩:=h.st k (by omega) hk
   rw [a4,ByteArray.size_append,str1] at hj
   rw [a4,bt_app60]
   by_cases hs:j < (atW W k').size
   ·rw [if_pos hs];exact ih k' a1 (by omega) j hs
   ·rw [if_neg hs]
    have e:j - (atW W k').size = 0:=by omega
    rw [e]
    rcases a3 with a3 | a3 <;> rw [a3] <;> rfl
theorem WI.ok (h:WI L W F B i) {k:Nat} (hk:k < L.length):wordB (atW W k) = decide ((atW W k).size≤40):=by
 unfold wordB
 by_cases hs:(atW W k).size≤40
 ·rw [decide_eq_true hs];exact decide_eq_true ⟨h.letters k hk,hs⟩
 ·rw [decide_eq_false hs];exact decide_eq_false (fun h2=>hs h2.2)
end
end Go.Proofs.Ytcggfjpnfodbaaa.M
end
section
/- The words of generators: the program and the reference agree. No conditions. -/
namespace Go.Proofs.Ytcggfjpnfodbaaa.M
set_option linter.unusedVariables false
set_option linter.unusedSimpArgs false
open Go.RowKit Go.Proofs.YtcggfjpnfodbaaaW.PrintWords Go.Proofs.YtcggfjpnfodbaaaW.PrintLast Go.Proofs.YtcggfjpnfodbaaaW.PrintMore Go.Proofs.Ytcggfjpnfodbaaa.A
theorem str_snoc (out:List Int) (x:Int):strOfNums (out ++ [x]) = strOfNums out ++ strOfNums [x]:=by
 apply ByteArray.ext
 rw [ByteArray.data_append]
 simp [strOfNums]
theorem str_len (out:List Int):(strOfNums out).size = out.length:=by
 show ((out.map fun n=>UInt8.ofNat n.toNat).toArray).size = _
 simp
theorem inv_both (w:ByteArray) (hw:w.size≤1000):∃ v:ByteArray,v.size≤1000∧Ev (fun k=>Z23.f k w) v∧Ev (fun k=>Z17.f k w) v:=by
 have h1:=spec_wordOk w
 have h2:=impl_wordOk w (by omega)
 by_cases c0:wordB w = true
 ·have hlet:=(of_decide_eq_true c0).1
  have H:∀ (d:Nat) (out:List Int),d≤w.size→out.length + d≤1000→∃ v:ByteArray,v.size≤1000∧Ev (fun k=>Z23.l0 k w (strOfNums out) ((d:Int) - 1)) v∧Ev (fun k=>Z17.l0 k w out ((d:Int) - 1)) v:=by
   intro d
   induction d with
   | zero =>
    intro out hd ho
    have c1:¬ (((0:Nat):Int) - 1 ≥ 0):=by omega
    refine ⟨strOfNums out,by rw [str_len];omega,ev_succ ?_,ev_succ ?_⟩
    ·simp only [Z23.l0,c1,if_false]
     exact Ev.now _
    ·simp only [Z17.l0,c1,if_false]
     exact Ev.now _
   | succ d ih =>
    intro out hd ho
    have e0:(((d + 1:Nat):Int) - 1) = (d:Int):=by omega
    have c1:(d:Int) ≥ 0:=by omega
    have c2:(0:Int)≤(d:Int):=by omega
    have c3:(d:Int) < (w.size:Int):=by omega
    have c4:out.length < 140737488355328:=by omega
    have c5:(strOfNums out).size + 1≤9223372036854775807:=by rw [str_len];omega
    have c6:wrap64 ((d:Int) - 1) = (d:Int) - 1:=w64 (by omega) (by omega)
    have hb:=of_decide_eq_true (hlet d (by omega))
    rw [e0]
    have go:∀ x:Int,Go.bits .xor .u8 (bt w (d:Int)) 32 = x→(∀ r,Ev (fun k=>Z23.l0 k w (strOfNums out ++ strOfNums [x]) ((d:Int) - 1)) r→Ev (fun k=>Z23.l0 k w (strOfNums out) (d:Int)) r)→∃ v:ByteArray,v.size≤1000∧Ev (fun k=>Z23.l0 k w (strOfNums out) (d:Int)) v∧Ev (fun k=>Z17.l0 k w out (d:Int)) v:=by
     intro x hx hsp
     obtain ⟨v,hv,k1,k2⟩:=ih (out ++ [x]) (by omega) (by simp;omega)
     rw [str_snoc] at k1
     refine ⟨v,hv,hsp v k1,ev_succ ?_⟩
     simp only [Z17.l0,c1,c2,c3,c4,c6,hx,if_true]
     exact k2
    rcases hb with hb | hb | hb | hb
    ·refine go 116 (by rw [hb];rfl) (fun r hr=>ev_succ ?_)
     simp only [Z23.l0,c1,c2,c3,c5,c6,hb,if_true]
     exact hr
    ·have n1:¬ (116:Int) = 84:=by omega
     refine go 84 (by rw [hb];rfl) (fun r hr=>ev_succ ?_)
     simp only [Z23.l0,c1,c2,c3,c5,c6,hb,n1,if_true,if_false]
     exact hr
    ·have n1:¬ (83:Int) = 84:=by omega
     have n2:¬ (83:Int) = 116:=by omega
     refine go 115 (by rw [hb];rfl) (fun r hr=>ev_succ ?_)
     simp only [Z23.l0,c1,c2,c3,c5,c6,hb,n1,n2,if_true,if_false]
     exact hr
    ·have n1:¬ (115:Int) = 84:=by omega
     have n2:¬ (115:Int) = 116:=by omega
     have n3:¬ (115:Int) = 83:=by omega
     refine go 83 (by rw [hb];rfl) (fun r hr=>ev_succ ?_)
     simp only [Z23.l0,c1,c2,c3,c5,c6,hb,n1,n2,n3,if_true,if_false]
     exact hr
  obtain ⟨v,hv,k1,k2⟩:=H w.size [] (Nat.le_refl _) (by simp;omega)
  have c6:wrap64 ((w.size:Int) - 1) = (w.size:Int) - 1:=w64 (by omega) (by omega)
  refine ⟨v,hv,?_,?_⟩
  ·unfold Z23.f
   refine Ev.bind h1 ?_
   simp only [c0,if_true,c6]
   exact k1
  ·unfold Z17.f
   refine Ev.bind h2 ?_
   simp only [c0,if_true,c6]
   exact k2
 ·have cf:wordB w = false:=by simpa using c0
  refine ⟨⟨#[]⟩,Nat.zero_le _,?_,?_⟩
  ·unfold Z23.f
   refine Ev.bind h1 ?_
   simp only [cf,Bool.false_eq_true,if_false]
   exact Ev.now _
  ·unfold Z17.f
   refine Ev.bind h2 ?_
   simp only [cf,Bool.false_eq_true,if_false]
   exact Ev.now _
theorem toL_loop61 (b:ByteArray):∀ (d i:Nat) (r:List UInt8),i + d = b.size→ByteArray.toList.loop b i r = r.reverse ++ b.data.toList.drop i:=by
 have hl:b.data.toList.length = b.size:=by rw [Array.length_toList];rfl
 intro d
 induction d with
 | zero =>
  intro i r h
  unfold ByteArray.toList.loop
  rw [if_neg (by omega),List.drop_of_length_le (by omega),List.append_nil]
 | succ d ih =>
  intro i r h
  have hi:i < b.data.toList.length:=by omega
  have hi2:i < b.data.size:=by rw [Array.length_toList] at hi;exact hi
  unfold ByteArray.toList.loop
  rw [if_pos (by omega),ih (i + 1) _ (by omega),List.drop_eq_getElem_cons hi,List.reverse_cons,List.append_assoc]
  have e:b.get! i = b.data.toList[i]:=by
   show b.data[i]! = _
   rw [Array.getElem_toList]
   exact getElem!_pos b.data i hi2
  rw [e]
  rfl
theorem toL_61 (b:ByteArray):b.toList = b.data.toList:=by
 show ByteArray.toList.loop b 0 [] = _
 rw [toL_loop61 b b.size 0 [] (Nat.zero_add _)]
 rfl
theorem toL_inj61 {a b:ByteArray}:a.toList = b.toList ↔ a = b:=by
 rw [toL_61,toL_61]
 constructor
 ·intro h
  exact ByteArray.ext (Array.toList_inj.mp h)
 ·intro h
  rw [h]
theorem fi_at {L:List PS} {W:List ByteArray} {F B:List Int} {i:Nat} (h:WI L W F B i) {m:Nat} (hm:m < L.length):fi L (atL L m) = (m:Int):=by
 unfold fi
 have hmem:=atL_mem hm
 rw [if_pos hmem]
 have hx:=List.idxOf_lt_length_of_mem hmem
 have e:L[L.idxOf (atL L m)] = L[m]:=by rw [List.getElem_idxOf hx,atL_get hm]
 have hp:=List.pairwise_iff_getElem.mp h.nd
 rcases Nat.lt_trichotomy (L.idxOf (atL L m)) m with hlt | e2 | hlt
 ·exact absurd e (hp _ m hx hm hlt)
 ·rw [e2]
 ·exact absurd e.symm (hp m _ hm hx hlt)
def rowP (s:PO) (c:Int):List Int:=if c = 84 then s.T else s.S
theorem row_RI {s:PO} {n:Nat} (ho:OI s n n n) {c:Int} (hc:c = 84 ∨ c = 83):RI s.L s.W c (rowP s c) n:=by
 unfold rowP
 rcases hc with rfl | rfl
 ·rw [if_pos rfl];exact ho.t
 ·rw [if_neg (by omega)];exact ho.u
theorem gen_step {s:PO} (hg:Good s) (ho:OI s s.L.length s.L.length s.L.length) (hl:s.L.length≤120) {i:Nat} (hi:i < s.L.length) {j:Nat} {c:Int} (hj:j < 2) (hc:rd [84,83] (j:Int) = c) (h84:c = 84 ∨ c = 83) (out:List ByteArray) (hout:out.length≤1000) (hsz:∀ x ∈ out,x.size≤40) :
  (∃ out':List ByteArray,out'.length≤out.length + 1∧(∀ x ∈ out',x.size≤40)∧∀ res:List ByteArray × Bool,
   Ev (fun k=>Z7.l1 k (s.L.map oS) s.W out' (i:Int) (s.L.map oS) (s.L.length:Int) (i:Int) [84,83] 2 ((j + 1:Nat):Int) (I (atL s.L i).1) (I (atL s.L i).2)) res →
   Ev (fun k=>Z5.l1 k out' (i:Int) s.orb (s.L.length:Int) (i:Int) [84,83] 2 ((j + 1:Nat):Int)) res →
   Ev (fun k=>Z7.l1 k (s.L.map oS) s.W out (i:Int) (s.L.map oS) (s.L.length:Int) (i:Int) [84,83] 2 (j:Int) (I (atL s.L i).1) (I (atL s.L i).2)) res ∧
   Ev (fun k=>Z5.l1 k out (i:Int) s.orb (s.L.length:Int) (i:Int) [84,83] 2 (j:Int)) res) ∨
  (Ev (fun k=>Z7.l1 k (s.L.map oS) s.W out (i:Int) (s.L.map oS) (s.L.length:Int) (i:Int) [84,83] 2 (j:Int) (I (atL s.L i).1) (I (atL s.L i).2)) ([],false) ∧
   Ev (fun k=>Z5.l1 k out (i:Int) s.orb (s.L.length:Int) (i:Int) [84,83] 2 (j:Int)) ([],false)):=by
 have hs:=hg.sf _ (atL_mem hi)
 have e1:=spec_letter hs c
 have e2:=spec_canon (sf_lt hs c).1
 have e3:=ofind_ev hg.sf (by omega) (nxt c (atL s.L i))
 obtain ⟨m,m1,m2,m3,m4⟩:=(row_RI ho h84).t i hi
 have e3f:fi s.L (nxt c (atL s.L i)) = (m:Int):=by rw [← m3];exact fi_at ho.w m1
 rw [e3f] at e3
 have hR:=(row_RI ho h84).l
 have lw:=ho.w.lw
 have lf:=ho.w.lf
 have lb:=ho.w.lb
 have wi:=hg.ws i hi
 have wm:=hg.ws m m1
 obtain ⟨v,hv,v1,v2⟩:=inv_both (atW s.W m) (by omega)
 have o1:=impl_wordOk (atW s.W m) (by omega)
 have o2:=impl_wordOk (atW s.W i) (by omega)
 have hws:(atW s.W i ++ strOfNums [c] ++ v).size = (atW s.W i).size + 1 + v.size:=by rw [ByteArray.size_append,ByteArray.size_append,str1]
 have o3:=impl_wordOk (atW s.W i ++ strOfNums [c] ++ v) (by omega)
 have o4:=spec_wordOk (atW s.W i ++ strOfNums [c] ++ v)
 rw [ho.w.ok m1] at o1
 rw [ho.w.ok hi] at o2
 have c1:(j:Int) < 2:=by omega
 have c2:(0:Int)≤(j:Int):=by omega
 have c3:=w64s j (by omega)
 have c4:(j:Int) < (([84,83]:List Int).length:Int):=by show (j:Int) < ((2:Nat):Int);omega
 have c5:(0:Int)≤(i:Int):=by omega
 have c6:(i:Int) < (s.W.length:Int):=by omega
 have c7:(0:Int)≤(m:Int):=by omega
 have c8:(m:Int) < (s.W.length:Int):=by omega
 have c9:(atW s.W i).size + (strOfNums [c]).size≤9223372036854775807:=by rw [str1];omega
 have c10:(atW s.W i ++ strOfNums [c]).size + v.size≤9223372036854775807:=by rw [ByteArray.size_append,str1];omega
 have c11:out.length < 8796093022208:=by omega
 have a1:rdOf ByteArray.empty s.W (i:Int) = atW s.W i:=rfl
 have a2:rdOf ByteArray.empty s.W (m:Int) = atW s.W m:=rfl
 have hnx:Z5.nx s.orb (i:Int) c = (m:Int):=m2
 have hrow:Z5.row s.orb c = rowP s c:=rfl
 have hok:Z5.okk s.orb (i:Int) c = true:=by
  unfold Z5.okk
  rw [hnx,hrow,hR]
  exact decide_eq_true ⟨c5,by omega,c7,by show (m:Int) < (s.F.length:Int);omega,by show (m:Int) < (s.B.length:Int);omega⟩
 have hW:s.orb.W = s.W:=rfl
 have hsk:Z5.skp s.orb (i:Int) c = decide (atW s.W i ++ strOfNums [c] = atW s.W m):=by
  unfold Z5.skp
  rw [hnx]
  have hF:s.orb.F = s.F:=rfl
  have hB:s.orb.B = s.B:=rfl
  rw [hF,hB]
  have key:=ho.w.skip hi m1 h84
  by_cases q:atW s.W i ++ strOfNums [c] = atW s.W m
  ·rw [decide_eq_true q]
   obtain ⟨q1,q2⟩:=key.mpr q
   rw [q1,q2]
   simp
  ·rw [decide_eq_false q]
   rw [Bool.and_eq_false_iff]
   by_cases q1:rd s.F (m:Int) = (i:Int)
   ·right
    exact beq_eq_false_iff_ne.mpr (fun q2=>q (key.mp ⟨q1,q2⟩))
   ·left
    exact beq_eq_false_iff_ne.mpr q1
 have hL2:((s.L.map oS).length:Int) = (s.L.length:Int):=by rw [List.length_map]
 by_cases q:atW s.W i ++ strOfNums [c] = atW s.W m
 ·left
  refine ⟨out,by omega,hsz,fun res r1 r2=>⟨ev_succ ?_,ev_succ ?_⟩⟩
  ·have q':(atW s.W i ++ strOfNums [c]).toList = (atW s.W m).toList:=by rw [q]
   simp only [Z7.l1,c1,c2,c3,c4,hc,if_true]
   refine Ev.bind e1 (Ev.bind e2 (Ev.bind e3 ?_))
   simp only [Option.bind_some,c5,c6,c7,c8,a1,a2,c9,q',if_true]
   exact r1
  ·simp only [Z5.l1,c1,c2,c3,c4,hc,hok,hsk,q,decide_true,and_self,if_true]
   exact r2
 ·have q':¬ (atW s.W i ++ strOfNums [c]).toList = (atW s.W m).toList:=fun h=>q (toL_inj61.mp h)
  have hsk':Z5.skp s.orb (i:Int) c = false:=by rw [hsk];exact decide_eq_false q
  have spec_:∀ res:List ByteArray × Bool,Ev (fun k=>if wordB (atW s.W i ++ strOfNums [c] ++ v) = true then Z7.l1 k (s.L.map oS) s.W (out ++ [atW s.W i ++ strOfNums [c] ++ v]) (i:Int) (s.L.map oS) (s.L.length:Int) (i:Int) [84,83] 2 ((j + 1:Nat):Int) (I (atL s.L i).1) (I (atL s.L i).2) else some (([]:List ByteArray),false)) res →
    Ev (fun k=>Z7.l1 k (s.L.map oS) s.W out (i:Int) (s.L.map oS) (s.L.length:Int) (i:Int) [84,83] 2 (j:Int) (I (atL s.L i).1) (I (atL s.L i).2)) res:=by
   intro res hr
   refine ev_succ ?_
   simp only [Z7.l1,c1,c2,c3,c4,hc,if_true]
   refine Ev.bind e1 (Ev.bind e2 (Ev.bind e3 ?_))
   simp only [Option.bind_some,c5,c6,c7,c8,a1,a2,c9,q',if_true,if_false]
   refine Ev.bind v1 ?_
   simp only [c10,if_true]
   refine Ev.bind o4 ?_
   simp only [c11,if_true]
   exact hr
  by_cases z:wordB (atW s.W i ++ strOfNums [c] ++ v) = true
  ·have z40:=(of_decide_eq_true z).2
   have d1:decide ((atW s.W m).size≤40) = true:=decide_eq_true (by omega)
   have d2:decide ((atW s.W i).size≤40) = true:=decide_eq_true (by omega)
   left
   refine ⟨out ++ [atW s.W i ++ strOfNums [c] ++ v],by simp,fun x hx=>?_,fun res r1 r2=>⟨spec_ res ?_,ev_succ ?_⟩⟩
   ·rcases List.mem_append.mp hx with hx | hx
    ·exact hsz x hx
    ·obtain rfl:x = atW s.W i ++ strOfNums [c] ++ v:=by simpa using hx
     exact z40
   ·simp only [z,if_true]
    exact r1
   ·simp only [Z5.l1,c1,c2,c3,c4,hc,hok,hsk',hnx,hW,and_self,if_true,if_false,Bool.false_eq_true,Option.bind_some,c5,c6,c7,c8,a1,a2,c9]
    refine Ev.bind v2 ?_
    simp only [c10,if_true]
    refine Ev.bind o1 ?_
    simp only [d1,if_true]
    refine Ev.bind o2 ?_
    simp only [d2,if_true]
    refine Ev.bind o3 ?_
    simp only [z,c11,if_true]
    exact r2
  ·have zf:wordB (atW s.W i ++ strOfNums [c] ++ v) = false:=by simpa using z
   right
   refine ⟨spec_ _ ?_,ev_succ ?_⟩
   ·simp only [zf,Bool.false_eq_true,if_false]
    exact Ev.now _
   ·simp only [Z5.l1,c1,c2,c3,c4,hc,hok,hsk',hnx,hW,and_self,if_true,if_false,Bool.false_eq_true,Option.bind_some,c5,c6,c7,c8,a1,a2,c9]
    refine Ev.bind v2 ?_
    simp only [c10,if_true]
    refine Ev.bind o1 ?_
    by_cases d1:(atW s.W m).size≤40
    ·simp only [decide_eq_true d1,if_true]
     refine Ev.bind o2 ?_
     by_cases d2:(atW s.W i).size≤40
     ·simp only [decide_eq_true d2,if_true]
      refine Ev.bind o3 ?_
      simp only [zf,Bool.false_eq_true,if_false]
      exact Ev.now _
     ·simp only [decide_eq_false d2,Bool.false_eq_true,if_false]
      exact Ev.now _
    ·simp only [decide_eq_false d1,Bool.false_eq_true,if_false]
     exact Ev.now _
theorem gen_loop {s:PO} (hg:Good s) (ho:OI s s.L.length s.L.length s.L.length) (hl:s.L.length≤120):∀ d i:Nat,i + d = s.L.length→∀ out:List ByteArray,out.length≤2 * i→(∀ x ∈ out,x.size≤40)→∃ res:List ByteArray × Bool,res.1.length≤240∧(∀ x ∈ res.1,x.size≤40) ∧
  Ev (fun k=>Z7.l0 k (s.L.map oS) s.W out (s.L.map oS) (s.L.length:Int) (i:Int)) res∧Ev (fun k=>Z5.l0 k out s.orb (s.L.length:Int) (i:Int)) res:=by
 intro d
 induction d with
 | zero =>
  intro i hi out hout hsz
  obtain rfl:i = s.L.length:=by omega
  have c1:¬ ((s.L.length:Int) < (s.L.length:Int)):=by omega
  refine ⟨(out,true),by show out.length≤240;omega,hsz,ev_succ ?_,ev_succ ?_⟩
  ·simp only [Z7.l0,c1,if_false]
   exact Ev.now _
  ·simp only [Z5.l0,c1,if_false]
   exact Ev.now _
 | succ d ih =>
  intro i hi out hout hsz
  have hil:i < s.L.length:=by omega
  have c1:(i:Int) < (s.L.length:Int):=by omega
  have c2:(0:Int)≤(i:Int):=by omega
  have c3:=w64s i (by omega)
  have c4:(i:Int) < ((s.L.map oS).length:Int):=by rw [List.length_map];omega
  have top:∀ res:List ByteArray × Bool,Ev (fun k=>Z7.l1 k (s.L.map oS) s.W out (i:Int) (s.L.map oS) (s.L.length:Int) (i:Int) [84,83] 2 ((0:Nat):Int) (I (atL s.L i).1) (I (atL s.L i).2)) res →
    Ev (fun k=>Z5.l1 k out (i:Int) s.orb (s.L.length:Int) (i:Int) [84,83] 2 ((0:Nat):Int)) res →
    Ev (fun k=>Z7.l0 k (s.L.map oS) s.W out (s.L.map oS) (s.L.length:Int) (i:Int)) res∧Ev (fun k=>Z5.l0 k out s.orb (s.L.length:Int) (i:Int)) res:=by
   intro res r1 r2
   refine ⟨ev_succ ?_,ev_succ ?_⟩
   ·simp only [Z7.l0,c1,c2,c4,if_true,Option.bind_some,rd_oS hil]
    exact r1
   ·simp only [Z5.l0,c1,if_true,Option.bind_some]
    exact r2
  rcases gen_step hg ho hl hil (j:=0) (c:=84) (by omega) rfl (.inl rfl) out (by omega) hsz with ⟨o1,l1,z1,s1⟩ | ⟨f1,f2⟩
  ·rcases gen_step hg ho hl hil (j:=1) (c:=83) (by omega) rfl (.inr rfl) o1 (by omega) z1 with ⟨o2,l2,z2,s2⟩ | ⟨f1,f2⟩
   ·obtain ⟨res,k1,k2,k3,k4⟩:=ih (i + 1) (by omega) o2 (by omega) z2
    have c9:¬ ((((1 + 1:Nat):Int)) < 2):=by omega
    obtain ⟨t1,t2⟩:=s2 res (ev_succ (by simp only [Z7.l1,c9,if_false,c3];exact k3)) (ev_succ (by simp only [Z5.l1,c9,if_false,c3];exact k4))
    obtain ⟨u1,u2⟩:=s1 res t1 t2
    obtain ⟨w1,w2⟩:=top res u1 u2
    exact ⟨res,k1,k2,w1,w2⟩
   ·obtain ⟨u1,u2⟩:=s1 _ f1 f2
    obtain ⟨w1,w2⟩:=top _ u1 u2
    exact ⟨([],false),by simp,by simp,w1,w2⟩
  ·obtain ⟨w1,w2⟩:=top _ f1 f2
   exact ⟨([],false),by simp,by simp,w1,w2⟩
theorem gen_both (r u:List Int):∃ res:List ByteArray × Bool,res.1.length≤240∧(∀ x ∈ res.1,x.size≤40)∧Ev (fun k=>Z7.f k r u) res∧Ev (fun k=>Z5.f k r u) res:=by
 have hi:=orbR_ev r u
 have h0:=spec_surf r u
 by_cases h:surfB r u = true
 ·obtain ⟨r',u',rfl,rfl,hs⟩:=surf_nat h
  have k2:=(orb_both (a:=(r',u')) hs).2
  rw [orbR_I (a:=(r',u')) hs] at hi
  cases e:orbP (r',u') with
  | none =>
   rw [e] at hi k2
   refine ⟨([],false),by simp,by simp,?_,?_⟩
   ·unfold Z7.f
    refine Ev.bind h0 ?_
    simp only [h,if_true]
    refine Ev.bind k2 ?_
    simp only [specR,Bool.false_eq_true,if_false]
    exact Ev.now _
   ·unfold Z5.f
    exact Ev.bind hi (Ev.now _)
  | some s =>
   obtain ⟨hg,hl⟩:=orbP_good (a:=(r',u')) hs e
   have ho:=orbP_OI (a:=(r',u')) hs e
   rw [e] at hi k2
   obtain ⟨res,a1,a2,a3,a4⟩:=gen_loop hg ho hl s.L.length 0 (Nat.zero_add _) [] (by simp) (by simp)
   refine ⟨res,a1,a2,?_,?_⟩
   ·unfold Z7.f
    refine Ev.bind h0 ?_
    simp only [h,if_true]
    refine Ev.bind k2 ?_
    simp only [specR,if_true,List.length_map]
    exact a3
   ·unfold Z5.f
    refine Ev.bind hi ?_
    have el:s.orb.L.length = s.L.length:=List.length_map _
    simp only [Option.map_some,el]
    exact a4
 ·have e:orbR r u = none:=if_neg h
  rw [e] at hi
  have hf:surfB r u = false:=by simpa using h
  refine ⟨([],false),by simp,by simp,?_,?_⟩
  ·unfold Z7.f
   refine Ev.bind h0 ?_
   simp only [hf,Bool.false_eq_true,if_false]
   exact Ev.now _
  ·unfold Z5.f
   exact Ev.bind hi (Ev.now _)
end Go.Proofs.Ytcggfjpnfodbaaa.M
end
section
/- Lists of strings: marks. No conditions. -/
namespace Go.Proofs.Ytcggfjpnfodbaaa.M
set_option linter.unusedVariables false
set_option linter.unusedSimpArgs false
open Go.RowKit Go.Proofs.YtcggfjpnfodbaaaW.PrintWords Go.Proofs.YtcggfjpnfodbaaaW.PrintLast Go.Proofs.YtcggfjpnfodbaaaW.PrintMore Go.Proofs.Ytcggfjpnfodbaaa.A
theorem markText_ev (n:Nat) (hn:n≤1000000):∃ t:ByteArray,Ev (fun k=>Z48.f k (n:Int)) t:=by
 have H:∀ (m:Nat) (t:ByteArray),m≤1000000→t.size + m≤2000000→∃ r:ByteArray,Ev (fun k=>Z48.l0 k (m:Int) t) r:=by
  intro m
  induction m using Nat.strongRecOn with
  | _ m ih =>
   intro t hm ht
   by_cases h0:(m:Int) > 0
   ·have e1:Int.tdiv (m:Int) 10 = ((m / 10:Nat):Int):=by
     rw [Int.tdiv_eq_ediv_of_nonneg (by omega)]
     omega
    have e2:wrap64 (Int.tdiv (m:Int) 10) = ((m / 10:Nat):Int):=by rw [e1];exact w64 (by omega) (by omega)
    generalize hx:(wrap64 (48 + (Int.tmod (m:Int) 10))) % 256 = x
    have s1:(strOfNums [x]).size = 1:=by simp [strOfNums,ByteArray.size]
    have c1:(strOfNums [x]).size + t.size≤9223372036854775807:=by rw [s1];omega
    obtain ⟨r,hr⟩:=ih (m / 10) (by omega) (strOfNums [x] ++ t) (by omega) (by rw [ByteArray.size_append,s1];omega)
    refine ⟨r,ev_succ ?_⟩
    simp only [Z48.l0,h0,hx,c1,e2,Option.bind_some,if_true]
    exact hr
   ·have c1:1 + t.size≤9223372036854775807:=by omega
    refine ⟨(⟨#[109]⟩:ByteArray) ++ t,ev_succ ?_⟩
    simp only [Z48.l0,h0,c1,if_true,if_false]
    exact Ev.now _
 unfold Z48.f
 by_cases h:(n:Int)≤0
 ·simp only [h,if_true]
  exact ⟨_,Ev.now _⟩
 ·simp only [h,if_false]
  exact H n ⟨#[]⟩ hn (by show 0 + n≤2000000;omega)
theorem markT:∃ T:Nat→ByteArray,∀ n:Nat,n≤1000000→Ev (fun k=>Z48.f k (n:Int)) (T n):=by
 refine ⟨fun n=>if h:n≤1000000 then Classical.choose (markText_ev n h) else ⟨#[]⟩,fun n h=>?_⟩
 show Ev (fun k=>Z48.f k (n:Int)) (if h:n≤1000000 then Classical.choose (markText_ev n h) else ⟨#[]⟩)
 rw [dif_pos h]
 exact Classical.choose_spec (markText_ev n h)
theorem set_62 {α:Type} (A:List α) (x t:α) (B:List α):(A ++ x :: B).set A.length t = A ++ t :: B:=by
 rw [List.set_append_right _ _ (Nat.le_refl _),Nat.sub_self]
 rfl
theorem eqStrS_same (l:List ByteArray) (hl:l.length≤1000000):Ev (fun k=>Z33.f k l l) true:=by
 have H:∀ d i:Nat,i + d = l.length→Ev (fun k=>Z33.l0 k l l (i:Int)) true:=by
  intro d
  induction d with
  | zero =>
   intro i hi
   have c1:¬ (i:Int) < (l.length:Int):=by omega
   refine ev_succ ?_
   simp only [Z33.l0,c1,if_false]
   exact Ev.now _
  | succ d ih =>
   intro i hi
   have c1:(i:Int) < (l.length:Int):=by omega
   have c2:(0:Int)≤(i:Int):=by omega
   have c3:=w64s i (by omega)
   refine ev_succ ?_
   simp only [Z33.l0,c1,c2,c3,if_true]
   exact ih (i + 1) (by omega)
 unfold Z33.f
 simp only [if_true]
 exact H l.length 0 (Nat.zero_add _)
theorem markStr_both (l:List ByteArray) (hl:l.length≤1000):∃ z:List ByteArray,Ev (fun k=>Z21.f k l 1) (((1 + l.length:Nat):Int),z)∧Ev (fun k=>Z20.f k z 1) ((1 + l.length:Nat):Int):=by
 obtain ⟨T,hT⟩:=markT
 have H:∀ d i:Nat,i + d = l.length→Ev (fun k=>Z21.l0 k ((List.range i).map (fun j=>T (1 + j)) ++ l.drop i) ((1 + i:Nat):Int) (i:Int)) (((1 + l.length:Nat):Int),(List.range l.length).map (fun j=>T (1 + j))):=by
  intro d
  induction d with
  | zero =>
   intro i hi
   obtain rfl:i = l.length:=by omega
   have e:(List.range l.length).map (fun j=>T (1 + j)) ++ l.drop l.length = (List.range l.length).map (fun j=>T (1 + j)):=by rw [List.drop_length,List.append_nil]
   rw [e]
   have c1:¬ (l.length:Int) < (((List.range l.length).map (fun j=>T (1 + j))).length:Int):=by rw [List.length_map,List.length_range];omega
   refine ev_succ ?_
   simp only [Z21.l0,c1,if_false]
   exact Ev.now _
  | succ d ih =>
   intro i hi
   have key:=ih (i + 1) (by omega)
   have hil:i < l.length:=by omega
   have c0:((List.range i).map (fun j=>T (1 + j)) ++ l.drop i).length = l.length:=by rw [List.length_append,List.length_map,List.length_range,List.length_drop];omega
   have c1:(i:Int) < (((List.range i).map (fun j=>T (1 + j)) ++ l.drop i).length:Int):=by rw [c0];omega
   have c2:(0:Int)≤(i:Int):=by omega
   have c3:=w64s i (by omega)
   have c4:wrap64 (((1 + i:Nat):Int) + 1) = ((1 + (i + 1):Nat):Int):=w64s (1 + i) (by omega)
   have e5:((List.range i).map (fun j=>T (1 + j)) ++ l.drop i).set i (T (1 + i)) = (List.range (i + 1)).map (fun j=>T (1 + j)) ++ l.drop (i + 1):=by
    have hA:((List.range i).map (fun j=>T (1 + j))).length = i:=by rw [List.length_map,List.length_range]
    rw [List.drop_eq_getElem_cons hil]
    have h1:=set_62 ((List.range i).map (fun j=>T (1 + j))) l[i] (T (1 + i)) (l.drop (i + 1))
    rw [hA] at h1
    rw [h1,List.range_succ,List.map_append,List.append_assoc]
    rfl
   refine ev_succ ?_
   simp only [Z21.l0,c1,if_true]
   refine Ev.bind (hT (1 + i) (by omega)) ?_
   simp only [c2,c3,c4,if_true,Int.toNat_natCast,e5]
   exact key
 have H2:∀ d i:Nat,i + d = l.length→Ev (fun k=>Z20.l0 k ((List.range l.length).map (fun j=>T (1 + j))) ((1 + i:Nat):Int) (i:Int)) ((1 + l.length:Nat):Int):=by
  intro d
  induction d with
  | zero =>
   intro i hi
   obtain rfl:i = l.length:=by omega
   have c1:¬ (l.length:Int) < (((List.range l.length).map (fun j=>T (1 + j))).length:Int):=by rw [List.length_map,List.length_range];omega
   refine ev_succ ?_
   simp only [Z20.l0,c1,if_false]
   exact Ev.now _
  | succ d ih =>
   intro i hi
   have key:=ih (i + 1) (by omega)
   have c1:(i:Int) < (((List.range l.length).map (fun j=>T (1 + j))).length:Int):=by rw [List.length_map,List.length_range];omega
   have c2:(0:Int)≤(i:Int):=by omega
   have c3:=w64s i (by omega)
   have c4:wrap64 (((1 + i:Nat):Int) + 1) = ((1 + (i + 1):Nat):Int):=w64s (1 + i) (by omega)
   have e5:rdOf ByteArray.empty ((List.range l.length).map (fun j=>T (1 + j))) (i:Int) = T (1 + i):=by
    unfold rdOf
    rw [Int.toNat_natCast,List.getD_eq_getElem?_getD,List.getElem?_map,List.getElem?_range (by omega)]
    rfl
   refine ev_succ ?_
   simp only [Z20.l0,c1,c2,e5,if_true]
   refine Ev.bind (hT (1 + i) (by omega)) ?_
   simp only [c3,c4,if_true]
   exact key
 exact ⟨_,H l.length 0 (Nat.zero_add _),H2 l.length 0 (Nat.zero_add _)⟩
end Go.Proofs.Ytcggfjpnfodbaaa.M
end
section
/- The law of the words of generators answers true. No conditions. -/
namespace Go.Proofs.Ytcggfjpnfodbaaa.Pure
set_option linter.unusedVariables false
set_option linter.unusedSimpArgs false
open Go.RowKit Go.Proofs.YtcggfjpnfodbaaaW.PrintWords Go.Proofs.YtcggfjpnfodbaaaW.PrintLast Go.Proofs.YtcggfjpnfodbaaaW.PrintMore Go.Proofs.Ytcggfjpnfodbaaa.A Go.Proofs.Ytcggfjpnfodbaaa.M
theorem FnExactGeneratorWords (r u:List Int) (hr:r.length≤maxLen) (_:∀ x ∈ r,(Lit.int .i64 x).wf = true) (hu:u.length≤maxLen) (_:∀ x ∈ u,(Lit.int .i64 x).wf = true):∃ k,Z0.F k r u:=by
 unfold maxLen at hr hu
 unfold Z0.F
 by_cases h2:r.length + u.length≤1048576
 ·obtain ⟨⟨l,b⟩,h3,h4,⟨K1,e1⟩,⟨K2,e2⟩⟩:=gen_both r u
  have h3':l.length≤240:=h3
  obtain ⟨K3,e3⟩:=toSurf_ev r u (by omega) (by omega)
  obtain ⟨K4,e4⟩:=eqSurf_same r u (by omega) (by omega)
  obtain ⟨K5,e5⟩:=eqStrS_same l (by omega)
  obtain ⟨K6,e6⟩:=markSurf_ev r u h2
  obtain ⟨z,⟨K7,e7⟩,⟨K8,e8⟩⟩:=markStr_both l (by omega)
  exact ⟨K1 + K2 + K3 + K4 + K5 + K6 + K7 + K8,_,sz_small h2,.inr ⟨by omega,l,b,_,_,_,_,z,e3 _ (by omega),e4 _ (by omega),e1 _ (by omega),e2 _ (by omega),e5 _ (by omega),e6 _ (by omega),decide_eq_false (by omega),e7 _ (by omega),e8 _ (by omega),decide_eq_false (by omega)⟩⟩
 ·exact ⟨0,_,sz_big (by omega) (by omega) h2,.inl (by omega)⟩
end Go.Proofs.Ytcggfjpnfodbaaa.Pure
end
