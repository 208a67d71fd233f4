/- Lemmas for the row FnOrbits: the program's functions told as plain functions, and plain mathematics. No conditions. -/
import Derived.Shelf.SlSortCmp.NoneTotal
import Derived.Test.YtcggfjpnfodbaaaQFnOrbits5
section
/- The orbit's size: the program and the reference agree. No conditions. -/
namespace Go.Proofs.Ytcggfjpnfodbaaa.M
set_option linter.unusedSimpArgs false
open Go.RowKit Go.Proofs.YtcggfjpnfodbaaaW.PrintWords Go.Proofs.YtcggfjpnfodbaaaW.PrintLast Go.Proofs.YtcggfjpnfodbaaaW.PrintMore Go.Proofs.Ytcggfjpnfodbaaa.A
def orbR (r u:List Int):Option PO:=if surfB r u = true then orbP (N r,N u) else none
theorem N_I' (l:List Nat):N (I l) = l:=N_I l
theorem orbR_I {a:List Nat × List Nat} (ha:Sf a.1 a.2):orbR (I a.1) (I a.2) = orbP a:=by
 unfold orbR
 rw [if_pos (surfB_I.mpr ha),N_I',N_I']
theorem orbR_ev (r u:List Int):Ev (fun k=>orbitO k r u) ((orbR r u).map PO.orb):=by
 by_cases h:surfB r u = true
 ·obtain ⟨r',u',rfl,rfl,hs⟩:=surf_nat h
  rw [orbR_I (a:=(r',u')) hs]
  exact (orb_both (a:=(r',u')) hs).1
 ·have e:orbR r u = none:=if_neg h
  rw [e]
  exact orbO_no h
def outL:Option PO→List S25 × Bool
 | none=>([],false)
 | some s=>(s.L.map oS,true)
def idxR:Option PO→Int
 | none=>-1
 | some s=>(s.L.length:Int)
theorem implIdx_ev (r u:List Int):Ev (fun k=>Z51.f k r u) (idxR (orbR r u)):=by
 unfold Z51.f
 refine Ev.bind (orbR_ev r u) ?_
 cases orbR r u with
 | none=>exact Ev.now _
 | some s =>
  have e:s.orb.L.length = s.L.length:=List.length_map _
  simp only [Option.map_some,e]
  exact Ev.now _
end Go.Proofs.Ytcggfjpnfodbaaa.M
end
section
/- Is a surface in the orbit: the program and the reference agree. No conditions. -/
namespace Go.Proofs.Ytcggfjpnfodbaaa.M
set_option linter.unusedSimpArgs false
open Go.RowKit Go.Proofs.YtcggfjpnfodbaaaW.PrintWords Go.Proofs.YtcggfjpnfodbaaaW.PrintLast Go.Proofs.YtcggfjpnfodbaaaW.PrintMore Go.Proofs.Ytcggfjpnfodbaaa.A
theorem round_good {s s':PO} {i:Nat} (hg:Good s) (hi:i < s.L.length) (hl:s.L.length≤120) (hT:s.T.length≤i) (hS:s.S.length≤i) (h:roundP i s = some s'):Good s'∧i < s'.L.length∧s'.L.length≤120∧s'.T.length≤i + 1∧s'.S.length≤i + 1:=by
 unfold roundP at h
 cases h84:stepP i 84 s with
 | none=>rw [h84] at h;cases h
 | some s1 =>
  rw [h84] at h
  have h83:stepP i 83 s1 = some s':=h
  obtain ⟨g1,i1,t1,ss1,l1⟩:=step_good hg hi (by omega) (by omega) h84
  obtain ⟨g2,i2,t2,ss2,l2⟩:=step_good g1 i1 (by omega) (by omega) h83
  have a1:s1.S.length = s.S.length:=by
   unfold stepP at h84
   split at h84
   ·have h:=Option.some.inj h84;subst h;rfl
   ·split at h84
    ·cases h84
    ·have h:=Option.some.inj h84;subst h;rfl
  have a2:s'.T.length = s1.T.length:=by
   unfold stepP at h83
   split at h83
   ·have h:=Option.some.inj h83;subst h;rfl
   ·split at h83
    ·cases h83
    ·have h:=Option.some.inj h83;subst h;rfl
  exact ⟨g2,i2,l2 (l1 hl),by omega,by omega⟩
theorem lp_good:∀ (f i:Nat) (s s':PO),Good s→i≤s.L.length→s.L.length≤120→s.T.length≤i→s.S.length≤i→lpP f s i = some s'→Good s'∧s'.L.length≤120:=by
 intro f
 induction f with
 | zero=>intro i s s' hg _ hl _ _ h;have h:=Option.some.inj h;subst h;exact ⟨hg,hl⟩
 | succ f ih =>
  intro i s s' hg hi hl hT hS h
  rw [lpP] at h
  by_cases c:i < s.L.length
  ·rw [if_pos c] at h
   cases e:roundP i s with
   | none=>rw [e] at h;cases h
   | some s1 =>
    rw [e] at h
    obtain ⟨g1,i1,l1,t1,u1⟩:=round_good hg c hl hT hS e
    exact ih (i + 1) s1 s' g1 (by omega) l1 t1 u1 h
  ·rw [if_neg c] at h
   have h:=Option.some.inj h
   subst h
   exact ⟨hg,hl⟩
theorem orbP_good {a:List Nat × List Nat} (ha:Sf a.1 a.2) {s:PO} (h:orbP a = some s):Good s∧s.L.length≤120 :=
 lp_good 121 0 (start0 a) s (start_good ha) (Nat.zero_le _) (by simp [start0]) (by simp [start0]) (by simp [start0]) h
theorem orbR_good {r u:List Int} {s:PO} (h:orbR r u = some s):Good s∧s.L.length≤120:=by
 unfold orbR at h
 by_cases c:surfB r u = true
 ·rw [if_pos c] at h
  obtain ⟨r',u',rfl,rfl,hs⟩:=surf_nat c
  rw [N_I',N_I'] at h
  exact orbP_good (a:=(r',u')) hs h
 ·rw [if_neg c] at h;cases h
end Go.Proofs.Ytcggfjpnfodbaaa.M
end
section
/- Sorting a row of the call's own: what slices.SortFunc leaves. No conditions. -/
namespace Go.Proofs.Ytcggfjpnfodbaaa.M
set_option linter.unusedVariables false
set_option linter.unusedSimpArgs false
open Go Go.RowKit Go.Proofs.YtcggfjpnfodbaaaW.PrintWords.Kd Go.Proofs.YtcggfjpnfodbaaaW.PrintWords Go.Proofs.YtcggfjpnfodbaaaW.PrintLast Go.Proofs.YtcggfjpnfodbaaaW.PrintMore Go.Shelf Go.Lib Go.Sort Go.Proofs
structure Cel {α:Type} (d:Kd α) (Q:α→Prop) (w:World) (base:Nat) (ok:Nat→Prop) where
 x:α
 c:List Value
 h:d.M w base ok x c
 q:Q x
section
variable {α:Type} {d:Kd α} {Q:α→Prop} {w W:World} {ok:Nat→Prop} {e base g cap:Nat} {v:Value} {xs:List α}
theorem Cel.len (z:Cel d Q w base ok):z.c.length = d.sz:=d.K_len (d.K_of_M z.h)
theorem Cel.one (z:Cel d Q w base ok):∀ u ∈ z.c,u.oneCell' = true:=d.K_one (d.K_of_M z.h)
theorem Cel.move (z:Cel d Q w base ok) (hm:∀ k,ok k→k < w.heap.size→W.heap[k]? = w.heap[k]?):d.M W base ok z.x z.c :=
 d.M_mono (fun _ hk=>hk.1) (d.M_move (fun k hk=>hm k hk.1 hk.2.2.1) (d.M_bound z.h))
structure Ord3 (Q:α→Prop) (cf:α→α→Int):Prop where
 irr:∀ x,Q x→¬ cf x x < 0
 tr:∀ x y z,Q x→Q y→Q z→cf x y < 0→cf y z < 0→cf x z < 0
 nt:∀ x y z,Q x→Q y→Q z→¬ cf x y < 0→¬ cf y z < 0→¬ cf x z < 0
theorem Ord3.swo {cf:α→α→Int} (h:Ord3 Q cf):SWO (ltOf fun p q:Cel d Q w base ok=>cf p.x q.x) where
 irrefl p:=decide_eq_false (h.irr p.x p.q)
 trans p q r h1 h2:=decide_eq_true (h.tr p.x q.x r.x p.q q.q r.q (of_decide_eq_true h1) (of_decide_eq_true h2))
 ntrans p q r h1 h2:=decide_eq_false (h.nt p.x q.x r.x p.q q.q r.q (of_decide_eq_false h1) (of_decide_eq_false h2))
end
section
variable {P:Program} {ρ:Ren} {α:Type} {d:Kd α} {Q:α→Prop} {w:World} {ok:Nat→Prop} {e base:Nat} {v:Value} {xs:List α}
end
section
variable {α:Type} {d:Kd α} {Q:α→Prop} {w W:World} {ok:Nat→Prop} {e base g cap:Nat} {v:Value} {xs:List α}
theorem Ord3.fst {cf:α→α→Int} (h:Ord3 Q cf):Ord3 (fun p:α × Nat=>Q p.1) (fun p q=>cf p.1 q.1) where
 irr p hp:=h.irr p.1 hp
 tr p q r hp hq hr:=h.tr p.1 q.1 r.1 hp hq hr
 nt p q r hp hq hr:=h.nt p.1 q.1 r.1 hp hq hr
end
section
variable {α β:Type}
def cptGo (eqf:α→α→Bool):α→List α→List α
 | _,[]=>[]
 | p,y :: r=>if eqf y p then cptGo eqf y r else y :: cptGo eqf y r
def cpt (eqf:α→α→Bool):List α→List α
 | []=>[]
 | x :: r=>x :: cptGo eqf x r
theorem cptGo_snoc (eqf:α→α→Bool) (x:α):∀ (p:α) (l:List α),cptGo eqf p (l ++ [x]) = cptGo eqf p l ++ (if eqf x ((p :: l).getLast (by simp)) then [] else [x])
 | p,[]=>by
  show (if eqf x p then [] else [x]) = [] ++ (if eqf x p then [] else [x])
  rw [List.nil_append]
 | p,y :: r=>by
  have e:(p :: y :: r).getLast (by simp) = (y :: r).getLast (by simp):=List.getLast_cons (by simp)
  rw [e]
  simp only [List.cons_append,cptGo]
  rw [cptGo_snoc eqf x y r]
  split <;> simp
theorem cpt_snoc (eqf:α→α→Bool) (x:α) (l:List α) (h:l≠[]):cpt eqf (l ++ [x]) = cpt eqf l ++ (if eqf x (l.getLast h) then [] else [x]):=by
 cases l with
 | nil=>exact absurd rfl h
 | cons y r=>simp only [List.cons_append,cpt];rw [cptGo_snoc]
variable [Inhabited α]
def keepsB (eqf:α→α→Bool) (d:Array α) (j:Nat):Bool:=j == 0 || !(eqf d[j]! d[j - 1]!)
theorem cpt_take (eqf:α→α→Bool) (d:Array α) (m:Nat) (h:m < d.size):cpt eqf (d.toList.take (m + 1)) = cpt eqf (d.toList.take m) ++ (if keepsB eqf d m then [d[m]!] else []):=by
 have hl:m < d.toList.length:=by simpa using h
 rw [List.take_add_one,List.getElem?_eq_getElem hl]
 have hm:d.toList[m] = d[m]!:=by rw [getElem!_pos d m h];simp
 rw [hm]
 rcases Nat.eq_zero_or_pos m with h0 | h0
 ·subst h0;simp [cpt,cptGo,keepsB]
 ·have hne:d.toList.take m≠[]:=by
   intro e_
   have h1:=congrArg List.length e_
   have h2:d.toList.length = d.size:=by simp
   rw [List.length_take,h2] at h1
   have h3:min m d.size = 0:=h1
   omega
  show cpt eqf (d.toList.take m ++ [d[m]!]) = _
  rw [cpt_snoc eqf _ _ hne]
  have hlast:(d.toList.take m).getLast hne = d[m - 1]!:=by
   rw [List.getLast_eq_getElem]
   have h1:(d.toList.take m).length - 1 = m - 1:=by rw [List.length_take];simp;omega
   simp only [h1,List.getElem_take]
   rw [getElem!_pos d (m - 1) (by omega)]
   simp
  rw [hlast]
  have:(m == 0) = false:=by simp;omega
  simp only [keepsB,this,Bool.false_or]
  cases eqf d[m]! d[m - 1]! <;> simp
structure CompB (eqf:α→α→Bool) (d:Array α) (m k:Nat) (dk:Array α):Prop where
 size:dk.size = d.size
 len:(cpt eqf (d.toList.take m)).length = k
 le:k≤m
 low:∀ j,j < k→(cpt eqf (d.toList.take m))[j]? = some dk[j]!
 high:∀ j,k≤j→dk[j]! = d[j]!
variable {eqf:α→α→Bool} {d dk:Array α} {m k:Nat}
theorem CompB.one (h:0 < d.size):CompB eqf d 1 1 d:=by
 have h0:d.toList.take 1 = [d[0]!]:=by
  have:=List.take_add_one (l:=d.toList) (i:=0)
  rw [List.getElem?_eq_getElem (by simpa using h)] at this
  rw [this,getElem!_pos d 0 h];simp
 refine ⟨rfl,by rw [h0];rfl,Nat.le_refl _,fun j hj=>?_,fun _ _=>rfl⟩
 obtain rfl:j = 0:=by omega
 rw [h0];rfl
theorem CompB.skip (h:CompB eqf d m k dk) (hm:m < d.size) (hk:keepsB eqf d m = false):CompB eqf d (m + 1) k dk where
 size:=h.size
 len:=by rw [cpt_take eqf d m hm,hk];simpa using h.len
 le:=by have:=h.le;omega
 low:=fun j hj=>by rw [cpt_take eqf d m hm,hk];simpa using h.low j hj
 high:=h.high
theorem CompB.keep (h:CompB eqf d m k dk) (hm:m < d.size) (hk:keepsB eqf d m = true):CompB eqf d (m + 1) (k + 1) (dk.setIfInBounds k d[m]!) where
 size:=by simp [h.size]
 len:=by rw [cpt_take eqf d m hm,hk];simp [h.len]
 le:=by have:=h.le;omega
 low:=fun j hj=>by
  rw [cpt_take eqf d m hm,hk,if_pos rfl]
  by_cases e_:j = k
  ·subst e_
   rw [List.getElem?_append_right (by rw [h.len];exact Nat.le_refl _),h.len,Nat.sub_self,Go.Sort.getElem!_set_same dk j _ (by have:=h.le;have:=h.size;omega)]
   rfl
  ·rw [List.getElem?_append_left (by rw [h.len];omega),h.low j (by omega),Go.Sort.getElem!_set_other dk k j _ e_]
 high:=fun j hj=>by rw [Go.Sort.getElem!_set_other dk k j _ (by omega),h.high j (by omega)]
theorem CompB.same (h:CompB eqf d m m d) (hm:m < d.size) (hk:keepsB eqf d m = true):CompB eqf d (m + 1) (m + 1) d where
 size:=rfl
 len:=by rw [cpt_take eqf d m hm,hk];simp [h.len]
 le:=Nat.le_refl _
 low:=fun j hj=>by
  rw [cpt_take eqf d m hm,hk,if_pos rfl]
  by_cases e_:j = m
  ·subst e_
   rw [List.getElem?_append_right (by rw [h.len];exact Nat.le_refl _),h.len,Nat.sub_self]
   rfl
  ·rw [List.getElem?_append_left (by rw [h.len];omega),h.low j (by omega)]
 high:=fun _ _=>rfl
theorem CompB.done (h:CompB eqf d d.size k dk):dk.toList.take k = cpt eqf d.toList∧k = (cpt eqf d.toList).length:=by
 have ht:d.toList.take d.size = d.toList:=by rw [List.take_of_length_le];simp
 have hl:=h.len
 have hlow:=h.low
 rw [ht] at hl hlow
 refine ⟨?_,hl.symm⟩
 apply List.ext_getElem?
 intro j
 have hle:=h.le
 have hsz:=h.size
 by_cases hj:j < k
 ·rw [List.getElem?_take,if_pos hj,hlow j hj,Array.getElem?_toList,Array.getElem?_eq_getElem (by omega),getElem!_pos dk j (by omega)]
 ·rw [List.getElem?_eq_none (by simp;omega),List.getElem?_eq_none (by omega)]
end
section
variable {α:Type} {d:Kd α} {Q:α→Prop} {w W W':World} {ok:Nat→Prop} {e base g cap:Nat} {v:Value} {xs:List α}
end
end Go.Proofs.Ytcggfjpnfodbaaa.M
end
section
/- A list of surfaces sorted, each once. No conditions. -/
namespace Go.Proofs.Ytcggfjpnfodbaaa.M
set_option linter.unusedVariables false
set_option linter.unusedSimpArgs false
open Go.RowKit Go.Proofs.YtcggfjpnfodbaaaW.PrintWords Go.Proofs.YtcggfjpnfodbaaaW.PrintLast Go.Proofs.YtcggfjpnfodbaaaW.PrintMore Go.Proofs.Ytcggfjpnfodbaaa.A
def ofN (p:List Nat × List Nat):S25:=⟨I p.1,I p.2⟩
def NN (l:List Int):Prop:=(∀ a ∈ l,0≤a)∧l.length≤1000000
instance (l:List Int):Decidable (NN l):=inferInstanceAs (Decidable (_∧_))
def okS (x:S25):Prop:=NN x.f0∧NN x.f1
instance (x:S25):Decidable (okS x):=inferInstanceAs (Decidable (_∧_))
end Go.Proofs.Ytcggfjpnfodbaaa.M
end
section
/- Lists of surfaces sorted, each once: put in one by one, or all at the end. No conditions. -/
namespace Go.Proofs.Ytcggfjpnfodbaaa.M
set_option linter.unusedVariables false
set_option linter.unusedSimpArgs false
open Go.RowKit Go.Proofs.YtcggfjpnfodbaaaW.PrintWords Go.Proofs.YtcggfjpnfodbaaaW.PrintLast Go.Proofs.YtcggfjpnfodbaaaW.PrintMore Go.Proofs.Ytcggfjpnfodbaaa.A
def insS (l:List (List Nat × List Nat)) (s:List Nat × List Nat):List (List Nat × List Nat) :=
 match l with
 | []=>[s]
 | x :: xs=>if x = s then x :: xs else if cmpS s x < 0 then s :: x :: xs else x :: insS xs s
theorem mem_insS {l:List (List Nat × List Nat)} {s y:List Nat × List Nat}:y ∈ insS l s ↔ y = s ∨ y ∈ l:=by
 induction l with
 | nil=>simp [insS]
 | cons x xs ih =>
  unfold insS
  split
  ·rename_i e;subst e;simp
  ·split
   ·simp
   ·simp only [List.mem_cons,ih]
    constructor
    ·rintro (h | h | h)
     ·exact .inr (.inl h)
     ·exact .inl h
     ·exact .inr (.inr h)
    ·rintro (h | h | h)
     ·exact .inr (.inl h)
     ·exact .inl h
     ·exact .inr (.inr h)
def insAll (l:List (List Nat × List Nat)) (ss:List (List Nat × List Nat)):List (List Nat × List Nat):=ss.foldl insS l
theorem mem_insAll:∀ (ss l:List (List Nat × List Nat)) (y:List Nat × List Nat),y ∈ insAll l ss ↔ y ∈ l ∨ y ∈ ss
 | [],l,y=>by simp [insAll]
 | s :: ss,l,y=>by
  have:=mem_insAll ss (insS l s) y
  rw [mem_insS] at this
  show y ∈ insAll (insS l s) ss ↔ _
  rw [this,List.mem_cons]
  constructor
  ·rintro ((h | h) | h)
   ·exact .inr (.inl h)
   ·exact .inl h
   ·exact .inr (.inr h)
  ·rintro (h | h | h)
   ·exact .inl (.inr h)
   ·exact .inl (.inl h)
   ·exact .inr h
end Go.Proofs.Ytcggfjpnfodbaaa.M
end
section
/- All surfaces with few squares: the program and the reference list them alike. No conditions. -/
namespace Go.Proofs.Ytcggfjpnfodbaaa.M
set_option linter.unusedVariables false
set_option linter.unusedSimpArgs false
open Go.RowKit Go.Proofs.YtcggfjpnfodbaaaW.PrintWords Go.Proofs.YtcggfjpnfodbaaaW.PrintLast Go.Proofs.YtcggfjpnfodbaaaW.PrintMore Go.Proofs.Ytcggfjpnfodbaaa.A
def permN (n:Nat):List (List Nat):=(List.range n).foldl (fun out _=>(out.map (fun p=>((List.range n).filter (fun x=>decide (x ∉ p))).map (fun x=>p ++ [x]))).flatten) [[]]
theorem four_cases {n:Nat} (h1:1≤n) (h4:n≤4):n = 1 ∨ n = 2 ∨ n = 3 ∨ n = 4:=by omega
def LS (l:List (List Nat × List Nat)):List S25:=l.map ofN
def pr (p q:List Nat):List (List Nat × List Nat):=if surfB (I p) (I q) = true then [canS p q] else []
theorem pr_yes {p q:List Nat} (h:surfB (I p) (I q) = true):pr p q = [canS p q]:=by unfold pr;rw [if_pos h]
def prs (P:List (List Nat)) (p:List Nat):List (List Nat × List Nat):=P.flatMap (pr p)
def pairs (P R:List (List Nat)):List (List Nat × List Nat):=R.flatMap (prs P)
def surfN (n:Nat):List (List Nat × List Nat):=insAll [] (pairs (permN n) (permN n))
end Go.Proofs.Ytcggfjpnfodbaaa.M
end
section
/- What the four letters keep: symmetries and half turns. No conditions. -/
namespace Go.Proofs.Ytcggfjpnfodbaaa.M
set_option linter.unusedVariables false
set_option linter.unusedSimpArgs false
theorem lt_T (s:List Nat × List Nat):lt 84 s = (s.1,thn (inv s.1) s.2):=rfl
theorem lt_t (s:List Nat × List Nat):lt 116 s = (s.1,thn s.1 s.2):=rfl
theorem lt_S (s:List Nat × List Nat):lt 83 s = (inv s.2,s.1):=rfl
theorem lt_s (s:List Nat × List Nat):lt 115 s = (s.2,inv s.1):=rfl
theorem lt_four (c:Int):(∀ s,lt c s = lt 84 s) ∨ (∀ s,lt c s = lt 116 s) ∨ (∀ s,lt c s = lt 83 s) ∨ (∀ s,lt c s = lt 115 s):=by
 by_cases h1:c = 84
 ·subst h1;exact .inl fun _=>rfl
 ·by_cases h2:c = 116
  ·subst h2;exact .inr (.inl fun _=>rfl)
  ·by_cases h3:c = 83
   ·subst h3;exact .inr (.inr (.inl fun _=>rfl))
   ·exact .inr (.inr (.inr fun s=>by unfold lt;simp [h1,h2,h3]))
theorem gT {s:List Nat × List Nat} (hs:Sf s.1 s.2) {x:Nat} (hx:x < s.1.length):g (thn (inv s.1) s.2) x = g s.2 (ix s.1 x):=by rw [g_thn (by rw [inv_len];exact hx),g_inv hx]
theorem gt {s:List Nat × List Nat} (hs:Sf s.1 s.2) {x:Nat} (hx:x < s.1.length):g (thn s.1 s.2) x = g s.2 (g s.1 x):=g_thn hx
theorem giu {s:List Nat × List Nat} (hs:Sf s.1 s.2) {x:Nat} (hx:x < s.1.length):g (inv s.2) x = ix s.2 x:=g_inv (by rw [hs.eq];exact hx)
theorem gir {s:List Nat × List Nat} (hs:Sf s.1 s.2) {x:Nat} (hx:x < s.1.length):g (inv s.1) x = ix s.1 x:=g_inv hx
theorem grx {s:List Nat × List Nat} (hs:Sf s.1 s.2) {x:Nat} (hx:x < s.1.length):g s.1 (ix s.1 x) = x:=g_ix hs.pr hx
theorem ixr {s:List Nat × List Nat} (hs:Sf s.1 s.2) {x:Nat} (hx:x < s.1.length):ix s.1 (g s.1 x) = x:=ix_g hs.pr hx
theorem undo_T {s:List Nat × List Nat} (hs:Sf s.1 s.2):lt 116 (lt 84 s) = s:=by
 rw [lt_T,lt_t]
 refine Prod.ext rfl (ext_g (by show (thn s.1 _).length = _;rw [thn_len,hs.eq]) (fun x hx=>?_))
 have hx:x < s.1.length:=by have e:x < (thn s.1 (thn (inv s.1) s.2)).length:=hx;rw [thn_len] at e;exact e
 show g (thn s.1 (thn (inv s.1) s.2)) x = _
 rw [g_thn hx,gT hs (hs.gr hx),ixr hs hx]
theorem undo_t {s:List Nat × List Nat} (hs:Sf s.1 s.2):lt 84 (lt 116 s) = s:=by
 rw [lt_T,lt_t]
 refine Prod.ext rfl (ext_g (by show (thn (inv s.1) _).length = _;rw [thn_len,inv_len,hs.eq]) (fun x hx=>?_))
 have hx:x < s.1.length:=by have e:x < (thn (inv s.1) (thn s.1 s.2)).length:=hx;rw [thn_len,inv_len] at e;exact e
 show g (thn (inv s.1) (thn s.1 s.2)) x = _
 rw [g_thn (by rw [inv_len];exact hx),gir hs hx,gt hs (hs.ir hx),grx hs hx]
theorem undo_S {s:List Nat × List Nat} (hs:Sf s.1 s.2):lt 115 (lt 83 s) = s:=by
 rw [lt_S,lt_s]
 exact Prod.ext rfl (inv_inv hs.pu)
theorem undo_s {s:List Nat × List Nat} (hs:Sf s.1 s.2):lt 83 (lt 115 s) = s:=by
 rw [lt_S,lt_s]
 exact Prod.ext (inv_inv hs.pr) rfl
theorem is_lt {s t:List Nat × List Nat} {f:Nat→Nat} (hs:Sf s.1 s.2) (ht:Sf t.1 t.2) (a:Is s t f) (c:Int):Is (lt c s) (lt c t) f:=by
 have ls:=(sf_lt hs c).2
 have lt':=(sf_lt ht c).2
 have up:∀ {x},x < s.1.length→f x < t.1.length:=fun {x} hx=>by rw [a.len];exact a.lt x hx
 refine ⟨by rw [ls,lt',a.len],fun x hx=>?_,fun x y hx hy=>?_,fun x hx=>?_,fun x hx=>?_⟩
 ·rw [ls] at hx ⊢;exact a.lt x hx
 ·rw [ls] at hx hy;exact a.inj x y hx hy
 ·rw [ls] at hx
  rcases lt_four c with h | h | h | h <;> rw [h s,h t]
  ·exact a.r x hx
  ·exact a.r x hx
  ·show f (g (inv s.2) x) = g (inv t.2) (f x)
   rw [giu hs hx,giu ht (up hx)]
   exact a.iu hs ht hx
  ·exact a.u x hx
 ·rw [ls] at hx
  rcases lt_four c with h | h | h | h <;> rw [h s,h t]
  ·show f (g (thn (inv s.1) s.2) x) = g (thn (inv t.1) t.2) (f x)
   rw [gT hs hx,gT ht (up hx),a.u _ (hs.ir hx),a.ir hs ht hx]
  ·show f (g (thn s.1 s.2) x) = g (thn t.1 t.2) (f x)
   rw [gt hs hx,gt ht (up hx),a.u _ (hs.gr hx),a.r x hx]
  ·exact a.r x hx
  ·show f (g (inv s.1) x) = g (inv t.1) (f x)
   rw [gir hs hx,gir ht (up hx)]
   exact a.ir hs ht hx
open Classical in
noncomputable def ledN (s t:List Nat × List Nat) (b:Nat):Nat:=((List.range s.1.length).filter (fun i=>decide (∃ f,Is s t f∧f b = i))).length
def symN (s:List Nat × List Nat):Nat:=((List.range s.1.length).filter (fun i=>decide (rS s.1 s.2 i = canS s.1 s.2))).length
def neg (s:List Nat × List Nat):List Nat × List Nat:=(inv s.1,inv s.2)
end Go.Proofs.Ytcggfjpnfodbaaa.M
end
section
/- Plain mathematics: lists that fall, and the lengths of cycles. No conditions. -/
namespace Go.Proofs.Ytcggfjpnfodbaaa.M
set_option linter.unusedVariables false
set_option linter.unusedSimpArgs false
def insD (x:Nat):List Nat→List Nat
 | []=>[x]
 | y :: l=>if y < x then x :: y :: l else y :: insD x l
def sortD (l:List Nat):List Nat:=l.foldl (fun a x=>insD x a) []
end Go.Proofs.Ytcggfjpnfodbaaa.M
end
section
/- Plain mathematics: classes of what is linked. No conditions. -/
namespace Go.Proofs.Ytcggfjpnfodbaaa.M
set_option linter.unusedVariables false
set_option linter.unusedSimpArgs false
inductive Cn (up:Nat→Option Nat):Nat→Nat→Prop
 | refl (i:Nat):Cn up i i
 | up {i j k:Nat}:up i = some j→Cn up j k→Cn up i k
 | dn {i j k:Nat}:up j = some i→Cn up j k→Cn up i k
theorem Cn.trans {up:Nat→Option Nat} {i j k:Nat} (h:Cn up i j) (h':Cn up j k):Cn up i k:=by
 induction h with
 | refl i=>exact h'
 | up e _ ih=>exact .up e (ih h')
 | dn e _ ih=>exact .dn e (ih h')
theorem Cn.symm {up:Nat→Option Nat} {i j:Nat} (h:Cn up i j):Cn up j i:=by
 induction h with
 | refl i=>exact .refl i
 | up e _ ih=>exact ih.trans (.dn e (.refl _))
 | dn e _ ih=>exact ih.trans (.up e (.refl _))
theorem Cn.one {up:Nat→Option Nat} {i j:Nat} (h:up i = some j):Cn up i j:=.up h (.refl _)
theorem Cn.lt {n:Nat} {up:Nat→Option Nat} (hup:∀ i j,up i = some j→i < n∧j < n) {i j:Nat} (h:Cn up i j) (hi:i < n):j < n:=by
 induction h with
 | refl i=>exact hi
 | up e _ ih=>exact ih (hup _ _ e).2
 | dn e _ ih=>exact ih (hup _ _ e).1
theorem Cn.closed {up:Nat→Option Nat} {S:Nat→Prop} (hS:∀ i j,up i = some j→(S i ↔ S j)) {i j:Nat} (h:Cn up i j):S i ↔ S j:=by
 induction h with
 | refl i=>exact Iff.rfl
 | up e _ ih=>exact (hS _ _ e).trans ih
 | dn e _ ih=>exact (hS _ _ e).symm.trans ih
structure Grp (n:Nat) (up:Nat→Option Nat) (t:Nat) (G:Nat→Nat):Prop where
 le:∀ j,j < n→G j≤j
 fix:∀ j,j < n→G (G j) = G j
 cn:∀ j,j < n→Cn up j (G j)
 ed:∀ i j,i < t→up i = some j→G i = G j
def mgf (G:Nat→Nat) (a b:Nat):Nat→Nat:=fun j=>if G j = a ∨ G j = b then min a b else G j
theorem Grp.start (n:Nat) (up:Nat→Option Nat):Grp n up 0 (fun j=>j):=⟨fun j _=>Nat.le_refl _,fun j _=>rfl,fun j _=>.refl _,fun i j h _=>by omega⟩
theorem Grp.skip {n t:Nat} {up:Nat→Option Nat} {G:Nat→Nat} (h:Grp n up t G) (e:up t = none):Grp n up (t + 1) G :=
 ⟨h.le,h.fix,h.cn,fun i j hi hj=>by
  by_cases e2:i = t
  ·subst e2
   rw [e] at hj
   cases hj
  ·exact h.ed i j (by omega) hj⟩
theorem Grp.merge {n t k:Nat} {up:Nat→Option Nat} (hup:∀ i j,up i = some j→i < n∧j < n) {G:Nat→Nat} (h:Grp n up t G) (e:up t = some k):Grp n up (t + 1) (mgf G (G t) (G k)):=by
 obtain ⟨ht,hk⟩:=hup t k e
 have ha:=h.fix t ht
 have hb:=h.fix k hk
 have la:=h.le t ht
 have lb:=h.le k hk
 have hab:Cn up (G t) (G k):=(h.cn t ht).symm.trans ((Cn.one e).trans (h.cn k hk))
 have hm:min (G t) (G k) = G t ∨ min (G t) (G k) = G k:=by omega
 refine ⟨fun j hj=>?_,fun j hj=>?_,fun j hj=>?_,fun i j hi hj=>?_⟩
 ·unfold mgf
  have:=h.le j hj
  split <;> omega
 ·have key:∀ c,(c = G t ∨ c = G k)→mgf G (G t) (G k) c = min (G t) (G k):=by
   intro c hc
   unfold mgf
   rw [if_pos (by rcases hc with rfl | rfl;exact .inl ha;exact .inr hb)]
  by_cases hc:G j = G t ∨ G j = G k
  ·have e1:mgf G (G t) (G k) j = min (G t) (G k):=by unfold mgf;rw [if_pos hc]
   rw [e1]
   exact key _ hm
  ·have e1:mgf G (G t) (G k) j = G j:=by unfold mgf;rw [if_neg hc]
   rw [e1]
   unfold mgf
   rw [h.fix j hj,if_neg hc]
 ·unfold mgf
  split
  ·rename_i hc
   refine (h.cn j hj).trans ?_
   rcases hc with hc | hc <;> rcases hm with hm | hm <;> rw [hc,hm]
   ·exact .refl _
   ·exact hab
   ·exact hab.symm
   ·exact .refl _
  ·exact h.cn j hj
 ·by_cases e2:i = t
  ·subst e2
   rw [e] at hj
   injection hj with hj
   subst hj
   unfold mgf
   simp
  ·unfold mgf
   rw [h.ed i j (by omega) hj]
theorem Grp.iff {n:Nat} {up:Nat→Option Nat} (hup:∀ i j,up i = some j→i < n∧j < n) {G:Nat→Nat} (h:Grp n up n G) {i j:Nat} (hi:i < n) (hj:j < n):G i = G j ↔ Cn up i j:=by
 constructor
 ·intro e
  have:=(h.cn i hi).trans ((by rw [e];exact .refl _:Cn up (G i) (G j)).trans (h.cn j hj).symm)
  exact this
 ·intro hc
  induction hc with
  | refl i=>rfl
  | up e _ ih=>rw [h.ed _ _ (hup _ _ e).1 e];exact ih (hup _ _ e).2 hj
  | dn e _ ih=>rw [← h.ed _ _ (hup _ _ e).1 e];exact ih (hup _ _ e).1 hj
theorem Grp.head {n:Nat} {up:Nat→Option Nat} (hup:∀ i j,up i = some j→i < n∧j < n) {G:Nat→Nat} (h:Grp n up n G) {i:Nat} (hi:i < n):G i = i ↔ ∀ j,Cn up i j→i≤j:=by
 constructor
 ·intro e j hc
  have hj:=hc.lt hup hi
  have:=(h.iff hup hi hj).mpr hc
  have:=h.le j hj
  omega
 ·intro hc
  have:=hc _ (h.cn i hi)
  have:=h.le i hi
  omega
def ups (up:Nat→Option Nat):Nat→Nat→Option Nat
 | 0,i=>some i
 | m + 1,i=>(up i).bind (ups up m)
theorem ups_succ (up:Nat→Option Nat) (m i:Nat):ups up (m + 1) i = (ups up m i).bind up:=by
 induction m generalizing i with
 | zero =>
  simp only [ups,Option.bind_some]
  cases h:up i <;> rfl
 | succ m ih =>
  show (up i).bind (ups up (m + 1)) = ((up i).bind (ups up m)).bind up
  cases h:up i with
  | none=>rfl
  | some j=>exact ih j
theorem ups_cn {up:Nat→Option Nat} {m i j:Nat} (h:ups up m i = some j):Cn up i j:=by
 induction m generalizing i with
 | zero=>simp [ups] at h;subst h;exact .refl _
 | succ m ih =>
  obtain ⟨z,hz,h2⟩:=Option.bind_eq_some_iff.mp h
  exact .up hz (ih h2)
structure Mk (n:Nat) (up:Nat→Option Nat) (row:Nat) (S0 add:List Nat):Prop where
 nd:add.Nodup
 lt:∀ x ∈ add,x < n
 new:∀ x ∈ add,x ∉ S0
 p:∀ x ∈ add,(∃ m,ups up m row = some x) ∨ (∃ m,ups up m x = some row)
theorem Mk.cn {n:Nat} {up:Nat→Option Nat} {row:Nat} {S0 add:List Nat} (h:Mk n up row S0 add) {x:Nat} (hx:x ∈ add):Cn up row x:=by
 rcases h.p x hx with ⟨m,hm⟩ | ⟨m,hm⟩
 ·exact ups_cn hm
 ·exact (ups_cn hm).symm
theorem Mk.add {n:Nat} {up:Nat→Option Nat} {row:Nat} {S0 add:List Nat} (h:Mk n up row S0 add) {x:Nat} (hx:x < n) (h1:x ∉ S0) (h2:x ∉ add) (hp:(∃ m,ups up m row = some x) ∨ (∃ m,ups up m x = some row)):Mk n up row S0 (add ++ [x]):=by
 refine ⟨List.nodup_append.mpr ⟨h.nd,by simp,fun a ha b hb e=>?_⟩,fun y hy=>?_,fun y hy=>?_,fun y hy=>?_⟩
 ·have:b = x:=by simpa using hb
  exact h2 (by rw [← this,← e];exact ha)
 ·rcases List.mem_append.mp hy with hy | hy
  ·exact h.lt y hy
  ·have:y = x:=by simpa using hy
   omega
 ·rcases List.mem_append.mp hy with hy | hy
  ·exact h.new y hy
  ·have:y = x:=by simpa using hy
   rw [this]
   exact h1
 ·rcases List.mem_append.mp hy with hy | hy
  ·exact h.p y hy
  ·have:y = x:=by simpa using hy
   rw [this]
   exact hp
theorem Mk.full {n:Nat} {up:Nat→Option Nat} (hup:∀ i j,up i = some j→i < n∧j < n) (hinj:∀ i i' j,up i = some j→up i' = some j→i = i') {row:Nat} {S0 add:List Nat} (h:Mk n up row S0 add) (hrow:row ∈ add)
  (hS0:∀ i j,up i = some j→(i ∈ S0 ↔ j ∈ S0)) (c1:∀ x ∈ add,∀ y,up x = some y→y ∈ S0 ∨ y ∈ add)
  (c2:∀ k x,up k = some x→(x ∈ S0 ∨ x ∈ add)→(∃ m,ups up m k = some row)→(k ∈ S0 ∨ k ∈ add)):∀ x,x ∈ add ↔ Cn up row x:=by
 have hrs:row ∉ S0:=h.new row hrow
 have chain:∀ m x,ups up m row = some x→x ∈ add:=by
  intro m
  induction m with
  | zero=>intro x hx;simp [ups] at hx;rw [← hx];exact hrow
  | succ m ih =>
   intro x hx
   rw [ups_succ] at hx
   obtain ⟨z,hz,hzx⟩:=Option.bind_eq_some_iff.mp hx
   have hza:=ih z hz
   rcases c1 z hza x hzx with k | k
   ·exact absurd ((hS0 z x hzx).mpr k) (h.new z hza)
   ·exact k
 have closed:∀ i j,up i = some j→((i ∈ S0 ∨ i ∈ add) ↔ (j ∈ S0 ∨ j ∈ add)):=by
  intro i j e
  constructor
  ·rintro (k | k)
   ·exact .inl ((hS0 i j e).mp k)
   ·exact c1 i k j e
  ·rintro (k | k)
   ·exact .inl ((hS0 i j e).mpr k)
   ·rcases h.p j k with ⟨m,hm⟩ | ⟨m,hm⟩
    ·cases m with
     | zero =>
      simp [ups] at hm
      subst hm
      exact c2 i _ e (.inr k) ⟨1,by simp [ups,e]⟩
     | succ m =>
      rw [ups_succ] at hm
      obtain ⟨z,hz,hzj⟩:=Option.bind_eq_some_iff.mp hm
      have:=hinj i z j e hzj
      subst this
      exact .inr (chain m _ hz)
    ·exact c2 i j e (.inr k) ⟨m + 1,by simp [ups,e,hm]⟩
 intro x
 constructor
 ·exact fun hx=>h.cn hx
 ·intro hc
  have h1:=(Cn.closed (S:=fun z=>z ∈ S0 ∨ z ∈ add) closed hc).mp (.inr hrow)
  rcases h1 with h1 | h1
  ·exact absurd ((Cn.closed (S:=fun z=>z ∈ S0) hS0 hc).mpr h1) hrs
  ·exact h1
end Go.Proofs.Ytcggfjpnfodbaaa.M
end
section
/- Half turns: the tests of the program and of the reference come to one plain test. No conditions. -/
namespace Go.Proofs.Ytcggfjpnfodbaaa.M
set_option linter.unusedVariables false
set_option linter.unusedSimpArgs false
open Go.RowKit Go.Proofs.YtcggfjpnfodbaaaW.PrintWords Go.Proofs.YtcggfjpnfodbaaaW.PrintLast Go.Proofs.YtcggfjpnfodbaaaW.PrintMore Go.Proofs.Ytcggfjpnfodbaaa.A
def Turn (r u a:List Nat):Prop:=∀ i,i < a.length→g a (g r i) = ix r (g a i)∧g a (g u i) = ix u (g a i)
instance (r u a:List Nat):Decidable (Turn r u a):=by unfold Turn;infer_instance
end Go.Proofs.Ytcggfjpnfodbaaa.M
end
section
/- Half turns as the program makes them. No conditions. -/
namespace Go.Proofs.Ytcggfjpnfodbaaa.M
set_option linter.unusedVariables false
set_option linter.unusedSimpArgs false
open Go.RowKit Go.Proofs.YtcggfjpnfodbaaaW.PrintWords Go.Proofs.YtcggfjpnfodbaaaW.PrintLast Go.Proofs.YtcggfjpnfodbaaaW.PrintMore Go.Proofs.Ytcggfjpnfodbaaa.A
structure TurnP (r u b:List Nat):Prop where
 len:b.length = r.length
 p:IsP b
 t:Turn r u b
theorem ix_inj {p:List Nat} (hp:IsP p) {x y:Nat} (hx:x < p.length) (hy:y < p.length) (h:ix p x = ix p y):x = y:=by
 rw [← g_ix hp hx,← g_ix hp hy,h]
structure FI (r u:List Nat) (im:Nat) (out:List Nat) (f:Nat→Nat):Prop where
 lt:∀ x ∈ out,f x < r.length
 z:f 0 = im
 z0:0 ∈ out
 t:∀ b,TurnP r u b→g b 0 = im→∀ x ∈ out,f x = g b x
theorem FI.add {r u:List Nat} {im:Nat} {out:List Nat} {f:Nat→Nat} (h:FI r u im out f) {y v:Nat} (hy:y ∉ out) (hv:v < r.length) (ht:∀ b,TurnP r u b→g b 0 = im→v = g b y):FI r u im (out ++ [y]) (fun z=>if z = y then v else f z):=by
 have h0:(0:Nat)≠y:=fun e=>hy (e ▸ h.z0)
 refine ⟨fun x hx=>?_,by simp [h0,h.z],by simp [h.z0],fun b hb hb0 x hx=>?_⟩
 ·by_cases e:x = y
  ·simp [e,hv]
  ·rcases List.mem_append.mp hx with hx | hx
   ·simp [e,h.lt x hx]
   ·exact absurd (by simpa using hx) e
 ·by_cases e:x = y
  ·subst e
   simp [ht b hb hb0]
  ·rcases List.mem_append.mp hx with hx | hx
   ·simp [e,h.t b hb hb0 x hx]
   ·exact absurd (by simpa using hx) e
end Go.Proofs.Ytcggfjpnfodbaaa.M
end
section
/- Half turns: the program and the reference find the same ones. No conditions. -/
namespace Go.Proofs.Ytcggfjpnfodbaaa.M
set_option linter.unusedVariables false
set_option linter.unusedSimpArgs false
open Go.RowKit Go.Proofs.YtcggfjpnfodbaaaW.PrintWords Go.Proofs.YtcggfjpnfodbaaaW.PrintLast Go.Proofs.YtcggfjpnfodbaaaW.PrintMore Go.Proofs.Ytcggfjpnfodbaaa.A
def Led (r u out:List Nat) (a:Nat):Prop:=∀ i,i < out.length→0 < i→∃ j,j < i∧j < a∧(g out i = g r (g out j) ∨ g out i = g u (g out j))
theorem g_app {out:List Nat} {x i:Nat} (h:i < out.length):g (out ++ [x]) i = g out i:=by
 unfold g
 rw [List.getD_eq_getElem?_getD,List.getD_eq_getElem?_getD,List.getElem?_append_left h]
theorem g_last (out:List Nat) (x:Nat):g (out ++ [x]) out.length = x:=getD_mid out x [] 0
theorem Led.st {r u out:List Nat} {a y:Nat} (h:Led r u out (a + 1)) (ha:a < out.length) (hy:y = g r (g out a) ∨ y = g u (g out a)):Led r u (st1 out y) (a + 1):=by
 unfold st1
 split
 ·exact h
 ·intro i hi h0
  by_cases e:i < out.length
  ·obtain ⟨j,j1,j2,j3⟩:=h i e h0
   refine ⟨j,j1,j2,?_⟩
   rw [g_app e,g_app (by omega)]
   exact j3
  ·have e2:i = out.length:=by simp at hi;omega
   subst e2
   refine ⟨a,ha,by omega,?_⟩
   rw [g_last,g_app ha]
   exact hy
inductive Given (r u L:List Nat) (i:Nat):Nat→Prop
 | z:Given r u L i 0
 | r (j:Nat):j < i→Given r u L i (g r (g L j))
 | u (j:Nat):j < i→Given r u L i (g u (g L j))
theorem Given.mono {r u L:List Nat} {i x:Nat} (h:Given r u L i x):Given r u L (i + 1) x:=by
 cases h with
 | z=>exact .z
 | r j hj=>exact .r j (by omega)
 | u j hj=>exact .u j (by omega)
structure GI (r u:List Nat) (im:Nat) (i:Nat) (c:List Nat):Prop where
 len:c.length = r.length
 lt:∀ x,x < r.length→g c x < r.length
 t:∀ b,TurnP r u b→g b 0 = im→∀ x,Given r u (reach r u 0) i x→g c x = g b x
 n:∀ b,TurnP r u b→g b 0≠im→∀ x,Given r u (reach r u 0) i x→g c x≠g b x
theorem GI.put {r u:List Nat} (hs:Sf r u) {p:List Nat} (hp:p = r ∨ p = u) {im:Nat} {c:List Nat} (P:Nat→Prop) (h1:c.length = r.length) (h2:∀ x,x < r.length→g c x < r.length) (ht:∀ b,TurnP r u b→g b 0 = im→∀ x,P x→g c x = g b x) (hn:∀ b,TurnP r u b→g b 0≠im→∀ x,P x→g c x≠g b x) {x:Nat} (hx:x < r.length) (hP:P x) :
  (c.set (g p x) (ix p (g c x))).length = r.length∧(∀ z,z < r.length→g (c.set (g p x) (ix p (g c x))) z < r.length)∧(∀ b,TurnP r u b→g b 0 = im→∀ z,(P z ∨ z = g p x)→g (c.set (g p x) (ix p (g c x))) z = g b z)∧(∀ b,TurnP r u b→g b 0≠im→∀ z,(P z ∨ z = g p x)→g (c.set (g p x) (ix p (g c x))) z≠g b z):=by
 have heq:=hs.eq
 have ipp:IsP p:=by rcases hp with rfl | rfl;exact hs.pr;exact hs.pu
 have hpl:p.length = r.length:=by rcases hp with rfl | rfl;rfl;exact heq
 have gx:=g_lt ipp (i:=x) (by omega)
 have cx:=h2 x hx
 have hv:=ix_lt ipp (x:=g c x) (by omega)
 have tp:∀ b,TurnP r u b→g b (g p x) = ix p (g b x):=fun b hb=>by
  have:=hb.t x (by rw [hb.len];exact hx)
  rcases hp with rfl | rfl
  ·exact this.1
  ·exact this.2
 refine ⟨by rw [List.length_set];exact h1,fun z hz=>?_,fun b hb hb0 z hz=>?_,fun b hb hb0 z hz=>?_⟩
 ·rw [g_set (by omega)]
  split
  ·omega
  ·exact h2 z hz
 ·rw [g_set (by omega)]
  by_cases e:g p x = z
  ·rw [if_pos e,← e,tp b hb,ht b hb hb0 x hP]
  ·rw [if_neg e]
   rcases hz with hz | hz
   ·exact ht b hb hb0 z hz
   ·exact absurd hz.symm e
 ·rw [g_set (by omega)]
  by_cases e:g p x = z
  ·rw [if_pos e,← e,tp b hb]
   intro h
   exact hn b hb hb0 x hP (ix_inj ipp (by omega) (by have:=g_lt hb.p (i:=x) (by rw [hb.len];exact hx);rw [hb.len] at this;omega) h)
  ·rw [if_neg e]
   rcases hz with hz | hz
   ·exact hn b hb hb0 z hz
   ·exact absurd hz.symm e
end Go.Proofs.Ytcggfjpnfodbaaa.M
end
section
/- Numbers drawn out of a code. No conditions. -/
namespace Go.Proofs.Ytcggfjpnfodbaaa.M
set_option linter.unusedVariables false
set_option linter.unusedSimpArgs false
open Go.RowKit Go.Proofs.YtcggfjpnfodbaaaW.PrintWords Go.Proofs.YtcggfjpnfodbaaaW.PrintLast Go.Proofs.YtcggfjpnfodbaaaW.PrintMore Go.Proofs.Ytcggfjpnfodbaaa.A
theorem and255 (n:Int):Go.bits .and .i64 n 255 = n % 256:=by
 have h:(BitVec.ofInt 64 255).toNat = 2 ^ 8 - 1:=by decide
 have key:(BitVec.ofInt 64 n &&& BitVec.ofInt 64 255).toNat = (n % ((2 ^ 64:Nat):Int)).toNat % 2 ^ 8:=by
  rw [BitVec.toNat_and,BitVec.toNat_ofInt,h,Nat.and_two_pow_sub_one_eq_mod]
 show IntKind.i64.wrap ((BitVec.ofInt 64 n &&& BitVec.ofInt 64 255).toNat:Nat) = n % 256
 rw [key,IntKind.wrap_i64]
 omega
theorem byte_draw (b:List Int) (i h:Int) (hi:0≤i) (hl:i≤b.length) (hb:b.length≤1000000000):∃ x i' h',Z56.f b i h = some (x,i',h')∧0≤x∧x≤255∧0≤i'∧i'≤b.length:=by
 unfold Z56.f
 by_cases c:i < (b.length:Int)
 ·have e:wrap64 (i + 1) = i + 1:=w64 (by omega) (by omega)
  simp only [c,hi,if_true,and255,e]
  exact ⟨_,_,_,rfl,by omega,by omega,by omega,by omega⟩
 ·simp only [c,if_false,and255]
  exact ⟨_,_,_,rfl,by omega,by omega,by omega,by omega⟩
theorem below_draw (b:List Int) (i h a:Int) (hi:0≤i) (hl:i≤b.length) (hb:b.length≤1000000000) (h0:0 < a) (h1:a≤256):∃ x i' h',Z44.f b i h a = some (x,i',h')∧0≤x∧x < a∧0≤i'∧i'≤b.length:=by
 obtain ⟨x,i',h',e,x0,x1,j0,j1⟩:=byte_draw b i h hi hl hb
 unfold Z44.f
 have c1:¬ a≤0:=by omega
 have c2:¬ a = 0:=by omega
 simp only [c1,h1,e,c2,if_true,if_false,Option.bind_some]
 refine ⟨_,_,_,rfl,?_,?_,j0,j1⟩
 ·rw [Int.tmod_eq_emod_of_nonneg x0]
  exact Int.emod_nonneg _ c2
 ·rw [Int.tmod_eq_emod_of_nonneg x0]
  exact Int.emod_lt_of_pos _ h0
theorem new_draw (b:List Int) (hb:b.length≤1000000000):∃ h,Ev (fun k=>Z67.f k b) (b,0,h):=by
 unfold Z67.f
 have H:∀ (d i:Nat) (x:Int),i + d = b.length→∃ h,Ev (fun k=>Z67.l0 k b x (i:Int)) (b,0,h):=by
  intro d
  induction d with
  | zero =>
   intro i x hi
   refine ⟨x,ev_succ ?_⟩
   have c1:¬ ((i:Int) < (b.length:Int)):=by omega
   simp only [Z67.l0,c1,if_false]
   exact Ev.now _
  | succ d ih =>
   intro i x hi
   have c1:(i:Int) < (b.length:Int):=by omega
   have c2:(0:Int)≤(i:Int):=by omega
   have c3:=w64s i (by omega)
   by_cases c4:(i:Int) < 4000
   ·obtain ⟨h,e⟩:=ih (i + 1) (Go.bits .and .i64 (wrap64 ((wrap64 ((wrap64 (x * 109)) + (wrap64 (rd b (i:Int))))) + 7)) 1073741823) (by omega)
    refine ⟨h,ev_succ ?_⟩
    simp only [Z67.l0,c1,c2,c3,c4,if_true]
    exact e
   ·refine ⟨x,ev_succ ?_⟩
    simp only [Z67.l0,c1,c4,if_true,if_false]
    exact Ev.now _
 exact H b.length 0 _ (by omega)
theorem skip_draw (b:List Int) (hb:b.length≤1000000000) (n:Nat) (hn:n≤1000):∃ i h,0≤i∧i≤(b.length:Int)∧Ev (fun k=>Z70.f k b (n:Int)) (b,i,h):=by
 unfold Z70.f
 obtain ⟨h0,e0⟩:=new_draw b hb
 have H:∀ (d j:Nat) (i h:Int),j + d = n→0≤i→i≤(b.length:Int)→∃ i' h',0≤i'∧i'≤(b.length:Int)∧Ev (fun k=>Z70.l0 k b i h (n:Int) (j:Int)) (b,i',h'):=by
  intro d
  induction d with
  | zero =>
   intro j i h hj i0 i1
   obtain rfl:j = n:=by omega
   refine ⟨i,h,i0,i1,ev_succ ?_⟩
   have c1:¬ ((j:Int) < (j:Int)):=by omega
   simp only [Z70.l0,c1,if_false]
   exact Ev.now _
  | succ d ih =>
   intro j i h hj i0 i1
   obtain ⟨x,i',h',e,_,_,j0,j1⟩:=byte_draw b i h i0 i1 hb
   obtain ⟨i2,h2,k0,k1,k2⟩:=ih (j + 1) i' h' (by omega) j0 j1
   refine ⟨i2,h2,k0,k1,ev_succ ?_⟩
   have c1:(j:Int) < (n:Int):=by omega
   have c3:=w64s j (by omega)
   simp only [Z70.l0,c1,e,c3,if_true,Option.bind_some]
   exact k2
 obtain ⟨i,h,i0,i1,e1⟩:=H n 0 0 h0 (by omega) (by omega) (by omega)
 exact ⟨i,h,i0,i1,Ev.bind e0 e1⟩
end Go.Proofs.Ytcggfjpnfodbaaa.M
end
section
/- Drawn surfaces. No conditions. -/
namespace Go.Proofs.Ytcggfjpnfodbaaa.M
set_option linter.unusedVariables false
set_option linter.unusedSimpArgs false
open Go.RowKit Go.Proofs.YtcggfjpnfodbaaaW.PrintWords Go.Proofs.YtcggfjpnfodbaaaW.PrintLast Go.Proofs.YtcggfjpnfodbaaaW.PrintMore Go.Proofs.Ytcggfjpnfodbaaa.A
theorem perm_draw (b:List Int) (hb:b.length≤1000000000) (n:Nat) (hn:n≤100) (i h:Int) (hi:0≤i) (hl:i≤b.length):∃ l i' h',l.length = n∧0≤i'∧i'≤(b.length:Int)∧Ev (fun k=>Z57.f k b i h (n:Int)) (l,i',h'):=by
 unfold Z57.f
 have H:∀ (d j:Nat) (l:List Int) (i h:Int),j + d = n→l.length = j→0≤i→i≤(b.length:Int)→∃ l' i' h',l'.length = n∧0≤i'∧i'≤(b.length:Int)∧Ev (fun k=>Z57.l0 k (n:Int) l (j:Int) b i h) (l',i',h'):=by
  intro d
  induction d with
  | zero =>
   intro j l i h hj hl i0 i1
   obtain rfl:j = n:=by omega
   refine ⟨l,i,h,hl,i0,i1,ev_succ ?_⟩
   have c1:¬ ((j:Int) < (j:Int)):=by omega
   simp only [Z57.l0,c1,if_false]
   exact Ev.now _
  | succ d ih =>
   intro j l i h hj hl i0 i1
   obtain ⟨x,i',h',e,x0,x1,j0,j1⟩:=below_draw b i h ((j + 1:Nat):Int) i0 i1 hb (by omega) (by omega)
   have hlen:(l ++ [(j:Int)]).length = j + 1:=by simp [hl]
   obtain ⟨l2,i2,h2,k0,k1,k2,k3⟩:=ih (j + 1) (((l ++ [(j:Int)]).set ((j:Int)).toNat (rd (l ++ [(j:Int)]) x)).set x.toNat (j:Int)) i' h' (by omega) (by rw [List.length_set,List.length_set,hlen]) j0 j1
   refine ⟨l2,i2,h2,k0,k1,k2,ev_succ ?_⟩
   have c1:(j:Int) < (n:Int):=by omega
   have c2:l.length < 17592186044416:=by omega
   have c4:x < ((l ++ [(j:Int)]).length:Int):=by rw [hlen];exact x1
   have c5:(0:Int)≤(j:Int):=by omega
   have c6:(j:Int) < ((l ++ [(j:Int)]).length:Int):=by rw [hlen];omega
   have c3:=w64s j (by omega)
   simp only [Z57.l0,c1,c2,c3,e,x0,c4,c5,c6,if_true,Option.bind_some]
   exact k3
 exact H n 0 [] i h (by omega) rfl hi hl
end Go.Proofs.Ytcggfjpnfodbaaa.M
end
section
/- What words keep: the program's answers. No conditions. -/
namespace Go.Proofs.Ytcggfjpnfodbaaa.M
set_option linter.unusedVariables false
set_option linter.unusedSimpArgs false
open Go.RowKit Go.Proofs.YtcggfjpnfodbaaaW.PrintWords Go.Proofs.YtcggfjpnfodbaaaW.PrintLast Go.Proofs.YtcggfjpnfodbaaaW.PrintMore Go.Proofs.Ytcggfjpnfodbaaa.A
def angL (s:List Nat × List Nat):List Nat:=sortD ((cycles (arnd s.1 s.2)).map List.length)
structure Alike (s t:List Nat × List Nat):Prop where
 sf:Sf t.1 t.2
 len:t.1.length = s.1.length
 sym:symN t = symN s
 turn:ledN t (neg t) 0 = ledN s (neg s) 0
 ang:angL t = angL s
theorem size_42 (s:ByteArray):s.data.toList.length = s.size:=Array.length_toList
theorem bt_l42 (s:ByteArray) (j:Nat):bt s (j:Int) = (((s.data.toList)[j]?.getD 0).toNat:Int):=by
 unfold bt
 have e:((j:Int)).toNat = j:=by omega
 have hs:=size_42 s
 by_cases h:j < s.size
 ·rw [dif_pos (by rw [e];exact h)]
  have h':j < s.data.toList.length:=by rw [hs];exact h
  rw [List.getElem?_eq_getElem h',Option.getD_some]
  congr 1
 ·rw [dif_neg (by rw [e];exact h),List.getElem?_eq_none (by rw [hs];omega)]
  rfl
theorem bt_app (x y:ByteArray) (j:Nat):bt (x ++ y) (j:Int) = if j < x.size then bt x (j:Int) else bt y ((j - x.size:Nat):Int):=by
 rw [bt_l42,bt_l42,bt_l42,ByteArray.data_append,Array.toList_append,List.getElem?_append,size_42]
 split <;> rfl
theorem word_draw (b:List Int) (hb:b.length≤1000000000) (i h:Int) (hi:0≤i) (hl:i≤b.length):∃ w i' h',wordB w = true∧w.size≤6∧Ev (fun k=>Z62.f k b i h 6) (w,i',h'):=by
 have H:∀ (d:Nat) (w:ByteArray) (i h:Int),w.size + d≤6→(∀ j,j < w.size→letB (bt w (j:Int)) = true)→0≤i→i≤(b.length:Int)→∃ w' i' h',wordB w' = true∧w'.size≤6∧Ev (fun k=>Z62.l0 k w (d:Int) b i h) (w',i',h'):=by
  intro d
  induction d with
  | zero =>
   intro w i h hw hj i0 i1
   refine ⟨w,i,h,?_,by omega,ev_succ ?_⟩
   ·unfold wordB
    exact decide_eq_true ⟨hj,by omega⟩
   ·have c1:¬ (((0:Nat):Int) > 0):=by omega
    simp only [Z62.l0,c1,if_false]
    exact Ev.now _
  | succ d ih =>
   intro w i h hw hj i0 i1
   obtain ⟨x,i',h',e,x0,x1,j0,j1⟩:=below_draw b i h 5 i0 i1 hb (by omega) (by omega)
   obtain ⟨n,rfl⟩:∃ n:Nat,x = n:=⟨x.toNat,by omega⟩
   have hn:n < 5:=by omega
   have e2:∃ c:ByteArray,c.size = 1∧letB (bt c (0:Nat)) = true∧rdOf ByteArray.empty ([(⟨#[84]⟩:ByteArray),(⟨#[83]⟩:ByteArray),(⟨#[116]⟩:ByteArray),(⟨#[115]⟩:ByteArray),(⟨#[84]⟩:ByteArray)]) (n:Int) = c:=by
    match n,hn with
    | 0,_=>exact ⟨⟨#[84]⟩,rfl,by decide +kernel,rfl⟩
    | 1,_=>exact ⟨⟨#[83]⟩,rfl,by decide +kernel,rfl⟩
    | 2,_=>exact ⟨⟨#[116]⟩,rfl,by decide +kernel,rfl⟩
    | 3,_=>exact ⟨⟨#[115]⟩,rfl,by decide +kernel,rfl⟩
    | 4,_=>exact ⟨⟨#[84]⟩,rfl,by decide +kernel,rfl⟩
   obtain ⟨c,c1,c2,c3⟩:=e2
   have hsz:(w ++ c).size = w.size + 1:=by rw [ByteArray.size_append,c1]
   obtain ⟨w',i2,h2,k0,k1,k2⟩:=ih (w ++ c) i' h' (by rw [hsz];omega) (fun j hjl=>by
    rw [hsz] at hjl
    rw [bt_app]
    by_cases hjw:j < w.size
    ·rw [if_pos hjw];exact hj j hjw
    ·rw [if_neg hjw]
     obtain rfl:j = w.size:=by omega
     rw [Nat.sub_self]
     exact c2) j0 j1
   refine ⟨w',i2,h2,k0,k1,ev_succ ?_⟩
   have c4:((d + 1:Nat):Int) > 0:=by omega
   have c5:w.size + c.size≤9223372036854775807:=by omega
   have c6:wrap64 (((d + 1:Nat):Int) - 1) = (d:Int):=by rw [w64 (by omega) (by omega)];omega
   have e3:Z68.f b i h ([(⟨#[84]⟩:ByteArray),(⟨#[83]⟩:ByteArray),(⟨#[116]⟩:ByteArray),(⟨#[115]⟩:ByteArray),(⟨#[84]⟩:ByteArray)]) = some (c,i',h'):=by
    unfold Z68.f
    have e':Z44.f b i h (([(⟨#[84]⟩:ByteArray),(⟨#[83]⟩:ByteArray),(⟨#[116]⟩:ByteArray),(⟨#[115]⟩:ByteArray),(⟨#[84]⟩:ByteArray)]:List ByteArray).length:Int) = some ((n:Int),i',h'):=e
    rw [e']
    have q1:(n:Int) < (([(⟨#[84]⟩:ByteArray),(⟨#[83]⟩:ByteArray),(⟨#[116]⟩:ByteArray),(⟨#[115]⟩:ByteArray),(⟨#[84]⟩:ByteArray)]:List ByteArray).length:Int):=by show (n:Int) < ((5:Nat):Int);omega
    rw [Option.bind_some]
    show (if 0≤(n:Int) then (if (n:Int) < _ then _ else none) else none) = _
    rw [if_pos x0,if_pos q1,c3]
   simp only [Z62.l0,c4,e3,c5,c6,if_true,Option.bind_some]
   exact k2
 obtain ⟨x,i',h',e,x0,x1,j0,j1⟩:=below_draw b i h 7 hi hl hb (by omega) (by omega)
 obtain ⟨n,rfl⟩:∃ n:Nat,x = n:=⟨x.toNat,by omega⟩
 obtain ⟨w,i2,h2,k0,k1,k2⟩:=H n ⟨#[]⟩ i' h' (by show 0 + n≤6;omega) (fun j hj=>absurd hj (by show ¬ j < 0;omega)) j0 j1
 refine ⟨w,i2,h2,k0,k1,?_⟩
 unfold Z62.f
 have e7:wrap64 ((6:Int) + 1) = 7:=by decide +kernel
 rw [e7,e]
 simp only [Option.bind_some]
 exact k2
theorem makeWord_ev (b:List Int) (hb:b.length≤1000000000) (n:Nat) (hn:n≤1000):∃ w,wordB w = true∧w.size≤6∧Ev (fun k=>Z42.f k b (n:Int)) w:=by
 obtain ⟨i,h,i0,i1,e⟩:=skip_draw b hb n hn
 obtain ⟨w,i',h',w1,w2,w3⟩:=word_draw b hb i h i0 i1
 refine ⟨w,w1,w2,?_⟩
 unfold Z42.f
 exact Ev.bind e (Ev.bind w3 (Ev.now _))
end Go.Proofs.Ytcggfjpnfodbaaa.M
end
section
/- The surfaces of a stratum: the program and the reference find the same ones. No conditions. -/
namespace Go.Proofs.Ytcggfjpnfodbaaa.M
set_option linter.unusedVariables false
set_option linter.unusedSimpArgs false
open Go.RowKit Go.Proofs.YtcggfjpnfodbaaaW.PrintWords Go.Proofs.YtcggfjpnfodbaaaW.PrintLast Go.Proofs.YtcggfjpnfodbaaaW.PrintMore Go.Proofs.Ytcggfjpnfodbaaa.A
def tabN:Nat→List (List Nat × List Nat)
 | 1=>[([0],[0])]
 | 2=>[([0,1],[1,0]),([1,0],[0,1]),([1,0],[1,0])]
 | 3=>[([0,1,2],[1,2,0]),([0,2,1],[1,0,2]),([0,2,1],[1,2,0]),([1,2,0],[0,1,2]),([1,2,0],[0,2,1]),([1,2,0],[1,2,0]),([1,2,0],[2,0,1])]
 | 4=>[([0,1,2,3],[1,2,3,0]),([0,1,3,2],[1,2,0,3]),([0,1,3,2],[1,2,3,0]),([0,2,1,3],[1,0,3,2]),([0,2,1,3],[1,3,0,2]),([0,2,3,1],[1,0,2,3]),([0,2,3,1],[1,0,3,2]),([0,2,3,1],[1,2,0,3]),([0,2,3,1],[1,2,3,0]),([0,2,3,1],[1,3,0,2]),([0,2,3,1],[1,3,2,0]),([1,0,3,2],[0,2,1,3]),([1,0,3,2],[0,2,3,1]),([1,0,3,2],[1,2,3,0]),([1,0,3,2],[2,3,0,1]),([1,0,3,2],[2,3,1,0]),([1,2,3,0],[0,1,2,3]),([1,2,3,0],[0,1,3,2]),([1,2,3,0],[0,2,3,1]),([1,2,3,0],[0,3,1,2]),([1,2,3,0],[0,3,2,1]),([1,2,3,0],[1,0,3,2]),([1,2,3,0],[1,2,3,0]),([1,2,3,0],[1,3,0,2]),([1,2,3,0],[2,3,0,1]),([1,3,0,2],[2,0,3,1])]
 | _=>[]
theorem surf_tab3:surfN 1 = tabN 1∧surfN 2 = tabN 2∧surfN 3 = tabN 3:=by decide +kernel
theorem surf_tab4:surfN 4 = tabN 4:=by decide +kernel
theorem surf_tab {n:Nat} (h1:1≤n) (h4:n≤4):surfN n = tabN n:=by
 rcases four_cases h1 h4 with rfl | rfl | rfl | rfl
 ·exact surf_tab3.1
 ·exact surf_tab3.2.1
 ·exact surf_tab3.2.2
 ·exact surf_tab4
theorem tab_ok:∀ n:Fin 5,(tabN n.val).length≤26∧∀ s ∈ tabN n.val,surfB (I s.1) (I s.2) = true:=by decide +kernel
theorem tabN_ok {n:Nat} (h4:n≤4):(tabN n).length≤26∧∀ s ∈ tabN n,Sf s.1 s.2:=by
 obtain ⟨a,b⟩:=tab_ok ⟨n,by omega⟩
 exact ⟨a,fun s hs=>surfB_I.1 (b s hs)⟩
end Go.Proofs.Ytcggfjpnfodbaaa.M
end
section
/- The lists hold together. No conditions. -/
namespace Go.Proofs.Ytcggfjpnfodbaaa.M
set_option linter.unusedVariables false
set_option linter.unusedSimpArgs false
open Go.RowKit Go.Proofs.YtcggfjpnfodbaaaW.PrintWords Go.Proofs.YtcggfjpnfodbaaaW.PrintLast Go.Proofs.YtcggfjpnfodbaaaW.PrintMore Go.Proofs.Ytcggfjpnfodbaaa.A
theorem num_draw (b:List Int) (hb:b.length≤1000000000) (n:Nat) (hn:n≤1000):∃ x:Nat,x≤65535∧Ev (fun k=>Z55.f k b (n:Int)) (x:Int):=by
 obtain ⟨i,h,i0,i1,e⟩:=skip_draw b hb n hn
 obtain ⟨x,i2,h2,e2,x0,x1,j0,j1⟩:=byte_draw b i h i0 i1 hb
 obtain ⟨y,i3,h3,e3,y0,y1,_,_⟩:=byte_draw b i2 h2 j0 j1 hb
 have e4:wrap64 (wrap64 (x * 256) + y) = (((x * 256 + y).toNat:Nat):Int):=by
  rw [w64 (x:=x * 256) (by omega) (by omega),w64 (by omega) (by omega)]
  omega
 refine ⟨(x * 256 + y).toNat,by omega,?_⟩
 unfold Z55.f
 refine Ev.bind e ?_
 simp only [e2,e3,Option.bind_some,e4]
 exact Ev.now _
theorem perm_mem {p:List Nat} (hp:IsP p) (h1:1≤p.length) (h4:p.length≤4):p ∈ permN p.length:=by
 have key:∀ a b c d:Fin 4,(IsP [a.val]→[a.val] ∈ permN 1)∧(IsP [a.val,b.val]→[a.val,b.val] ∈ permN 2)∧(IsP [a.val,b.val,c.val]→[a.val,b.val,c.val] ∈ permN 3)∧(IsP [a.val,b.val,c.val,d.val]→[a.val,b.val,c.val,d.val] ∈ permN 4):=by decide +kernel
 match p,hp,h1,h4 with
 | [a],hp,_,_ =>
  have ha:=hp.lt a (by simp)
  simp at ha
  exact (key ⟨a,by omega⟩ 0 0 0).1 hp
 | [a,b],hp,_,_ =>
  have ha:=hp.lt a (by simp)
  have hb:=hp.lt b (by simp)
  simp at ha hb
  exact (key ⟨a,by omega⟩ ⟨b,by omega⟩ 0 0).2.1 hp
 | [a,b,c],hp,_,_ =>
  have ha:=hp.lt a (by simp)
  have hb:=hp.lt b (by simp)
  have hc:=hp.lt c (by simp)
  simp at ha hb hc
  exact (key ⟨a,by omega⟩ ⟨b,by omega⟩ ⟨c,by omega⟩ 0).2.2.1 hp
 | [a,b,c,d],hp,_,_ =>
  have ha:=hp.lt a (by simp)
  have hb:=hp.lt b (by simp)
  have hc:=hp.lt c (by simp)
  have hd:=hp.lt d (by simp)
  simp at ha hb hc hd
  exact (key ⟨a,by omega⟩ ⟨b,by omega⟩ ⟨c,by omega⟩ ⟨d,by omega⟩).2.2.2 hp
theorem canS_mem {p q:List Nat} (h:Sf p q) (h4:p.length≤4):canS p q ∈ tabN p.length:=by
 have h1:1≤p.length:=h.pos
 have hq:q.length = p.length:=h.eq
 rw [← surf_tab h1 h4]
 unfold surfN
 refine (mem_insAll _ _ _).2 (.inr (List.mem_flatMap.2 ⟨p,perm_mem h.pr h1 h4,List.mem_flatMap.2 ⟨q,?_,?_⟩⟩))
 ·have:=perm_mem h.pu (by omega) (by omega)
  rwa [hq] at this
 ·rw [pr_yes (surfB_I.2 h)]
  simp
theorem can_tab:∀ n:Fin 5,∀ s ∈ tabN n.val,canS s.1 s.2 = s:=by decide +kernel
end Go.Proofs.Ytcggfjpnfodbaaa.M
end
section
/- Orbits of surfaces with few squares. No conditions. -/
namespace Go.Proofs.Ytcggfjpnfodbaaa.M
set_option linter.unusedVariables false
set_option linter.unusedSimpArgs false
open Go.RowKit Go.Proofs.YtcggfjpnfodbaaaW.PrintWords Go.Proofs.YtcggfjpnfodbaaaW.PrintLast Go.Proofs.YtcggfjpnfodbaaaW.PrintMore Go.Proofs.Ytcggfjpnfodbaaa.A
def orbC (c:List Nat × List Nat):Option PO:=lpP 121 ⟨[c],[⟨#[]⟩],[-1],[0],[],[]⟩ 0
def okO (n:Nat) (c:List Nat × List Nat):Bool :=
 match orbC c with
 | none=>false
 | some o=>decide (o.L.length≤26) && decide (o.L.Nodup) && decide (c ∈ o.L) && o.L.all (fun x=>decide (x ∈ tabN n) && decide (nxt 84 x ∈ o.L) && decide (nxt 116 x ∈ o.L) && decide (nxt 83 x ∈ o.L) && decide (nxt 115 x ∈ o.L)) && (List.range o.L.length).all (fun i=>wordB (atW o.W i) && decide (canS (rn (atW o.W i) c (atW o.W i).size).1 (rn (atW o.W i) c (atW o.W i).size).2 = atL o.L i))
theorem okO_tab3:∀ n:Fin 4,∀ c ∈ tabN n.val,okO n.val c = true:=by decide +kernel
theorem okO_tab4a:∀ c ∈ (tabN 4).take 9,okO 4 c = true:=by decide +kernel
theorem okO_tab4b:∀ c ∈ ((tabN 4).drop 9).take 9,okO 4 c = true:=by decide +kernel
theorem okO_tab4c:∀ c ∈ ((tabN 4).drop 9).drop 9,okO 4 c = true:=by decide +kernel
theorem okO_tab4:∀ c ∈ tabN 4,okO 4 c = true:=by
 intro c hc
 rw [← List.take_append_drop 9 (tabN 4),List.mem_append] at hc
 rcases hc with hc | hc
 ·exact okO_tab4a c hc
 ·rw [← List.take_append_drop 9 ((tabN 4).drop 9),List.mem_append] at hc
  rcases hc with hc | hc
  ·exact okO_tab4b c hc
  ·exact okO_tab4c c hc
structure Orbt (n:Nat) (c:List Nat × List Nat) (o:PO):Prop where
 eq:orbC c = some o
 le:o.L.length≤26
 nd:o.L.Nodup
 self:c ∈ o.L
 tab:∀ x ∈ o.L,x ∈ tabN n
 cl:∀ x ∈ o.L,∀ l:Int,nxt l x ∈ o.L
 wd:∀ i,i < o.L.length→wordB (atW o.W i) = true∧canS (rn (atW o.W i) c (atW o.W i).size).1 (rn (atW o.W i) c (atW o.W i).size).2 = atL o.L i
theorem orbt_ok {n:Nat} (h4:n≤4) {c:List Nat × List Nat} (hc:c ∈ tabN n):∃ o,Orbt n c o:=by
 have h:okO n c = true:=by
  rcases Nat.lt_or_ge n 4 with h | h
  ·exact okO_tab3 ⟨n,h⟩ c hc
  ·obtain rfl:n = 4:=by omega
   exact okO_tab4 c hc
 unfold okO at h
 cases e:orbC c with
 | none=>rw [e] at h;cases h
 | some o =>
  rw [e] at h
  simp only [Bool.and_eq_true,decide_eq_true_eq,List.all_eq_true,List.mem_range] at h
  obtain ⟨⟨⟨⟨h1,h2⟩,h3⟩,h5⟩,h6⟩:=h
  refine ⟨o,e,h1,h2,h3,fun x hx=>(h5 x hx).1.1.1.1,?_,h6⟩
  intro x hx l
  obtain ⟨⟨⟨⟨_,a1⟩,a2⟩,a3⟩,a4⟩:=h5 x hx
  unfold nxt lt at *
  by_cases l1:l = 84
  ·subst l1;exact a1
  ·by_cases l2:l = 116
   ·subst l2;exact a2
   ·by_cases l3:l = 83
    ·subst l3;exact a3
    ·rw [if_neg l1,if_neg l2,if_neg l3]
     exact a4
theorem can_lt {x y:List Nat × List Nat} (hx:Sf x.1 x.2) (hy:Sf y.1 y.2) (h:canS x.1 x.2 = canS y.1 y.2) (c:Int):canS (lt c x).1 (lt c x).2 = canS (lt c y).1 (lt c y).2:=by
 obtain ⟨f,a⟩:=(canS_iff hx hy).1 h
 exact canS_of_is (sf_lt hx c).1 (sf_lt hy c).1 (is_lt hx hy a c)
theorem can_rn {x y:List Nat × List Nat} (hx:Sf x.1 x.2) (hy:Sf y.1 y.2) (h:canS x.1 x.2 = canS y.1 y.2) (w:ByteArray):∀ j,canS (rn w x j).1 (rn w x j).2 = canS (rn w y j).1 (rn w y j).2
 | 0=>h
 | j + 1=>can_lt (sf_rn hx w j).1 (sf_rn hy w j).1 (can_rn hx hy h w j) _
theorem can_in {n:Nat} {c:List Nat × List Nat} {o:PO} (h:Orbt n c o) (h4:n≤4) {x:List Nat × List Nat} (hx:Sf x.1 x.2) (hm:canS x.1 x.2 ∈ o.L) (w:ByteArray):∀ j,canS (rn w x j).1 (rn w x j).2 ∈ o.L
 | 0=>hm
 | j + 1=>by
  have ih:=can_in h h4 hx hm w j
  have h1:=(sf_rn hx w j).1
  have h2:=(tabN_ok h4).2 _ (h.tab _ ih)
  have h3:=h.cl _ ih (bt w (j:Int))
  unfold nxt at h3
  rw [← can_lt h1 h2 (by rw [can_tab ⟨n,by omega⟩ _ (h.tab _ ih)]) _] at h3
  exact h3
theorem orb_sub {n:Nat} {c:List Nat × List Nat} {o:PO} (h:Orbt n c o) (h4:n≤4) {x:List Nat × List Nat} {p:PO} (hp:Orbt n x p) (hx:x ∈ o.L):p.L ⊆ o.L:=by
 intro y hy
 obtain ⟨i,hi,rfl⟩:=List.getElem_of_mem hy
 have h1:=(hp.wd i hi).2
 have ht:=h.tab _ hx
 have h2:=can_in h h4 ((tabN_ok h4).2 _ ht) (by rw [can_tab ⟨n,by omega⟩ _ ht];exact hx) (atW p.W i) (atW p.W i).size
 rw [h1,atL_get hi] at h2
 exact h2
theorem can_back {n:Nat} {c:List Nat × List Nat} {o:PO} (h:Orbt n c o) (h4:n≤4) {x:List Nat × List Nat} (hx:Sf x.1 x.2) (w:ByteArray):∀ j,canS (rn w x j).1 (rn w x j).2 ∈ o.L→canS x.1 x.2 ∈ o.L
 | 0=>fun hm=>hm
 | j + 1=>fun hm=>by
  refine can_back h h4 hx w j ?_
  have h1:=(sf_rn hx w j).1
  have hm':canS (lt (bt w (j:Int)) (rn w x j)).1 (lt (bt w (j:Int)) (rn w x j)).2 ∈ o.L:=hm
  generalize rn w x j = z at h1 hm'
  generalize bt w (j:Int) = l at hm'
  obtain ⟨d,hd⟩:∃ d,lt d (lt l z) = z:=by
   rcases lt_four l with h | h | h | h
   ·exact ⟨116,by rw [h z];exact undo_T h1⟩
   ·exact ⟨84,by rw [h z];exact undo_t h1⟩
   ·exact ⟨115,by rw [h z];exact undo_S h1⟩
   ·exact ⟨83,by rw [h z];exact undo_s h1⟩
  have h2:=(tabN_ok h4).2 _ (h.tab _ hm')
  have h3:=h.cl _ hm' d
  unfold nxt at h3
  rw [← can_lt (sf_lt h1 l).1 h2 (by rw [can_tab ⟨n,by omega⟩ _ (h.tab _ hm')]) d,hd] at h3
  exact h3
theorem orb_len {n:Nat} {c:List Nat × List Nat} {o:PO} (h:Orbt n c o) (h4:n≤4) (hc:c ∈ tabN n) {x:List Nat × List Nat} {p:PO} (hp:Orbt n x p) (hx:x ∈ o.L):c ∈ p.L∧p.L.length = o.L.length:=by
 have s1:=orb_sub h h4 hp hx
 have hcp:c ∈ p.L:=by
  obtain ⟨i,hi,rfl⟩:=List.getElem_of_mem hx
  have h1:=(h.wd i hi).2
  rw [atL_get hi] at h1
  have:=can_back hp h4 ((tabN_ok h4).2 _ hc) (atW o.W i) (atW o.W i).size (by rw [h1];exact hp.self)
  rwa [can_tab ⟨n,by omega⟩ _ hc] at this
 have s2:=orb_sub hp h4 h hcp
 exact ⟨hcp,((List.perm_ext_iff_of_nodup hp.nd h.nd).2 (fun y=>⟨fun hy=>s1 hy,fun hy=>s2 hy⟩)).length_eq⟩
def fewS:Option (List Int × List Int × Bool)→Bool
 | some z=>surfB z.1 z.2.1 && decide (z.1.length≤4)
 | none=>false
theorem fewS_ok:∀ {z:Option (List Int × List Int × Bool)},fewS z = true→∃ r u b,z = some (I r,I u,b)∧Sf r u∧r.length≤4
 | some (x,y,b),h=>by
  have h':surfB x y = true∧decide (x.length≤4) = true:=by simpa [fewS] using h
  obtain ⟨r,u,e1,e2,hs⟩:=surf_nat h'.1
  have h2:x.length≤4:=of_decide_eq_true h'.2
  refine ⟨r,u,b,by rw [e1,e2],hs,?_⟩
  rw [e1,I_len] at h2
  exact h2
theorem ell_few:∀ a:Fin 5,1≤a.val→fewS (Z71.f 400 (a.val:Int) 1) = true:=by decide +kernel
theorem few_draw (b:List Int) (hb:b.length≤1000000000) (i h:Int) (hi:0≤i) (hl:i≤b.length):∃ r u i' h',(Sf r u∧r.length≤4)∧Ev (fun k=>Z59.f k b i h 4) (I r,I u,i',h'):=by
 obtain ⟨x,i1,h1',e,x0,x1,j0,j1⟩:=below_draw b i h 4 hi hl hb (by omega) (by omega)
 unfold Z59.f
 obtain ⟨n,hn⟩:∃ n:Nat,wrap64 (1 + x) = (n:Int)∧1≤n∧n≤4:=⟨(1 + x).toNat,by rw [w64 (by omega) (by omega)];omega,by omega,by omega⟩
 obtain ⟨hn,n1,n5⟩:=hn
 simp only [e,Option.bind_some,hn]
 clear e hn
 have H:∀ (d t:Nat) (i h:Int),t + d = 8→0≤i→i≤(b.length:Int)→∃ r u i' h',(Sf r u∧r.length≤4)∧Ev (fun k=>Z59.l0 k (n:Int) (t:Int) b i h) (I r,I u,i',h'):=by
  intro d
  induction d with
  | zero =>
   intro t i h ht i0 i1
   obtain rfl:t = 8:=by omega
   obtain ⟨r,u,c,e,hs,hl⟩:=fewS_ok (ell_few ⟨n,by omega⟩ n1)
   refine ⟨r,u,i,h,⟨hs,hl⟩,ev_succ ?_⟩
   have c1:¬ (((8:Nat):Int) < 8):=by omega
   simp only [Z59.l0,c1,if_false]
   exact Ev.bind (Ev.of (fun k=>Z71.mono _ _ _) e) (Ev.now _)
  | succ d ih =>
   intro t i h ht i0 i1
   obtain ⟨p,i2,h2,pl,j0,j1,e1⟩:=perm_draw b hb n (by omega) i h i0 i1
   obtain ⟨q,i3,h3,ql,k0,k1,e2⟩:=perm_draw b hb n (by omega) i2 h2 j0 j1
   have c1:(t:Int) < 8:=by omega
   have c2:=w64s t (by omega)
   by_cases hs:surfB p q = true
   ·have hs':=hs
    obtain ⟨r,u,rfl,rfl,hsf⟩:=surf_nat hs
    rw [I_len] at pl
    refine ⟨r,u,i3,h3,⟨hsf,by omega⟩,ev_succ ?_⟩
    simp only [Z59.l0,c1,if_true]
    refine Ev.bind e1 (Ev.bind e2 (Ev.bind (spec_surf _ _) ?_))
    simp only [hs',if_true]
    exact Ev.now _
   ·obtain ⟨r,u,i4,h4,hh,e4⟩:=ih (t + 1) i3 h3 (by omega) k0 k1
    refine ⟨r,u,i4,h4,hh,ev_succ ?_⟩
    simp only [Z59.l0,c1,c2,if_true]
    refine Ev.bind e1 (Ev.bind e2 (Ev.bind (spec_surf _ _) ?_))
    simp only [hs,if_false]
    exact e4
 exact H 8 0 _ _ (by omega) j0 j1
theorem few_ev (b:List Int) (hb:b.length≤1000000000):∃ r u,Sf r u∧r.length≤4∧Ev (fun k=>Z54.f k b) (I r,I u):=by
 obtain ⟨h,e⟩:=new_draw b hb
 obtain ⟨r,u,i',h',⟨hs,hl⟩,e2⟩:=few_draw b hb 0 h (by omega) (by omega)
 refine ⟨r,u,hs,hl,?_⟩
 unfold Z54.f
 exact Ev.bind e (Ev.bind e2 (Ev.now _))
end Go.Proofs.Ytcggfjpnfodbaaa.M
end
section
/- Orbits of surfaces with few squares: what the program answers. No conditions. -/
namespace Go.Proofs.Ytcggfjpnfodbaaa.M
set_option linter.unusedVariables false
set_option linter.unusedSimpArgs false
open Go.RowKit Go.Proofs.YtcggfjpnfodbaaaW.PrintWords Go.Proofs.YtcggfjpnfodbaaaW.PrintLast Go.Proofs.YtcggfjpnfodbaaaW.PrintMore Go.Proofs.Ytcggfjpnfodbaaa.A
theorem orbR_few {r u:List Nat} (hs:Sf r u) {o:PO} (h:orbC (canS r u) = some o):orbR (I r) (I u) = some o:=by
 rw [orbR_I (a:=(r,u)) hs]
 exact h
theorem word_few {r u:List Nat} (hs:Sf r u) {o:PO} (h:Orbt r.length (canS r u) o) (h4:r.length≤4) {i:Nat} (hi:i < o.L.length):Ev (fun k=>Z27.f k (I r) (I u) (I (atL o.L i).1) (I (atL o.L i).2)) (atW o.W i,true):=by
 have ho:=orbR_ev (I r) (I u)
 have hr:=orbR_few hs h.eq
 rw [hr] at ho
 obtain ⟨hg,_⟩:=orbR_good hr
 have hm:=atL_mem hi
 have ht:=h.tab _ hm
 have hsf:=(tabN_ok h4).2 _ ht
 have hc:=impl_canon hsf
 rw [can_tab ⟨r.length,by omega⟩ _ ht] at hc
 unfold Z27.f
 refine Ev.bind ho (Ev.bind hc ?_)
 have hx:=oidx_ev hg.sf (by have:=h.le;omega) (atL o.L i)
 have e1:fi o.L (atL o.L i) = (i:Int):=by
  unfold fi
  rw [if_pos hm,atL_get hi,h.nd.idxOf_getElem]
 rw [e1] at hx
 simp only [Option.map_some,if_true]
 refine Ev.bind hx ?_
 have d1:¬ ((i:Int) < 0):=by omega
 have d2:(i:Int) < (o.orb.W.length:Int):=by
  show (i:Int) < (o.W.length:Int)
  rw [hg.lw];omega
 have hw:=(h.wd i hi).1
 have d3:¬ (((rdOf ByteArray.empty o.orb.W (i:Int)).size:Int) > 40):=by
  have:=(of_decide_eq_true hw).2
  show ¬ (((atW o.W i).size:Int) > 40)
  omega
 simp only [d1,d2,d3,if_true,if_false]
 exact Ev.now _
theorem same_few {r u:List Nat} (hs:Sf r u) {o:PO} (h:Orbt r.length (canS r u) o) (h4:r.length≤4) {z:List Nat × List Nat} (hz:Sf z.1 z.2) (hm:canS z.1 z.2 ∈ o.L):Ev (fun k=>Z28.f k (I r) (I u) (I z.1) (I z.2)) true:=by
 have ho:=orbR_ev (I r) (I u)
 have hr:=orbR_few hs h.eq
 rw [hr] at ho
 obtain ⟨hg,_⟩:=orbR_good hr
 unfold Z28.f
 refine Ev.bind ho (Ev.bind (impl_canon hz) ?_)
 have hx:=oidx_ev hg.sf (by have:=h.le;omega) (canS z.1 z.2)
 simp only [Option.map_some,if_true]
 refine Ev.bind hx ?_
 have e1:decide (0≤fi o.L (canS z.1 z.2)) = true:=by
  refine decide_eq_true ?_
  have:=mt fi_neg.1 (not_not_intro hm)
  omega
 rw [e1]
 exact Ev.now _
theorem l1_orbits {L:List (List Nat × List Nat)} (hl:L.length≤26) (hnd:L.Nodup) (hs:∀ x ∈ L,x.1.length≤24∧x.2.length≤24) {i:Nat} (hi:i < L.length) (hR:Ev (fun k=>Z41.l0 k (L.map oS) (L.map oS) ((L.map oS).length:Int) (wrap64 ((i:Int) + 1))) true):∀ d j:Nat,j + d = i →
  Ev (fun k=>Z41.l1 k (L.map oS) (L.map oS) ((L.map oS).length:Int) (i:Int) ((L.take i).map oS) (((L.take i).map oS).length:Int) (j:Int) (I (atL L i).1) (I (atL L i).2)) true:=by
 have hti:(L.take i).length = i:=by rw [List.length_take];omega
 have hlen:(((L.take i).map oS).length:Int) = (i:Int):=by rw [List.length_map,hti]
 intro d
 induction d with
 | zero =>
  intro j hj
  refine ev_succ ?_
  have d1:¬ ((j:Int) < (((L.take i).map oS).length:Int)):=by rw [hlen];omega
  simp only [Z41.l1,d1,if_false]
  exact hR
 | succ d ih =>
  intro j hj
  have hji:j < i:=by omega
  refine ev_succ ?_
  have d1:((j:Int) < (((L.take i).map oS).length:Int)):=by rw [hlen];omega
  have d2:(0:Int)≤(j:Int):=by omega
  have d3:=w64s j (by omega)
  have e0:atL (L.take i) j = atL L j:=by
   rw [atL_get (by rw [hti];exact hji),atL_get (by omega),List.getElem_take]
  have d4:rd_T25 ((L.take i).map oS) (j:Int) = ⟨I (atL L j).1,I (atL L j).2⟩:=by
   rw [rd_oS (by rw [hti];exact hji),e0];rfl
  have hne:¬ (atL L i = atL L j):=by
   rw [atL_get hi,atL_get (by omega)]
   intro e
   exact List.pairwise_iff_getElem.1 hnd j i (by omega) hi hji e.symm
  have hsi:=hs _ (atL_mem hi)
  simp only [Z41.l1,d1,d2,d4,if_true]
  refine Ev.bind (impl_same (atL L i) (atL L j) (by omega) (by omega)) ?_
  simp only [hne,decide_false,Bool.false_eq_true,if_false,d3]
  exact ih (j + 1) (by omega)
theorem l0_orbits {L:List (List Nat × List Nat)} (hl:L.length≤26) (hnd:L.Nodup) (hs:∀ x ∈ L,x.1.length≤24∧x.2.length≤24):∀ d i:Nat,i + d = L.length→Ev (fun k=>Z41.l0 k (L.map oS) (L.map oS) ((L.map oS).length:Int) (i:Int)) true:=by
 have hlen:((L.map oS).length:Int) = (L.length:Int):=by rw [List.length_map]
 intro d
 induction d with
 | zero =>
  intro i hi
  refine ev_succ ?_
  have d1:¬ ((i:Int) < ((L.map oS).length:Int)):=by rw [hlen];omega
  simp only [Z41.l0,d1,if_false]
  exact Ev.now _
 | succ d ih =>
  intro i hi
  have hil:i < L.length:=by omega
  refine ev_succ ?_
  have d1:((i:Int) < ((L.map oS).length:Int)):=by rw [hlen];omega
  have d2:(0:Int)≤(i:Int):=by omega
  have d3:=w64s i (by omega)
  have d5:((i:Int)≤((L.map oS).length:Int)):=by rw [hlen];omega
  have d4:rd_T25 (L.map oS) (i:Int) = ⟨I (atL L i).1,I (atL L i).2⟩:=by rw [rd_oS hil];rfl
  have e1:(L.map oS).take i = (L.take i).map oS:=(List.map_take ..).symm
  have key:=l1_orbits hl hnd hs hil (by rw [d3];exact ih (i + 1) (by omega)) i 0 (by omega)
  simp only [Z41.l0,d1,d2,d4,d5,if_true,Option.bind_some,Int.toNat_natCast,e1]
  exact key
end Go.Proofs.Ytcggfjpnfodbaaa.M
end
section
/- The orbit as a list: the program and the reference agree. No conditions. -/
namespace Go.Proofs.Ytcggfjpnfodbaaa.M
set_option linter.unusedSimpArgs false
open Go.RowKit Go.Proofs.YtcggfjpnfodbaaaW.PrintWords Go.Proofs.YtcggfjpnfodbaaaW.PrintLast Go.Proofs.YtcggfjpnfodbaaaW.PrintMore Go.Proofs.Ytcggfjpnfodbaaa.A
theorem implOrb_ev (r u:List Int):Ev (fun k=>Z52.f k r u) (outL (orbR r u)):=by
 unfold Z52.f
 refine Ev.bind (orbR_ev r u) ?_
 cases orbR r u with
 | none=>exact Ev.now _
 | some s=>exact Ev.now _
end Go.Proofs.Ytcggfjpnfodbaaa.M
end
section
/- The law of orbits and their words answers true. No conditions. -/
namespace Go.Proofs.Ytcggfjpnfodbaaa.Pure
set_option linter.unusedVariables false
set_option linter.unusedSimpArgs false
set_option linter.unusedVariables false
set_option linter.unusedSimpArgs false
open Go.RowKit Go.Proofs.YtcggfjpnfodbaaaW.PrintWords Go.Proofs.YtcggfjpnfodbaaaW.PrintLast Go.Proofs.YtcggfjpnfodbaaaW.PrintMore Go.Proofs.Ytcggfjpnfodbaaa.A Go.Proofs.Ytcggfjpnfodbaaa.M
theorem FnOrbits (b:List Int) (hb:b.length≤maxLen) (_:∀ x ∈ b,(Lit.int .u8 x).wf = true):∃ k,Z41.f k b = some true:=by
 refine Ev.rounds ?_
 unfold Z41.f
 by_cases h:(b.length:Int) > 1048576
 ·simp only [h,if_true]
  exact Ev.now _
 ·simp only [h,if_false]
  obtain ⟨r,u,hs,h4,e1⟩:=few_ev b (by omega)
  refine Ev.bind e1 ?_
  have hct:=canS_mem hs h4
  obtain ⟨o,ho⟩:=orbt_ok h4 hct
  have hr:=orbR_few hs ho.eq
  have e2:=implOrb_ev (I r) (I u)
  have e3:=implIdx_ev (I r) (I u)
  rw [hr] at e2 e3
  have e2':Ev (fun k=>Z52.f k (I r) (I u)) (o.L.map oS,true):=e2
  have e3':Ev (fun k=>Z51.f k (I r) (I u)) (o.L.length:Int):=e3
  clear e2 e3
  have hpos:0 < o.L.length:=List.length_pos_of_mem ho.self
  have hle:=ho.le
  have hlen:((o.L.map oS).length:Int) = (o.L.length:Int):=by rw [List.length_map]
  refine Ev.bind e2' ?_
  have q1:¬ ((o.L.length:Int) = 0):=by omega
  simp only [if_true,hlen,q1,if_false]
  refine Ev.bind e3' ?_
  have q2:((o.L.length:Int) != (o.L.length:Int)) = false:=by simp
  simp only [q2]
  refine ev_succ ?_
  simp only [Z41.j0,Bool.false_eq_true,if_false]
  obtain ⟨x,hx,e4⟩:=num_draw b (by omega) 40 (by omega)
  refine Ev.bind e4 ?_
  have hj:Int.tmod (x:Int) (o.L.length:Int) = ((x % o.L.length:Nat):Int):=Int.tmod_eq_emod_of_nonneg (by omega)
  have hi:x % o.L.length < o.L.length:=Nat.mod_lt _ hpos
  simp only [hlen,q1,if_false,hj]
  generalize x % o.L.length = i at hi
  have q3:(0:Int)≤(i:Int):=by omega
  have q4:(i:Int) < (o.L.length:Int):=by omega
  have q5:rd_T25 (o.L.map oS) (i:Int) = ⟨I (atL o.L i).1,I (atL o.L i).2⟩:=by rw [rd_oS hi];rfl
  have hm:=atL_mem hi
  have ht:=ho.tab _ hm
  have hsf:=(tabN_ok h4).2 _ ht
  have hcan:canS (atL o.L i).1 (atL o.L i).2 = atL o.L i:=can_tab ⟨r.length,by omega⟩ _ ht
  obtain ⟨hwb,hwc⟩:=ho.wd i hi
  have hcs:Sf (canS r u).1 (canS r u).2:=(tabN_ok h4).2 _ hct
  have hcc:canS (canS r u).1 (canS r u).2 = canS r u:=can_tab ⟨r.length,by omega⟩ _ hct
  obtain ⟨w2,hw2,hw6,e5⟩:=makeWord_ev b (by omega) 50 (by omega)
  simp only [q3,q4,q5,if_true]
  refine Ev.bind (word_few hs ho h4 hi) ?_
  have hsz:=(of_decide_eq_true hwb).2
  have e6:=impl_run (I r) (I u) (atW o.W i) (by omega)
  rw [runP_yes (s:=(r,u)) hs hwb] at e6
  refine Ev.bind e6 (Ev.bind e5 ?_)
  have e7:=impl_run (I r) (I u) w2 (by omega)
  rw [runP_yes (s:=(r,u)) hs hw2] at e7
  have e8:=impl_canon hsf
  rw [hcan] at e8
  refine Ev.bind e7 (Ev.bind e8 ?_)
  have hy:=(sf_rn (s:=(r,u)) hs (atW o.W i) (atW o.W i).size).1
  have hz:=(sf_rn (s:=(r,u)) hs w2 w2.size)
  have hyc:canS (rn (atW o.W i) (r,u) (atW o.W i).size).1 (rn (atW o.W i) (r,u) (atW o.W i).size).2 = canS (atL o.L i).1 (atL o.L i).2:=by
   rw [hcan,← hwc]
   exact can_rn (x:=(r,u)) hs hcs hcc.symm _ _
  have hzc:canS (rn w2 (r,u) w2.size).1 (rn w2 (r,u) w2.size).2 ∈ o.L:=can_in ho h4 (x:=(r,u)) hs ho.self w2 w2.size
  simp only [if_true]
  have e9:=(iso_both hy hsf).2
  rw [decide_eq_true hyc] at e9
  refine Ev.bind e9 ?_
  simp only [if_true]
  have hl1:=hsf.le
  have hl2:=hsf.eq
  have e10:=impl_same (atL o.L i) (atL o.L i) (by omega) (by omega)
  rw [decide_eq_true rfl] at e10
  refine Ev.bind e10 ?_
  simp only [if_true]
  refine Ev.bind (same_few hs ho h4 hz.1 hzc) ?_
  simp only [if_true]
  generalize rn w2 (r,u) w2.size = z at hz hzc
  have hzl:z.1.length = r.length:=hz.2
  obtain ⟨p,hp⟩:=orbt_ok (n:=r.length) h4 (ho.tab _ hzc)
  have hp':Orbt z.1.length (canS z.1 z.2) p:=by rw [hzl];exact hp
  refine Ev.bind (same_few (r:=z.1) (u:=z.2) hz.1 hp' (by omega) (z:=(r,u)) hs (orb_len ho h4 hct hp hzc).1) ?_
  simp only [if_true]
  obtain ⟨p2,hp2⟩:=orbt_ok (n:=r.length) h4 ht
  have e11:=implIdx_ev (I (atL o.L i).1) (I (atL o.L i).2)
  rw [orbR_few hsf (by rw [hcan];exact hp2.eq)] at e11
  have e11':Ev (fun k=>Z51.f k (I (atL o.L i).1) (I (atL o.L i).2)) (p2.L.length:Int):=e11
  rw [(orb_len ho h4 hct hp2 hm).2] at e11'
  refine Ev.bind e11' ?_
  simp only [q2]
  refine ev_succ ?_
  simp only [Z41.j1,Bool.false_eq_true,if_false]
  exact l0_orbits hle ho.nd (fun x hx=>by
   have h1:=(tabN_ok h4).2 _ (ho.tab _ hx)
   have h2:=h1.le
   have h3:=h1.eq
   omega) o.L.length 0 (Nat.zero_add _)
end Go.Proofs.Ytcggfjpnfodbaaa.Pure
end
