/- Lemmas for the row FnExactSurfacesIn: the program's functions told as plain functions, and plain mathematics. No conditions. -/
import Derived.Ground.SlsfProg
import Derived.Shelf.SlSortCmp.NoneTotal
import Derived.Test.YtoijcallajegfaaGreatProg
import Derived.Test.YtoijcallajegfaaGreatQFnExactSurfacesIn3
section
/- Plain mathematics: surfaces, and what the four letters make of them. No conditions. -/
namespace Go.Proofs.YtoijcallajegfaaGreat.M
set_option linter.unusedVariables false
set_option linter.unusedSimpArgs false
theorem st1_mem {out : List Nat} {x y : Nat} : y ∈ st1 out x ↔ y ∈ out ∨ y = x := by
 unfold st1
 split
 ·rename_i h
  constructor
  ·exact Or.inl
  ·rintro (h' | rfl)
   ·exact h'
   ·exact h
 ·simp
theorem st1_g {out : List Nat} {x i : Nat} (h : i < out.length) : g (st1 out x) i = g out i := by
 unfold st1
 split
 ·rfl
 ·unfold g
  rw [List.getD_eq_getElem?_getD, List.getD_eq_getElem?_getD, List.getElem?_append_left h]
theorem st1_le (out : List Nat) (x : Nat) : out.length ≤ (st1 out x).length := by
 unfold st1
 split
 ·exact Nat.le_refl _
 ·simp
theorem bfs_ind {r u : List Nat} {n : Nat} (S : Nat → Prop) (h1 : ∀ x, x < n → S x → S (g r x) ∧ g r x < n) (h2 : ∀ x, x < n → S x → S (g u x) ∧ g u x < n) : ∀ (F a : Nat) (out : List Nat), (∀ x ∈ out, S x ∧ x < n) → ∀ x ∈ bfs r u F a out, S x ∧ x < n := by
 intro F
 induction F with
 | zero => intro a out h; exact h
 | succ F ih =>
  intro a out h
  unfold bfs
  split
  ·rename_i ha
   obtain ⟨s, l⟩ := h _ (g_mem ha)
   refine ih _ _ (fun x hx => ?_)
   rcases st1_mem.mp hx with hx | rfl
   ·rcases st1_mem.mp hx with hx | rfl
    ·exact h x hx
    ·exact h1 _ l s
   ·exact h2 _ l s
  ·exact h
theorem bfs_sub {r u : List Nat} : ∀ (F a : Nat) (out : List Nat), ∀ x ∈ out, x ∈ bfs r u F a out := by
 intro F
 induction F with
 | zero => intro a out x h; exact h
 | succ F ih =>
  intro a out x h
  unfold bfs
  split
  ·exact ih _ _ x (st1_mem.mpr (.inl (st1_mem.mpr (.inl h))))
  ·exact h
theorem bfs_rinv {r u : List Nat} {n : Nat} (h1 : ∀ x, x < n → g r x < n) (h2 : ∀ x, x < n → g u x < n) : ∀ (F a : Nat) (out : List Nat), RInv n out → RInv n (bfs r u F a out) := by
 intro F
 induction F with
 | zero => intro a out h; exact h
 | succ F ih =>
  intro a out h
  unfold bfs
  split
  ·rename_i ha
   have hx := h.g ha
   exact ih _ _ ((h.st (h1 _ hx)).st (h2 _ hx))
  ·exact h
theorem bfs_shut {r u : List Nat} {n : Nat} (h1 : ∀ x, x < n → g r x < n) (h2 : ∀ x, x < n → g u x < n) : ∀ (F a : Nat) (out : List Nat), RInv n out → a ≤ out.length → n < F + a → (∀ i, i < a → g r (g out i) ∈ out ∧ g u (g out i) ∈ out) → ∀ x ∈ bfs r u F a out, g r x ∈ bfs r u F a out ∧ g u x ∈ bfs r u F a out := by
 intro F
 induction F with
 | zero =>
  intro a out h ha hF
  have := h.le
  omega
 | succ F ih =>
  intro a out h ha hF hc
  unfold bfs
  split
  ·rename_i ha'
   have hx := h.g ha'
   have r1 := h.st (h1 _ hx)
   have l1 := st1_le out (g r (g out a))
   have l2 := st1_le (st1 out (g r (g out a))) (g u (g out a))
   refine ih _ _ (r1.st (h2 _ hx)) (by omega) (by omega) (fun i hi => ?_)
   have e : g (st1 (st1 out (g r (g out a))) (g u (g out a))) i = g out i := by
    rw [st1_g (by omega), st1_g (by omega)]
   rw [e]
   by_cases hia : i < a
   ·exact ⟨st1_mem.mpr (.inl (st1_mem.mpr (.inl (hc i hia).1))), st1_mem.mpr (.inl (st1_mem.mpr (.inl (hc i hia).2)))⟩
   ·obtain rfl : i = a := by omega
    exact ⟨st1_mem.mpr (.inl (st1_mem.mpr (.inr rfl))), st1_mem.mpr (.inr rfl)⟩
  ·intro x hx
   obtain ⟨i, hi, rfl⟩ := mem_g hx
   exact hc i (by omega)
theorem nodup_sub_len5 : ∀ (a b : List Nat), a.Nodup → (∀ x ∈ a, x ∈ b) → a.length ≤ b.length := by
 intro a
 induction a with
 | nil => intro b _ _; simp
 | cons x a ih =>
  intro b hn h
  obtain ⟨h1, h2⟩ := List.nodup_cons.mp hn
  have hx : x ∈ b := h x (by simp)
  have := ih (b.erase x) h2 (fun y hy => (List.mem_erase_of_ne (fun e => h1 (by rw [← e]; exact hy))).mpr (h y (by simp [hy])))
  rw [List.length_erase_of_mem hx] at this
  have hp := List.length_pos_of_mem hx
  simp
  omega
def Tr (r u : List Nat) : Prop := ∀ S : Nat → Prop, S 0 → (∀ x, x < r.length → S x → S (g r x)) → (∀ x, x < r.length → S x → S (g u x)) → ∀ x, x < r.length → S x
theorem sf_of_tr {r u : List Nat} (pr : IsP r) (pu : IsP u) (le : r.length ≤ 24) (eq : u.length = r.length) (pos : 0 < r.length) (h : Tr r u) : Sf r u := by
 have b1 : ∀ x, x < r.length → g r x < r.length := fun x hx => g_lt pr hx
 have b2 : ∀ x, x < r.length → g u x < r.length := fun x hx => by have := g_lt pu (i := x) (by omega); omega
 have hri : RInv r.length (reach r u 0) := bfs_rinv b1 b2 _ _ _ ⟨by simp, by simpa using pos⟩
 have hsh := bfs_shut b1 b2 (r.length + 1) 0 [0] ⟨by simp, by simpa using pos⟩ (by simp) (by omega) (fun i hi => by omega)
 have hall : ∀ x, x < r.length → x ∈ reach r u 0 := h (fun x => x ∈ reach r u 0) (bfs_sub _ _ _ 0 (by simp)) (fun x _ hx => (hsh x hx).1) (fun x _ hx => (hsh x hx).2)
 refine ⟨pr, pu, le, eq, pos, ?_⟩
 have l1 := hri.le
 have l2 := nodup_sub_len5 (List.range r.length) (reach r u 0) List.nodup_range (fun x hx => hall x (List.mem_range.mp hx))
 rw [List.length_range] at l2
 omega
theorem Sf.tr {r u : List Nat} (hs : Sf r u) : Tr r u := by
 intro S s0 h1 h2 x hx
 have b1 : ∀ x, x < r.length → g r x < r.length := fun x hx => g_lt hs.pr hx
 have b2 : ∀ x, x < r.length → g u x < r.length := fun x hx => by have := g_lt hs.pu (i := x) (by rw [hs.eq]; exact hx); rw [hs.eq] at this; exact this
 have hri : RInv r.length (reach r u 0) := bfs_rinv b1 b2 _ _ _ ⟨by simp, by simpa using hs.pos⟩
 have hp : IsP (reach r u 0) := ⟨fun x hx => by rw [hs.all]; exact hri.lt x hx, hri.nd⟩
 have hm := mem_all hp (x := x) (by rw [hs.all]; exact hx)
 have h0 : ∀ y ∈ [0], S y ∧ y < r.length := by
  intro y hy
  obtain rfl : y = 0 := by simpa using hy
  exact ⟨s0, hs.pos⟩
 exact (bfs_ind S (fun x hx h => ⟨h1 x hx h, b1 x hx⟩) (fun x hx h => ⟨h2 x hx h, b2 x hx⟩) _ _ [0] h0 x hm).1
theorem closed_back {p : List Nat} (hp : IsP p) {S : Nat → Prop} (hS : ∀ x, x < p.length → S x → S (g p x)) {x : Nat} (hx : x < p.length) (h : S (g p x)) : S x := by
 obtain ⟨m, h1, _, h3⟩ := period hp hx
 have H : ∀ k, S (itr p k (g p x)) := by
  intro k
  induction k with
  | zero => exact h
  | succ k ih => exact hS _ (itr_lt hp k (g_lt hp hx)) ih
 have e : itr p (m - 1) (g p x) = itr p m x := by
  have := itr_add p (m - 1) 1 x
  rw [show m - 1 + 1 = m by omega] at this
  exact this.symm
 have := H (m - 1)
 rw [e, h3] at this
 exact this
theorem reach_full {r u : List Nat} (hs : Sf r u) {s : Nat} (hb : s < r.length) : RInv r.length (reach r u s) ∧ ∀ x, x < r.length → x ∈ reach r u s := by
 have b1 : ∀ x, x < r.length → g r x < r.length := fun x hx => g_lt hs.pr hx
 have b2 : ∀ x, x < r.length → g u x < r.length := fun x hx => by have := g_lt hs.pu (i := x) (by rw [hs.eq]; exact hx); rw [hs.eq] at this; exact this
 have h0 : RInv r.length [s] := ⟨by simp, by simpa using hb⟩
 have hsh := bfs_shut b1 b2 (r.length + 1) 0 [s] h0 (by simp) (by omega) (fun i hi => by omega)
 have hmem : s ∈ reach r u s := bfs_sub _ _ _ s (by simp)
 refine ⟨bfs_rinv b1 b2 _ _ _ h0, ?_⟩
 have z : (0 : Nat) ∈ reach r u s := by
  apply Classical.byContradiction
  intro hz
  refine hs.tr (fun x => x ∉ reach r u s) hz (fun x hx hn hm => ?_) (fun x hx hn hm => ?_) s hb hmem
  ·exact hn (closed_back hs.pr (S := fun x => x ∈ reach r u s) (fun y _ hy => (hsh y hy).1) hx hm)
  ·exact hn (closed_back hs.pu (S := fun x => x ∈ reach r u s) (fun y _ hy => (hsh y hy).2) (by rw [hs.eq]; exact hx) hm)
 exact hs.tr (fun x => x ∈ reach r u s) z (fun x _ hx => (hsh x hx).1) (fun x _ hx => (hsh x hx).2)
end Go.Proofs.YtoijcallajegfaaGreat.M
end
section
/- The tests of permutations, program and reference, come to one plain test. No conditions. -/
namespace Go.Proofs.YtoijcallajegfaaGreat.M
set_option linter.unusedVariables false
set_option linter.unusedSimpArgs false
open Go.RowKit Go.Proofs.YtoijcallajegfaaGreatW.PrintWords Go.Proofs.YtoijcallajegfaaGreatW.PrintLast Go.Proofs.YtoijcallajegfaaGreatW.PrintMore Go.Proofs.YtoijcallajegfaaGreat.A
theorem has_ev (l : List Int) (a : Int) (hl : l.length ≤ 1000000000) : Ev (fun k => Z65.f k l a) (decide (a ∈ l)) := by
 have H : ∀ d i : Nat, i + d = l.length → Ev (fun k => Z65.l0 k a l (l.length : Int) (i : Int)) (decide (a ∈ l.drop i)) := by
  intro d
  induction d with
  | zero =>
   intro i h
   refine ev_succ ?_
   have h1 : ¬ ((i : Int) < (l.length : Int)) := by omega
   have e : decide (a ∈ l.drop i) = false := by
    rw [List.drop_of_length_le (by omega)]
    simp
   simp only [Z65.l0, h1, if_false]
   rw [e]
   exact Ev.now _
  | succ d ih =>
   intro i h
   refine ev_succ ?_
   have hi : i < l.length := by omega
   have h1 : (i : Int) < (l.length : Int) := by omega
   have h2 : (0 : Int) ≤ (i : Int) := by omega
   have h3 := w64s i (by omega)
   have e := List.drop_eq_getElem_cons hi
   rw [← rd_get l i hi] at e
   by_cases hr : rd l (i : Int) = a
   ·have e2 : decide (a ∈ l.drop i) = true := by rw [e, hr]; simp
    simp only [Z65.l0, h1, h2, hr, if_true]
    rw [e2]
    exact Ev.now _
   ·have e2 : decide (a ∈ l.drop i) = decide (a ∈ l.drop (i + 1)) := by
     rw [e]
     have : ¬ a = rd l (i : Int) := fun h => hr h.symm
     simp [this]
    simp only [Z65.l0, h1, h2, h3, hr, if_true, if_false]
    rw [e2]
    exact ih (i + 1) (by omega)
 have := H l.length 0 (by omega)
 simpa [Z65.f] using this
theorem in_f (x : Int) (n : Nat) (hn : n ≤ 24) : Z66.f x 0 (wrap64 ((n : Int) - 1)) = some (decide (0 ≤ x ∧ x < (n : Int))) := by
 unfold Z66.f
 rw [w64 (by omega) (by omega)]
 by_cases h : x ≥ 0
 ·rw [if_pos h]
  congr 1
  rw [Bool.eq_iff_iff, decide_eq_true_iff, decide_eq_true_iff]
  omega
 ·rw [if_neg h]
  congr 1
  symm
  rw [decide_eq_false_iff_not]
  omega
theorem spec_permOk (l : List Int) : Ev (fun k => Z64.f k l) (permB l) := by
 unfold Z64.f
 by_cases h24 : (l.length : Int) > 24
 ·simp only [h24, if_true]
  have : permB l = false := by
   unfold permB
   rw [decide_eq_false_iff_not]
   intro h
   have := h.1
   omega
  rw [this]
  exact Ev.now _
 ·simp only [h24, if_false]
  have H : ∀ d i : Nat, i + d = l.length → ∃ b, Ev (fun k => Z64.l0 k l l (l.length : Int) (i : Int)) b ∧ (b = true ↔ okFrom l i) := by
   intro d
   induction d with
   | zero =>
    intro i h
    refine ⟨true, ev_succ ?_, by simp [okFrom_end l i (by omega)]⟩
    have h1 : ¬ ((i : Int) < (l.length : Int)) := by omega
    simp only [Z64.l0, h1, if_false]
    exact Ev.now _
   | succ d ih =>
    intro i h
    have hi : i < l.length := by omega
    have h1 : (i : Int) < (l.length : Int) := by omega
    have h1' : (i : Int) ≤ (l.length : Int) := by omega
    have h2 : (0 : Int) ≤ (i : Int) := by omega
    have h3 := w64s i (by omega)
    have hin := in_f (rd l (i : Int)) l.length (by omega)
    by_cases c1 : 0 ≤ rd l (i : Int) ∧ rd l (i : Int) < (l.length : Int)
    ·have hh := has_ev (l.take i) (rd l (i : Int)) (by rw [List.length_take]; omega)
     by_cases c2 : rd l (i : Int) ∈ l.take i
     ·refine ⟨false, ev_succ ?_, by simpa using okFrom_not hi (fun h => h.2.2 c2)⟩
      simp only [Z64.l0, h1, h1', h2, hin, c1, if_true, Option.bind_some, decide_true, Int.toNat_natCast, and_self]
      refine Ev.bind hh ?_
      simp only [c2, decide_true, if_true]
      exact Ev.now _
     ·obtain ⟨b, i1, i2⟩ := ih (i + 1) (by omega)
      refine ⟨b, ev_succ ?_, by rw [i2]; exact (okFrom_step ⟨c1.1, c1.2, c2⟩).symm⟩
      simp only [Z64.l0, h1, h1', h2, h3, hin, c1, if_true, Option.bind_some, decide_true, Int.toNat_natCast, and_self]
      refine Ev.bind hh ?_
      simp only [c2, decide_false, Bool.false_eq_true, if_false]
      exact i1
    ·refine ⟨false, ev_succ ?_, by simpa using okFrom_not hi (fun h => c1 ⟨h.1, h.2.1⟩)⟩
     simp only [Z64.l0, h1, h2, hin, c1, if_true, if_false, Option.bind_some, decide_false, Bool.false_eq_true]
     exact Ev.now _
  obtain ⟨b, i1, i2⟩ := H l.length 0 (by omega)
  rw [← permB_of (by omega) i2]
  exact i1
theorem rdOf_nat (s : List Bool) (x : Nat) : rdOf false s (x : Int) = s.getD x false := rfl
theorem getD_set (s : List Bool) (x y : Nat) (h : x < s.length) : (s.set x true).getD y false = if x = y then true else s.getD y false := by
 rw [List.getD_eq_getElem?_getD, List.getD_eq_getElem?_getD, List.getElem?_set]
 by_cases e : x = y
 ·subst e
  simp [h]
 ·simp [e]
theorem impl_permOk (l : List Int) : Ev (fun k => Z61.f k l) (permB l) := by
 unfold Z61.f
 by_cases h24 : (l.length : Int) > 24
 ·simp only [h24, if_true]
  have : permB l = false := by
   unfold permB
   rw [decide_eq_false_iff_not]
   intro h
   have := h.1
   omega
  rw [this]
  exact Ev.now _
 ·simp only [h24, if_false]
  have H : ∀ (d i : Nat) (s : List Bool), i + d = l.length → s.length = 24 → (∀ x : Nat, x < 24 → (s.getD x false = true ↔ (x : Int) ∈ l.take i)) → ∃ b, Ev (fun k => Z61.l0 k l s (i : Int)) b ∧ (b = true ↔ okFrom l i) := by
   intro d
   induction d with
   | zero =>
    intro i s h hs hx
    refine ⟨true, ev_succ ?_, by simp [okFrom_end l i (by omega)]⟩
    have h1 : ¬ ((i : Int) < (l.length : Int)) := by omega
    simp only [Z61.l0, h1, if_false]
    exact Ev.now _
   | succ d ih =>
    intro i s h hs hx
    have hi : i < l.length := by omega
    have h1 : (i : Int) < (l.length : Int) := by omega
    have h2 : (0 : Int) ≤ (i : Int) := by omega
    have h3 := w64s i (by omega)
    by_cases c1 : rd l (i : Int) < 0
    ·refine ⟨false, ev_succ ?_, by simpa using okFrom_not hi (fun h => by omega)⟩
     simp only [Z61.l0, h1, h2, c1, if_true]
     exact Ev.now _
    ·by_cases c2 : rd l (i : Int) ≥ (l.length : Int)
     ·refine ⟨false, ev_succ ?_, by simpa using okFrom_not hi (fun h => by omega)⟩
      simp only [Z61.l0, h1, h2, c1, c2, if_true, if_false]
      exact Ev.now _
     ·obtain ⟨x, ex⟩ : ∃ x : Nat, rd l (i : Int) = (x : Int) := ⟨(rd l (i : Int)).toNat, by omega⟩
      have hx24 : x < 24 := by omega
      by_cases c3 : s.getD x false = true
      ·have hm := (hx x hx24).mp c3
       refine ⟨false, ev_succ ?_, by simpa using okFrom_not hi (fun h => h.2.2 (by rw [ex]; exact hm))⟩
       rw [ex] at c1 c2
       simp only [Z61.l0, h1, h2, ex, c1, c2, rdOf_nat, c3, if_true, if_false]
       exact Ev.now _
      ·have hm : (x : Int) ∉ l.take i := fun h => c3 ((hx x hx24).mpr h)
       obtain ⟨b, i1, i2⟩ := ih (i + 1) (s.set x true) (by omega) (by rw [List.length_set]; exact hs) (fun y hy => by
        rw [getD_set s x y (by omega), take_succ l i hi, ex]
        by_cases e : x = y
        ·subst e
         simp
        ·rw [if_neg e, hx y hy]
         have : ¬ (y : Int) = (x : Int) := by omega
         simp [this])
       refine ⟨b, ev_succ ?_, by rw [i2]; exact (okFrom_step ⟨by omega, by omega, by rw [ex]; exact hm⟩).symm⟩
       rw [ex] at c1 c2
       simp only [Z61.l0, h1, h2, h3, ex, c1, c2, rdOf_nat, c3, if_true, if_false, Int.toNat_natCast]
       exact i1
  obtain ⟨b, i1, i2⟩ := H l.length 0 (List.replicate 24 false) (by omega) rfl (fun x hx => by
   have : (List.replicate 24 false).getD x false = false := by
    rw [List.getD_eq_getElem?_getD, List.getElem?_replicate]
    simp [hx]
   rw [this]
   simp)
  rw [← permB_of (by omega) i2]
  exact i1
end Go.Proofs.YtoijcallajegfaaGreat.M
end
section
/- The tests of surfaces, program and reference, come to one plain test. No conditions. -/
namespace Go.Proofs.YtoijcallajegfaaGreat.M
set_option linter.unusedVariables false
set_option linter.unusedSimpArgs false
open Go.RowKit Go.Proofs.YtoijcallajegfaaGreatW.PrintWords Go.Proofs.YtoijcallajegfaaGreatW.PrintLast Go.Proofs.YtoijcallajegfaaGreatW.PrintMore Go.Proofs.YtoijcallajegfaaGreat.A
theorem I_pair (a b : Nat) : ([(a : Int), (b : Int)] : List Int) = I [a, b] := rfl
theorem I_len' (l : List Nat) : ((I l).length : Int) = (l.length : Int) := by rw [I_len]
theorem st1_I (out : List Nat) (x : Nat) : I (st1 out x) = if (x : Int) ∈ I out then I out else I out ++ [(x : Int)] := by
 unfold st1
 by_cases h : x ∈ out
 ·rw [if_pos h, if_pos (mem_I.mpr h)]
 ·rw [if_neg h, if_neg (fun k => h (mem_I.mp k)), I_snoc]
theorem reach_one (p q out pr : List Nat) (a : Nat) (j : Nat) (hj : j < pr.length) (hp : pr.length ≤ 2) (hl : out.length ≤ 1000) (r : List Int)
  (H : Ev (fun k => Z53.l1 k (I p) (I q) (I (st1 out (g pr j))) (a : Int) (I pr) (pr.length : Int) ((j + 1 : Nat) : Int)) r) :
  Ev (fun k => Z53.l1 k (I p) (I q) (I out) (a : Int) (I pr) (pr.length : Int) (j : Int)) r := by
 refine ev_succ ?_
 have h1 : (j : Int) < (pr.length : Int) := by omega
 have h2 : (0 : Int) ≤ (j : Int) := by omega
 have h3 := w64s j (by omega)
 have h4 : (I out).length < 17592186044416 := by rw [I_len]; omega
 have hh := has_ev (I out) ((g pr j : Nat) : Int) (by rw [I_len]; omega)
 simp only [Z53.l1, h1, h2, h3, h4, rdI, I_len', if_true]
 refine Ev.bind hh ?_
 rw [st1_I] at H
 by_cases hm : ((g pr j : Nat) : Int) ∈ I out
 ·rw [if_pos hm] at H
  simp only [hm, decide_true, if_true]
  exact H
 ·rw [if_neg hm] at H
  simp only [hm, decide_false, Bool.false_eq_true, if_false]
  exact H
theorem reach_loop {p q : List Nat} (hp : IsP p) (hq : IsP q) (hl : q.length = p.length) (h24 : p.length ≤ 24) (f : Nat) : ∀ (a : Nat) (out : List Nat), RInv p.length out → a ≤ out.length → p.length < f + a →
  Ev (fun k => Z53.l0 k (I p) (I q) (I out) (a : Int)) (I (bfs p q f a out)) := by
 induction f with
 | zero =>
  intro a out hr ha hf
  have := hr.le
  omega
 | succ f ih =>
  intro a out hr ha hf
  have hle := hr.le
  refine ev_succ ?_
  by_cases h : a < out.length
  ·have h1 : (a : Int) < (out.length : Int) := by omega
   have h2 : (0 : Int) ≤ (a : Int) := by omega
   have hx := hr.g h
   have h3 : ((g out a : Nat) : Int) < (p.length : Int) := by omega
   have h4 : (0 : Int) ≤ ((g out a : Nat) : Int) := by omega
   have h5 : ((g out a : Nat) : Int) < (q.length : Int) := by omega
   have h6 := w64s a (by omega)
   simp only [Z53.l0, h1, h2, h3, h4, h5, rdI, I_len', if_true, Option.bind_some, I_pair]
   have r1 := hr.st (g_lt hp hx)
   have r2 := r1.st (x := g q (g out a)) (by have := g_lt hq (i := g out a) (by omega); omega)
   have hb : bfs p q (f + 1) a out = bfs p q f (a + 1) (st1 (st1 out (g p (g out a))) (g q (g out a))) := by
    rw [bfs, if_pos h]
   rw [hb]
   have i1 := ih (a + 1) _ r2 (by have := st1_len out (g p (g out a)); have := st1_len (st1 out (g p (g out a))) (g q (g out a)); omega) (by omega)
   refine reach_one p q out [g p (g out a), g q (g out a)] a 0 (by simp) (by simp) (by omega) _ ?_
   refine reach_one p q _ [g p (g out a), g q (g out a)] a 1 (by simp) (by simp) (by have := r1.le; simp only [g, List.getD_cons_zero] at this ⊢; omega) _ ?_
   refine ev_succ ?_
   have h7 : ¬ (((1 + 1 : Nat) : Int) < (([g p (g out a), g q (g out a)] : List Nat).length : Int)) := by simp
   simp only [Z53.l1, h7, h6, if_false]
   exact i1
  ·have h1 : ¬ ((a : Int) < (out.length : Int)) := by omega
   have hb : bfs p q (f + 1) a out = out := by rw [bfs, if_neg h]
   rw [hb]
   simp only [Z53.l0, h1, I_len', if_false]
   exact Ev.now _
theorem reach_ev {p q : List Nat} (hp : IsP p) (hq : IsP q) (hl : q.length = p.length) (h24 : p.length ≤ 24) (s : Nat) (hs : s < p.length) : Ev (fun k => Z53.f k (I p) (I q) (s : Int)) (I (reach p q s)) := by
 unfold Z53.f reach
 exact reach_loop hp hq hl h24 (p.length + 1) 0 [s] ⟨by simp, by simpa using hs⟩ (by simp) (by omega)
theorem len_ne_false {r u : List Int} (h : r.length ≠ u.length) : surfB r u = false := by
 unfold surfB
 simp [h]
theorem surfB_mk {r u : List Int} (h1 : permB r = true) (h2 : permB u = true) (h3 : r.length = u.length) (h4 : 0 < r.length) : surfB r u = ((reach (N r) (N u) 0).length == r.length) := by
 unfold surfB
 simp [h1, h2, h3, h4]
 intro _
 omega
theorem spec_trans (r u : List Int) : Ev (fun k => Z14.f k r u) (surfB r u) := by
 unfold Z14.f
 refine Ev.bind (spec_permOk r) ?_
 by_cases h1 : permB r = true
 ·simp only [h1, if_true]
  refine Ev.bind (spec_permOk u) ?_
  by_cases h2 : permB u = true
  ·simp only [h2, if_true]
   by_cases h3 : (r.length : Int) = (u.length : Int)
   ·have h3' : r.length = u.length := by omega
    by_cases h4 : (r.length : Int) > 0
    ·have h4' : 0 < r.length := by omega
     rw [surfB_mk h1 h2 h3' h4']
     obtain ⟨p, rfl, a1, a2⟩ := PI_nat (of_decide_eq_true h1)
     obtain ⟨q, rfl, b1, b2⟩ := PI_nat (of_decide_eq_true h2)
     rw [I_len, I_len] at h3'
     rw [I_len] at h4'
     have := reach_ev a1 b1 h3'.symm a2 0 h4'
     simp only [h3, h4, if_true]
     rw [h3] at h4
     simp only [h4, if_true]
     refine Ev.bind this ?_
     rw [N_I, N_I]
     have e : (((I (reach p q 0)).length : Int) == ((I q).length : Int)) = ((reach p q 0).length == (I p).length) := by
      rw [I_len, I_len, I_len, Bool.eq_iff_iff, beq_iff_eq, beq_iff_eq]
      omega
     rw [← h3] at e
     simp only [h3] at e
     rw [← e]
     exact Ev.now _
    ·simp only [h3, if_true]
     rw [h3] at h4
     simp only [h4, if_false]
     have : surfB r u = false := by
      unfold surfB
      have : ¬ 0 < r.length := by omega
      simp [this]
     rw [this]
     exact Ev.now _
   ·simp only [h3, if_false]
    rw [len_ne_false (by omega)]
    exact Ev.now _
  ·have h2' := Bool.eq_false_iff.mpr h2
   simp only [h2', Bool.false_eq_true, if_false]
   have : surfB r u = false := by unfold surfB; simp [h2']
   rw [this]
   exact Ev.now _
 ·have h1' := Bool.eq_false_iff.mpr h1
  simp only [h1', Bool.false_eq_true, if_false]
  have : surfB r u = false := by unfold surfB; simp [h1']
  rw [this]
  exact Ev.now _
theorem spec_surf (r u : List Int) : Ev (fun k => Z34.f k r u) (surfB r u) := by
 unfold Z34.f
 exact Ev.bind (spec_trans r u) (Ev.now _)
def Marks (n : Nat) (s : List Bool) (out : List Nat) : Prop := s.length = n ∧ ∀ x, x < n → (s.getD x false = true ↔ x ∈ out)
theorem Marks.add {n : Nat} {s : List Bool} {out : List Nat} {x : Nat} (h : Marks n s out) (hx : x < n) : Marks n (s.set x true) (out ++ [x]) := by
 refine ⟨by rw [List.length_set]; exact h.1, fun y hy => ?_⟩
 rw [getD_set s x y (by rw [h.1]; exact hx)]
 by_cases e : x = y
 ·subst e
  simp
 ·rw [if_neg e, h.2 y hy]
  have : ¬ y = x := fun k => e k.symm
  simp [this]
theorem trans_one (p q out pr : List Nat) (s : List Bool) (a : Nat) (j : Nat) (hj : j < pr.length) (hp : pr.length ≤ 2) (hl : out.length ≤ 1000) (hm : Marks p.length s out) (hx : g pr j < p.length) (r : Bool)
  (H : ∀ s', Marks p.length s' (st1 out (g pr j)) → Ev (fun k => Z9.l1 k (I p) (I q) s' (I (st1 out (g pr j))) (a : Int) (I pr) (pr.length : Int) ((j + 1 : Nat) : Int)) r) :
  Ev (fun k => Z9.l1 k (I p) (I q) s (I out) (a : Int) (I pr) (pr.length : Int) (j : Int)) r := by
 refine ev_succ ?_
 have h1 : (j : Int) < (pr.length : Int) := by omega
 have h2 : (0 : Int) ≤ (j : Int) := by omega
 have h3 := w64s j (by omega)
 have h4 : (I out).length < 17592186044416 := by rw [I_len]; omega
 have h5 : (0 : Int) ≤ ((g pr j : Nat) : Int) := by omega
 have h6 : ((g pr j : Nat) : Int) < (s.length : Int) := by rw [hm.1]; omega
 simp only [Z9.l1, h1, h2, h3, h4, h5, h6, rdI, I_len', rdOf_nat, if_true, Int.toNat_natCast]
 by_cases hin : g pr j ∈ out
 ·have hs := (hm.2 _ hx).mpr hin
  have e : st1 out (g pr j) = out := by unfold st1; rw [if_pos hin]
  have := H s (by rw [e]; exact hm)
  rw [e] at this
  simp only [hs, if_true]
  exact this
 ·have hs : s.getD (g pr j) false = false := Bool.eq_false_iff.mpr (fun h => hin ((hm.2 _ hx).mp h))
  have e : st1 out (g pr j) = out ++ [g pr j] := by unfold st1; rw [if_neg hin]
  have := H (s.set (g pr j) true) (by rw [e]; exact hm.add hx)
  rw [e, ← I_snoc] at this
  simp only [hs, Bool.false_eq_true, if_false]
  exact this
theorem trans_loop {p q : List Nat} (hp : IsP p) (hq : IsP q) (hl : q.length = p.length) (h24 : p.length ≤ 24) (f : Nat) : ∀ (a : Nat) (out : List Nat) (s : List Bool), RInv p.length out → Marks p.length s out → a ≤ out.length → p.length < f + a →
  Ev (fun k => Z9.l0 k (I p) (I q) s (I out) (a : Int)) ((bfs p q f a out).length == p.length) := by
 induction f with
 | zero =>
  intro a out s hr hm ha hf
  have := hr.le
  omega
 | succ f ih =>
  intro a out s hr hm ha hf
  have hle := hr.le
  refine ev_succ ?_
  by_cases h : a < out.length
  ·have h1 : (a : Int) < (out.length : Int) := by omega
   have h2 : (0 : Int) ≤ (a : Int) := by omega
   have hx := hr.g h
   have h3 : ((g out a : Nat) : Int) < (p.length : Int) := by omega
   have h4 : (0 : Int) ≤ ((g out a : Nat) : Int) := by omega
   have h5 : ((g out a : Nat) : Int) < (q.length : Int) := by omega
   have h6 := w64s a (by omega)
   simp only [Z9.l0, h1, h2, h3, h4, h5, rdI, I_len', if_true, Option.bind_some, I_pair]
   have hg1 := g_lt hp hx
   have hg2 : g q (g out a) < p.length := by have := g_lt hq (i := g out a) (by omega); omega
   have r1 := hr.st hg1
   have r2 := r1.st hg2
   have hb : bfs p q (f + 1) a out = bfs p q f (a + 1) (st1 (st1 out (g p (g out a))) (g q (g out a))) := by
    rw [bfs, if_pos h]
   rw [hb]
   refine trans_one p q out [g p (g out a), g q (g out a)] s a 0 (by simp) (by simp) (by omega) hm hg1 _ (fun s1 hm1 => ?_)
   refine trans_one p q _ [g p (g out a), g q (g out a)] s1 a 1 (by simp) (by simp) (by have := r1.le; simp only [g, List.getD_cons_zero] at this ⊢; omega) hm1 hg2 _ (fun s2 hm2 => ?_)
   refine ev_succ ?_
   have h7 : ¬ (((1 + 1 : Nat) : Int) < (([g p (g out a), g q (g out a)] : List Nat).length : Int)) := by simp
   simp only [Z9.l1, h7, h6, if_false]
   exact ih (a + 1) _ s2 r2 hm2 (Nat.le_trans (by omega : a + 1 ≤ out.length) (Nat.le_trans (st1_len _ _) (st1_len _ _))) (by omega)
  ·have h1 : ¬ ((a : Int) < (out.length : Int)) := by omega
   have hb : bfs p q (f + 1) a out = out := by rw [bfs, if_neg h]
   rw [hb]
   simp only [Z9.l0, h1, I_len', if_false]
   have e : ((out.length : Int) == (p.length : Int)) = (out.length == p.length) := by
    rw [Bool.eq_iff_iff, beq_iff_eq, beq_iff_eq]
    omega
   rw [e]
   exact Ev.now _
theorem j0_true (r u : List Int) : Ev (fun k => Z9.j0 k r u true) false := by
 refine ev_succ ?_
 simp only [Z9.j0, if_true]
 exact Ev.now _
theorem impl_trans (r u : List Int) : Ev (fun k => Z9.f k r u) (surfB r u) := by
 unfold Z9.f
 refine Ev.bind (impl_permOk r) ?_
 by_cases h1 : permB r = true
 ·simp only [h1, if_true]
  refine Ev.bind (impl_permOk u) ?_
  by_cases h2 : permB u = true
  ·simp only [h2, if_true]
   by_cases h3 : (r.length : Int) = (u.length : Int)
   ·have h3' : r.length = u.length := by omega
    simp only [h3, if_true]
    by_cases h4 : 0 < r.length
    ·rw [surfB_mk h1 h2 h3' h4]
     obtain ⟨p, rfl, a1, a2⟩ := PI_nat (of_decide_eq_true h1)
     obtain ⟨q, rfl, b1, b2⟩ := PI_nat (of_decide_eq_true h2)
     rw [I_len, I_len] at h3'
     rw [I_len] at h4
     refine ev_succ ?_
     have e0 : ((q.length : Int) == 0) = false := by rw [beq_eq_false_iff_ne]; omega
     have e1 : (0 : Int) ≤ (p.length : Int) := by omega
     have e2 : ((p.length : Int)).toNat ≤ 281474976710656 := by omega
     have e3 : (0 : Int) < ((List.replicate p.length false).length : Int) := by rw [List.length_replicate]; omega
     simp only [Z9.j0, e0, I_len', e1, e2, Bool.false_eq_true, if_true, if_false, Option.bind_some, Int.toNat_natCast, e3]
     simp only [Int.toNat_natCast] at e2
     simp only [e2, if_true]
     rw [N_I, N_I, I_len]
     refine trans_loop a1 b1 h3'.symm a2 (p.length + 1) 0 [0] _ ⟨by simp, by simpa using h4⟩ ?_ (by simp) (by omega)
     refine ⟨by simp, fun x hx => ?_⟩
     have : (0 : Int).toNat = 0 := rfl
     rw [this, getD_set _ 0 x (by simp; omega)]
     by_cases e : 0 = x
     ·subst e
      simp
     ·rw [if_neg e]
      have h0 : ¬ x = 0 := fun h => e h.symm
      have : (List.replicate p.length false).getD x false = false := by
       rw [List.getD_eq_getElem?_getD, List.getElem?_replicate]
       simp [hx]
      rw [this]
      simp [h0]
    ·have e0 : ((u.length : Int) == 0) = true := by rw [beq_iff_eq]; omega
     have : surfB r u = false := by unfold surfB; simp [h4]
     rw [this]
     simp only [e0]
     exact j0_true r u
   ·simp only [h3, if_false]
    rw [len_ne_false (by omega)]
    exact j0_true r u
  ·have h2' := Bool.eq_false_iff.mpr h2
   simp only [h2', Bool.false_eq_true, if_false]
   have : surfB r u = false := by unfold surfB; simp [h2']
   rw [this]
   exact j0_true r u
 ·have h1' := Bool.eq_false_iff.mpr h1
  simp only [h1', Bool.false_eq_true, if_false]
  have : surfB r u = false := by unfold surfB; simp [h1']
  rw [this]
  exact j0_true r u
theorem impl_surf (r u : List Int) : Ev (fun k => Z29.f k r u) (surfB r u) := by
 unfold Z29.f
 exact Ev.bind (impl_trans r u) (Ev.now _)
end Go.Proofs.YtoijcallajegfaaGreat.M
end
section
namespace Go.Proofs.YtoijcallajegfaaGreat.A
open Go.RowKit Go.Proofs.YtoijcallajegfaaGreatW.PrintWords Go.Proofs.YtoijcallajegfaaGreatW.PrintLast Go.Proofs.YtoijcallajegfaaGreatW.PrintMore
attribute [local go_sem] max2_int min2_int max_two min_two max_three min_three max_four min_four
set_option linter.unusedVariables false
set_option linter.unusedSimpArgs false
def Z16.l0 : Nat → List Int → List Int → Int → Int → Option (List Int)
 | 0, _, _, _, _ => none
 | k + 1, x3, x12, x13, x14 => if x14 < x13 then (if 0 ≤ x14 then (if x14 < (x12.length : Int) then (if 0 ≤ (rd x12 x14) then (if (rd x12 x14) < (x3.length : Int) then (Z16.l0 k (x3.set ((rd x12 x14) : Int).toNat x14) x12 x13 (wrap64 (x14 + 1))) else (none)) else (none)) else (none)) else (none)) else (some x3)
def Z16.f (k : Nat) (l0 : List Int) : Option (List Int) := (Z61.f k l0).bind fun t623 => (if t623 = true then (if 0 ≤ (l0.length : Int) then (if ((l0.length : Int) : Int).toNat ≤ 35184372088832 then (Z16.l0 k (List.replicate ((l0.length : Int) : Int).toNat 0) l0 (l0.length : Int) 0) else (none)) else (none)) else (some ([] : List Int)))
theorem Z16.mono_l : ∀ k, (∀ y0 y1 y2 y3, LeO (Z16.l0 k y0 y1 y2 y3) (Z16.l0 (k + 1) y0 y1 y2 y3))
 | 0 => fun _ _ _ _ r h => by simp [Z16.l0] at h
 | k + 1 => by
  have ih0 := Z16.mono_l k
  ·intro y0 y1 y2 y3
   unfold Z16.l0
   repeat' first|exact ih0 _ _ _ _|exact Z61.mono _ _|exact lo_|refine LeO.ite ?_ ?_|refine LeO.bind ?_ (fun _ => ?_)
theorem Z16.mono : ∀ a0 k, LeO (Z16.f k a0) (Z16.f (k + 1) a0) := by
 intro a0 k
 have ih0 := Z16.mono_l k
 unfold Z16.f
 repeat' first|exact ih0 _ _ _ _|exact Z61.mono _ _|exact lo_|refine LeO.ite ?_ ?_|refine LeO.bind ?_ (fun _ => ?_)
set_option maxHeartbeats 8000000 in
set_option maxRecDepth 100000 in
theorem Z16.calls (k : Nat) (A0 : Option Addr) (c0 : Nat) (l0 : List Int) (r : List Int) (w : World) (hr0 : Kd.C (Kd.int .i64) w A0 l0.length l0) (hc0 : l0.length ≤ c0) (h : Z16.f k l0 = some r) :
  Calls Tryz.prog 110 #[.slice A0 l0.length c0] w fun e w' => ∃ v0_ : Value, e = .returned (v0_) ∧ Kd.R (Kd.int .i64) 3 w' w.heap.size (fun _ => True) v0_ r ∧ Below w.heap.size w w' := by
 have HR0 := A_ hr0
 have HC0 := A_ hc0
 clear hr0 hc0
 have HB := A_ (Below.refl w.heap.size w)
 have H := h
 unfold Z16.f at H
 clear h
 obtain ⟨t623, A2, H⟩ := bi_ H
 by_cases c3 : t623 = true
 ·subst c3
  rw [if_pos rfl] at H
  have c4 := cp_ H
  replace H := ca_ H
  have c4b0 := eq_true c4
  have c4b1 := oC_ c4
  clear c4
  have c5 := cp_ H
  replace H := ca_ H
  have c5b0 := eq_true c5
  have c5b1 := oC_ c5
  clear c5
  obtain ⟨y624, hy624⟩ : ∃ y_ : List Int, y_ = (List.replicate ((l0.length : Int) : Int).toNat 0) := ⟨_, rfl⟩
  replace H : (Z16.l0 k y624 l0 (l0.length : Int) 0) = some r := by first | (rw [hy624]; exact H) | exact H
  have Ny624 := A_ hy624
  clear hy624
  have H' := A_ H
  clear H
  go_enter Tryz.func110, Tryz.ntmps110
  go_wp2_with (first | ((with_reducible refine gA_ (f := 98) rfl ?_); refine gL_ (some 7) Tryz.func98 #[.slice A0 l0.length c0] rfl qa_ ?_; (with_reducible refine (Z61.calls k _ _ l0 true _ (cc_ HR0) HC0.out A2.out).mono ?_); rintro e w6 ⟨rfl, hb⟩; refine ⟨_, rfl, ?_⟩; replace HB := b1_ hb; clear hb) | ((with_reducible refine gB_ (N := 11) rfl ?_); refine Kd.R_make (Kd.int .i64) _ 3 rfl (N := 11) rfl 27 _ _ rfl (l0.length : Int) rfl rfl Tryz.underlying27 (.int .i64 0) 8 info3 rfl (by decide) (by omega) 0 (ok := fun _ => True) (okp := fun _ => True) rfl (fun _ hk => hk) trivial (oB_ qe_) (Nat.le_trans (Nat.mul_le_mul_right _ (oB_ qe_ : (l0.length : Int).toNat ≤ 35184372088832)) (by omega)) (Below.refl _ _) (nA_ _) ?_; intro v625 w7 ho8 hb hg_ hnew_; clear hg_ hnew_; (first | rw [← Ny624.out] at ho8 | (simp only [Int.reduceToNat] at ho8; rw [← Ny624.out] at ho8)); have HO626 := rl_ w ho8; replace HB := b1_ hb; clear hb ho8))
  go_loopg [14] k (fun kq v14 w' => ∃ (x3_1 : List Int) (x14_1 : Int), v14 = .int .i64 x14_1 ∧ Aside0 (Z16.l0 kq x3_1 l0 (l0.length : Int) x14_1 = some r) ∧ Aside0 (kq ≤ k) ∧ Aside0 (Kd.R (Kd.int .i64) 3 w' w.heap.size (fun _ => True) v625 x3_1) ∧ Aside0 (Below w.heap.size w w'))
  case atStart => exact ⟨(y624), (0), qc_, H', ⟨nA_ _⟩, ⟨(rr_ HO626)⟩, ⟨hB_⟩⟩
  case round =>
   clear H'
   obtain ⟨x3_1, x14_1, rfl, HA, HK1, HO_3, HB⟩ := hrel
   cases gk with
   | zero => exact absurd HA.out (by simp [Z16.l0])
   | succ k1 =>
    have H := HA.out
    clear HA
    simp only [Z16.l0] at H
    by_cases c9 : x14_1 < (l0.length : Int)
    ·rw [if_pos c9] at H
     have c9b0 := oC_ c9
     clear c9
     have c10 := cp_ H
     replace H := ca_ H
     have c10b0 := oC_ c10
     clear c10
     have c11 := cp_ H
     replace H := ca_ H
     have c11b0 := oC_ c11
     clear c11
     have c12 := cp_ H
     replace H := ca_ H
     have c12b0 := oC_ c12
     clear c12
     have c13 := cp_ H
     replace H := ca_ H
     have c13b0 := oC_ c13
     clear c13
     obtain ⟨y628, hy628⟩ : ∃ y_ : List Int, y_ = (x3_1.set ((rd l0 x14_1) : Int).toNat x14_1) := ⟨_, rfl⟩
     replace H : (Z16.l0 k1 y628 l0 (l0.length : Int) (wrap64 (x14_1 + 1))) = some r := by first | (rw [hy628]; exact H) | exact H
     have Ny628 := A_ hy628
     clear hy628
     have H' := A_ H
     clear H
     have p627 : 0 ≤ (x14_1 : Int) := oB_ qe_
     have q627 : x14_1 < (l0.length : Int) := oB_ qe_
     obtain ⟨ad627, e627, hx627_0⟩ := Kd.at_int HR0.out x14_1 p627 q627
     cases e627
     replace hx627_0 := (HB.out.cell (World.block_lt_of_cell? w _ hx627_0)).trans hx627_0
     replace p627 := eq_true p627
     replace q627 := eq_true q627
     have p14 : 0 ≤ ((rd l0 x14_1) : Int) := oB_ qe_
     have q14 : ((rd l0 x14_1) : Int) < ((x3_1.length : Int) : Int) := oB_ qe_
     obtain ⟨go14, co14, eo14, gb14, gl14, cl14, HG14⟩ := Kd.R_form HO_3.out (by omega)
     (first | cases eo14 | (injection eo14 with ea_ en_ ec_; (first | subst ea_ | (injection ea_ with ea_; subst ea_)); subst ec_; clear en_))
     have GB14 := A_ gb14
     have GG14 := A_ HG14
     clear gb14 gl14 HG14
     obtain ⟨hx14_0, hf14_0⟩ := Kd.R_celln 0 HO_3.out ((rd l0 x14_1) : Int) p14 q14
     replace p14 := eq_true p14
     replace q14 := eq_true q14
     have HP15 := Kd.R_putg HO_3.out ((rd l0 x14_1) : Int) x14_1
     go_wp2_with (first | ((with_reducible refine gate_store (t := 3) (p := 22) rfl ?_); refine store_event (t := 3) (p := 22) (v := ?vo_w16) (w1 := (wr.setCell ⟨go14, ((rd l0 x14_1) : Int).toNat, none⟩ (.int .i64 x14_1))) ?hg ?ho ?hn ?hr ?_; (case ho => rfl); (case hg => rfl); (case hn => rfl); (case hr => first | (go_simp; done) | (go_simp; rfl)); intro w16 hw; have hg : wr.grownBy w16 (some go14) := (by rw [hw]; exact HP15.2); have hp_ : Kd.R (Kd.int .i64) 3 w16 w.heap.size (fun _ => True) (.slice (some ⟨go14, 0, none⟩) x3_1.length co14) y628 := (by rw [hw, Ny628.out]; exact HP15.1); clear HP15; replace HO_3 := A_ (hp_); replace HB := A_ ((by rw [hw]; exact bD_ (HB.out) GB14.out : Below w.heap.size w w16)); clear hg hw hp_))
     go_roundg k1
     case measure => have := HK1.out; omega
     case rel => exact ⟨(y628), (wrap64 (x14_1 + 1)), qc_, H', ⟨by have := HK1.out; omega⟩, ⟨(rr_ HO_3)⟩, ⟨hB_⟩⟩
    ·rw [if_neg c9] at H
     have c9b0 := oD_ c9
     clear c9
     obtain rfl := Option.some.inj H
     go_wp2
     go_ret
     exact ⟨_, qb_, (rr_ HO_3), hB_⟩
 ·replace c3 := Bool.eq_false_iff.mpr c3
  subst c3
  have H1 : (some ([] : List Int)) = some r := by rw [if_neg (show ¬ (false = true) by decide)] at H; exact H
  clear H
  have H := H1
  clear H1
  obtain rfl := Option.some.inj H
  go_enter Tryz.func110, Tryz.ntmps110
  go_wp2_with (first | ((with_reducible refine gA_ (f := 98) rfl ?_); refine gL_ (some 7) Tryz.func98 #[.slice A0 l0.length c0] rfl qa_ ?_; (with_reducible refine (Z61.calls k _ _ l0 false _ (cc_ HR0) HC0.out A2.out).mono ?_); rintro e w17 ⟨rfl, hb⟩; refine ⟨_, rfl, ?_⟩; replace HB := b1_ hb; clear hb))
  go_ret
  exact ⟨_, qb_, by first | exact Kd.R_nil _ _ _ _ _ | exact Kd.N_nil _ _ _ _ _ | exact Kd.V_nil _ _ _ _ _ | exact Kd.Q_nil _ _ _ _ _ | exact Kd.S_nil _ _ _ _ _, hB_⟩
def Z62.l0 : Nat → List Int → List Int → Int → Option (Bool)
 | 0, _, _, _ => none
 | k + 1, x0, x1, x5 => if x5 < (x0.length : Int) then (if 0 ≤ x5 then (if x5 < (x1.length : Int) then (if (rd x0 x5) = (rd x1 x5) then (Z62.l0 k x0 x1 (wrap64 (x5 + 1))) else (some false)) else (none)) else (none)) else (some true)
def Z62.f (k : Nat) (l0 : List Int) (l1 : List Int) : Option (Bool) := if (l0.length : Int) = (l1.length : Int) then (Z62.l0 k l0 l1 0) else (some false)
theorem Z62.mono_l : ∀ k, (∀ y0 y1 y2, LeO (Z62.l0 k y0 y1 y2) (Z62.l0 (k + 1) y0 y1 y2))
 | 0 => fun _ _ _ r h => by simp [Z62.l0] at h
 | k + 1 => by
  have ih0 := Z62.mono_l k
  ·intro y0 y1 y2
   unfold Z62.l0
   repeat' first|exact ih0 _ _ _|exact lo_|refine LeO.ite ?_ ?_|refine LeO.bind ?_ (fun _ => ?_)
theorem Z62.mono : ∀ a0 a1 k, LeO (Z62.f k a0 a1) (Z62.f (k + 1) a0 a1) := by
 intro a0 a1 k
 have ih0 := Z62.mono_l k
 unfold Z62.f
 repeat' first|exact ih0 _ _ _|exact lo_|refine LeO.ite ?_ ?_|refine LeO.bind ?_ (fun _ => ?_)
set_option maxHeartbeats 8000000 in
set_option maxRecDepth 100000 in
theorem Z62.calls (k : Nat) (A0 : Option Addr) (c0 : Nat) (l0 : List Int) (A1 : Option Addr) (c1 : Nat) (l1 : List Int) (r : Bool) (w : World) (hr0 : Kd.C (Kd.int .i64) w A0 l0.length l0) (hc0 : l0.length ≤ c0) (hr1 : Kd.C (Kd.int .i64) w A1 l1.length l1) (hc1 : l1.length ≤ c1) (h : Z62.f k l0 l1 = some r) :
  Calls Tryz.prog 14 #[.slice A0 l0.length c0, .slice A1 l1.length c1] w fun e w' => e = .returned (.bool r) ∧ Drawn0 w w' := by
 have HR0 := A_ hr0
 have HC0 := A_ hc0
 clear hr0 hc0
 have HR1 := A_ hr1
 have HC1 := A_ hc1
 clear hr1 hc1
 have H := h
 unfold Z62.f at H
 clear h
 by_cases c3 : (l0.length : Int) = (l1.length : Int)
 ·rw [if_pos c3] at H
  have c3b0 : ((l0.length : Int) == (l1.length : Int)) = true := beq_iff_eq.mpr c3
  have c3b1 : ((l0.length : Int) != (l1.length : Int)) = false := bne_eq_false_iff_eq.mpr c3
  have c3b2 : (l0.length == l1.length) = true := by first | simpa using c3 | (simp at c3 ⊢; omega)
  clear c3
  have H' := A_ H
  clear H
  go_enter Tryz.func14, Tryz.ntmps14
  go_wp2
  repeat (go_quiet (fail); try go_wp2)
  go_loopg [5] k (fun kq v5 w' => ∃ (x5_1 : Int), v5 = .int .i64 x5_1 ∧ Aside0 (Z62.l0 kq l0 l1 x5_1 = some r) ∧ Aside0 (kq ≤ k) ∧ Drawn0 w w')
  case atStart => exact ⟨(0), qc_, H', ⟨nA_ _⟩, by repeat (first | exact Drawn0.refl _ | apply Drawn0.step)⟩
  case round =>
   clear H'
   obtain ⟨x5_1, rfl, HA, HK1, ⟨m1, rfl⟩⟩ := hrel
   cases gk with
   | zero => exact absurd HA.out (by simp [Z62.l0])
   | succ k1 =>
    have H := HA.out
    clear HA
    simp only [Z62.l0] at H
    by_cases c4 : x5_1 < (l0.length : Int)
    ·rw [if_pos c4] at H
     have c4b0 := oC_ c4
     clear c4
     have c5 := cp_ H
     replace H := ca_ H
     have c5b0 := oC_ c5
     clear c5
     have c6 := cp_ H
     replace H := ca_ H
     have c6b0 := oC_ c6
     clear c6
     by_cases c7 : (rd l0 x5_1) = (rd l1 x5_1)
     ·rw [if_pos c7] at H
      have c7b0 : ((rd l0 x5_1) == (rd l1 x5_1)) = true := beq_iff_eq.mpr c7
      have c7b1 : ((rd l0 x5_1) != (rd l1 x5_1)) = false := bne_eq_false_iff_eq.mpr c7
      clear c7
      have H' := A_ H
      clear H
      have p694 : 0 ≤ (x5_1 : Int) := oB_ qe_
      have q694 : x5_1 < (l0.length : Int) := oB_ qe_
      obtain ⟨ad694, e694, hx694_0⟩ := Kd.at_int HR0.out x5_1 p694 q694
      cases e694
      replace p694 := eq_true p694
      replace q694 := eq_true q694
      have p695 : 0 ≤ (x5_1 : Int) := oB_ qe_
      have q695 : x5_1 < (l1.length : Int) := oB_ qe_
      obtain ⟨ad695, e695, hx695_0⟩ := Kd.at_int HR1.out x5_1 p695 q695
      cases e695
      replace p695 := eq_true p695
      replace q695 := eq_true q695
      go_wp2
      repeat (go_quiet (fail); try go_wp2)
      go_roundg k1
      case measure => have := HK1.out; omega
      case rel => exact ⟨(wrap64 (x5_1 + 1)), qc_, H', ⟨by have := HK1.out; omega⟩, by repeat (first | exact Drawn0.refl _ | apply Drawn0.step)⟩
     ·rw [if_neg c7] at H
      have c7b0 : ((rd l0 x5_1) == (rd l1 x5_1)) = false := beq_eq_false_iff_ne.mpr c7
      have c7b1 : ((rd l0 x5_1) != (rd l1 x5_1)) = true := bne_iff_ne.mpr c7
      obtain rfl := Option.some.inj H
      have p694 : 0 ≤ (x5_1 : Int) := oB_ qe_
      have q694 : x5_1 < (l0.length : Int) := oB_ qe_
      obtain ⟨ad694, e694, hx694_0⟩ := Kd.at_int HR0.out x5_1 p694 q694
      cases e694
      replace p694 := eq_true p694
      replace q694 := eq_true q694
      have p695 : 0 ≤ (x5_1 : Int) := oB_ qe_
      have q695 : x5_1 < (l1.length : Int) := oB_ qe_
      obtain ⟨ad695, e695, hx695_0⟩ := Kd.at_int HR1.out x5_1 p695 q695
      cases e695
      replace p695 := eq_true p695
      replace q695 := eq_true q695
      go_wp2
      repeat (go_quiet (fail); try go_wp2)
      go_ret
      exact ⟨qc_, by repeat (first | exact Drawn0.refl _ | apply Drawn0.step)⟩
    ·rw [if_neg c4] at H
     have c4b0 := oD_ c4
     clear c4
     obtain rfl := Option.some.inj H
     go_wp2
     repeat (go_quiet (fail); try go_wp2)
     go_ret
     exact ⟨qc_, by repeat (first | exact Drawn0.refl _ | apply Drawn0.step)⟩
 ·rw [if_neg c3] at H
  have c3b0 : ((l0.length : Int) == (l1.length : Int)) = false := beq_eq_false_iff_ne.mpr c3
  have c3b1 : ((l0.length : Int) != (l1.length : Int)) = true := bne_iff_ne.mpr c3
  have c3b2 : (l0.length == l1.length) = false := by first | simpa using c3 | (simp at c3 ⊢; omega)
  obtain rfl := Option.some.inj H
  go_enter Tryz.func14, Tryz.ntmps14
  go_wp2
  repeat (go_quiet (fail); try go_wp2)
  go_ret
  exact ⟨qc_, by repeat (first | exact Drawn0.refl _ | apply Drawn0.step)⟩
def Z31.f (k : Nat) (l0_0 : List Int) (l0_1 : List Int) (l1_0 : List Int) (l1_1 : List Int) : Option (Bool) := (Z62.f k l0_0 l1_0).bind fun t755 => (if t755 = true then ((Z62.f k l0_1 l1_1).bind fun t756 => (if t756 = true then (some true) else (some false))) else (some false))
theorem Z31.mono : ∀ a0 a1 a2 a3 k, LeO (Z31.f k a0 a1 a2 a3) (Z31.f (k + 1) a0 a1 a2 a3) := by
 intro a0 a1 a2 a3 k
 unfold Z31.f
 repeat' first|exact Z62.mono _ _ _|exact lo_|refine LeO.ite ?_ ?_|refine LeO.bind ?_ (fun _ => ?_)
set_option maxHeartbeats 8000000 in
set_option maxRecDepth 100000 in
theorem Z31.calls (k : Nat) (A0_0 : Option Addr) (c0_0 : Nat) (l0_0 : List Int) (A0_1 : Option Addr) (c0_1 : Nat) (l0_1 : List Int) (A1_0 : Option Addr) (c1_0 : Nat) (l1_0 : List Int) (A1_1 : Option Addr) (c1_1 : Nat) (l1_1 : List Int) (r : Bool) (w : World) (hr0_0 : Kd.C (Kd.int .i64) w A0_0 l0_0.length l0_0) (hc0_0 : l0_0.length ≤ c0_0) (hr0_1 : Kd.C (Kd.int .i64) w A0_1 l0_1.length l0_1) (hc0_1 : l0_1.length ≤ c0_1) (hr1_0 : Kd.C (Kd.int .i64) w A1_0 l1_0.length l1_0) (hc1_0 : l1_0.length ≤ c1_0) (hr1_1 : Kd.C (Kd.int .i64) w A1_1 l1_1.length l1_1) (hc1_1 : l1_1.length ≤ c1_1) (h : Z31.f k l0_0 l0_1 l1_0 l1_1 = some r) :
  Calls Tryz.prog 30 #[.agg #[.slice A0_0 l0_0.length c0_0, .slice A0_1 l0_1.length c0_1], .agg #[.slice A1_0 l1_0.length c1_0, .slice A1_1 l1_1.length c1_1]] w fun e w' => e = .returned (.bool r) ∧ Below w.heap.size w w' := by
 have hu38 := Tryz.underlying38
 have HR0_0 := A_ hr0_0
 have HC0_0 := A_ hc0_0
 clear hr0_0 hc0_0
 have HR0_1 := A_ hr0_1
 have HC0_1 := A_ hc0_1
 clear hr0_1 hc0_1
 have HR1_0 := A_ hr1_0
 have HC1_0 := A_ hc1_0
 clear hr1_0 hc1_0
 have HR1_1 := A_ hr1_1
 have HC1_1 := A_ hc1_1
 clear hr1_1 hc1_1
 have HB := A_ (Below.refl w.heap.size w)
 have H := h
 unfold Z31.f at H
 clear h
 obtain ⟨t755, A3, H⟩ := bi_ H
 by_cases c4 : t755 = true
 ·subst c4
  rw [if_pos rfl] at H
  obtain ⟨t756, A5, H⟩ := bi_ H
  by_cases c6 : t756 = true
  ·subst c6
   rw [if_pos rfl] at H
   obtain rfl := Option.some.inj H
   go_enter Tryz.func30, Tryz.ntmps30
   go_wp2_with (first | ((with_reducible refine gB_ (N := 2) rfl ?_); refine bx_ 2 #[.slice A0_0 l0_0.length c0_0, .slice A0_1 l0_1.length c0_1] 38 ?_; intro gb753 hg w7 hbox hb; have BK753 := A_ hbox; have GW753 := gw_ w hg; have GE753 := GW753; replace HB := b1_ hb; clear hb hbox hg) | ((with_reducible refine gB_ (N := 3) rfl ?_); refine bx_ 3 #[.slice A1_0 l1_0.length c1_0, .slice A1_1 l1_1.length c1_1] 38 ?_; intro gb754 hg w8 hbox hb; have BK754 := A_ hbox; have GW754 := gw_ w hg; have GE754 := GW754; replace HB := b1_ hb; have NB753_754 := gN_ BK753 hg; have NB754_753 := gP_ BK753 hg; replace BK753 := bb_ BK753 hb; clear hb hbox hg; have hnb9 := NB753_754.out; have hnc9 := NB754_753.out; obtain ⟨hcz10_0, hcz10_1, hfz10_0, hfz10_1⟩ := c2_ BK753; obtain ⟨hcz11_0, hcz11_1, hfz11_0, hfz11_1⟩ := c2_ BK754) | ((with_reducible refine gA_ (f := 14) rfl ?_); refine gL_ (some 9) Tryz.func14 #[.slice A0_0 l0_0.length c0_0, .slice A1_0 l1_0.length c1_0] rfl qa_ ?_; (with_reducible refine (Z62.calls k _ _ l0_0 _ _ l1_0 true _ (cb_ HR0_0) HC0_0.out (cb_ HR1_0) HC1_0.out A3.out).mono ?_); rintro e w' ⟨rfl, ⟨nd, rfl⟩⟩; refine ⟨_, rfl, ?_⟩) | ((with_reducible refine gA_ (f := 14) rfl ?_); refine gL_ (some 15) Tryz.func14 #[.slice A0_1 l0_1.length c0_1, .slice A1_1 l1_1.length c1_1] rfl qa_ ?_; (with_reducible refine (Z62.calls k _ _ l0_1 _ _ l1_1 true _ (cw_ (cD_ HR0_1.out hB_)) HC0_1.out (cw_ (cD_ HR1_1.out hB_)) HC1_1.out A5.out).mono ?_); rintro e w' ⟨rfl, ⟨nd, rfl⟩⟩; refine ⟨_, rfl, ?_⟩))
   go_ret
   exact ⟨qb_, hB_⟩
  ·replace c6 := Bool.eq_false_iff.mpr c6
   subst c6
   have H1 : (some false) = some r := by rw [if_neg (show ¬ (false = true) by decide)] at H; exact H
   clear H
   have H := H1
   clear H1
   obtain rfl := Option.some.inj H
   go_enter Tryz.func30, Tryz.ntmps30
   go_wp2_with (first | ((with_reducible refine gB_ (N := 2) rfl ?_); refine bx_ 2 #[.slice A0_0 l0_0.length c0_0, .slice A0_1 l0_1.length c0_1] 38 ?_; intro gb753 hg w12 hbox hb; have BK753 := A_ hbox; have GW753 := gw_ w hg; have GE753 := GW753; replace HB := b1_ hb; clear hb hbox hg) | ((with_reducible refine gB_ (N := 3) rfl ?_); refine bx_ 3 #[.slice A1_0 l1_0.length c1_0, .slice A1_1 l1_1.length c1_1] 38 ?_; intro gb754 hg w13 hbox hb; have BK754 := A_ hbox; have GW754 := gw_ w hg; have GE754 := GW754; replace HB := b1_ hb; have NB753_754 := gN_ BK753 hg; have NB754_753 := gP_ BK753 hg; replace BK753 := bb_ BK753 hb; clear hb hbox hg; have hnb14 := NB753_754.out; have hnc14 := NB754_753.out; obtain ⟨hcz15_0, hcz15_1, hfz15_0, hfz15_1⟩ := c2_ BK753; obtain ⟨hcz16_0, hcz16_1, hfz16_0, hfz16_1⟩ := c2_ BK754) | ((with_reducible refine gA_ (f := 14) rfl ?_); refine gL_ (some 9) Tryz.func14 #[.slice A0_0 l0_0.length c0_0, .slice A1_0 l1_0.length c1_0] rfl qa_ ?_; (with_reducible refine (Z62.calls k _ _ l0_0 _ _ l1_0 true _ (cb_ HR0_0) HC0_0.out (cb_ HR1_0) HC1_0.out A3.out).mono ?_); rintro e w' ⟨rfl, ⟨nd, rfl⟩⟩; refine ⟨_, rfl, ?_⟩) | ((with_reducible refine gA_ (f := 14) rfl ?_); refine gL_ (some 15) Tryz.func14 #[.slice A0_1 l0_1.length c0_1, .slice A1_1 l1_1.length c1_1] rfl qa_ ?_; (with_reducible refine (Z62.calls k _ _ l0_1 _ _ l1_1 false _ (cw_ (cD_ HR0_1.out hB_)) HC0_1.out (cw_ (cD_ HR1_1.out hB_)) HC1_1.out A5.out).mono ?_); rintro e w' ⟨rfl, ⟨nd, rfl⟩⟩; refine ⟨_, rfl, ?_⟩))
   go_ret
   exact ⟨qb_, hB_⟩
 ·replace c4 := Bool.eq_false_iff.mpr c4
  subst c4
  have H1 : (some false) = some r := by rw [if_neg (show ¬ (false = true) by decide)] at H; exact H
  clear H
  have H := H1
  clear H1
  obtain rfl := Option.some.inj H
  go_enter Tryz.func30, Tryz.ntmps30
  go_wp2_with (first | ((with_reducible refine gB_ (N := 2) rfl ?_); refine bx_ 2 #[.slice A0_0 l0_0.length c0_0, .slice A0_1 l0_1.length c0_1] 38 ?_; intro gb753 hg w17 hbox hb; have BK753 := A_ hbox; have GW753 := gw_ w hg; have GE753 := GW753; replace HB := b1_ hb; clear hb hbox hg) | ((with_reducible refine gB_ (N := 3) rfl ?_); refine bx_ 3 #[.slice A1_0 l1_0.length c1_0, .slice A1_1 l1_1.length c1_1] 38 ?_; intro gb754 hg w18 hbox hb; have BK754 := A_ hbox; have GW754 := gw_ w hg; have GE754 := GW754; replace HB := b1_ hb; have NB753_754 := gN_ BK753 hg; have NB754_753 := gP_ BK753 hg; replace BK753 := bb_ BK753 hb; clear hb hbox hg; have hnb19 := NB753_754.out; have hnc19 := NB754_753.out; obtain ⟨hcz20_0, hcz20_1, hfz20_0, hfz20_1⟩ := c2_ BK753; obtain ⟨hcz21_0, hcz21_1, hfz21_0, hfz21_1⟩ := c2_ BK754) | ((with_reducible refine gA_ (f := 14) rfl ?_); refine gL_ (some 9) Tryz.func14 #[.slice A0_0 l0_0.length c0_0, .slice A1_0 l1_0.length c1_0] rfl qa_ ?_; (with_reducible refine (Z62.calls k _ _ l0_0 _ _ l1_0 false _ (cb_ HR0_0) HC0_0.out (cb_ HR1_0) HC1_0.out A3.out).mono ?_); rintro e w' ⟨rfl, ⟨nd, rfl⟩⟩; refine ⟨_, rfl, ?_⟩))
  go_ret
  exact ⟨qb_, hB_⟩
end Go.Proofs.YtoijcallajegfaaGreat.A
end
section
/- What every law does with its arguments; inverses. No conditions. -/
namespace Go.Proofs.YtoijcallajegfaaGreat.M
set_option linter.unusedVariables false
set_option linter.unusedSimpArgs false
open Go.RowKit Go.Proofs.YtoijcallajegfaaGreatW.PrintWords Go.Proofs.YtoijcallajegfaaGreatW.PrintLast Go.Proofs.YtoijcallajegfaaGreatW.PrintMore Go.Proofs.YtoijcallajegfaaGreat.A
theorem rd_set {l : List Int} {i j : Nat} {x : Int} (h : i < l.length) : rd (l.set i x) (j : Int) = if i = j then x else rd l (j : Int) := by
 unfold rd
 simp only [Int.toNat_natCast]
 rw [List.getD_eq_getElem?_getD, List.getD_eq_getElem?_getD, List.getElem?_set]
 by_cases e : i = j
 ·subst e
  simp [h]
 ·simp [e]
theorem ext_rd {a b : List Int} (hl : a.length = b.length) (h : ∀ i : Nat, i < a.length → rd a (i : Int) = rd b (i : Int)) : a = b := by
 apply List.ext_getElem hl
 intro i h1 h2
 rw [← rd_get a i h1, ← rd_get b i h2]
 exact h i h1
theorem toInts_ev (l : List Int) (h : l.length ≤ 1048576) : Ev (fun k => Z63.f k l) l := by
 unfold Z63.f
 have h1 : (0 : Int) ≤ (l.length : Int) := by omega
 have h2 : ((l.length : Int)).toNat ≤ 35184372088832 := by omega
 simp only [h1, h2, if_true]
 have H : ∀ (d i : Nat) (c : List Int), i + d = l.length → c.length = l.length → (∀ j : Nat, j < i → rd c (j : Int) = rd l (j : Int)) → Ev (fun k => Z63.l0 k l c (i : Int)) l := by
  intro d
  induction d with
  | zero =>
   intro i c h hc hx
   refine ev_succ ?_
   have h1 : ¬ ((i : Int) < (l.length : Int)) := by omega
   have e : c = l := ext_rd hc (fun j hj => hx j (by omega))
   simp only [Z63.l0, h1, if_false]
   rw [e]
   exact Ev.now _
  | succ d ih =>
   intro i c h hc hx
   refine ev_succ ?_
   have h1 : (i : Int) < (l.length : Int) := by omega
   have h2 : (0 : Int) ≤ (i : Int) := by omega
   have h3 : (i : Int) < (c.length : Int) := by omega
   have h4 := w64s i (by omega)
   simp only [Z63.l0, h1, h2, h3, h4, if_true, Int.toNat_natCast]
   refine ih (i + 1) _ (by omega) (by rw [List.length_set]; exact hc) (fun j hj => ?_)
   rw [rd_set (by omega)]
   by_cases e : i = j
   ·subst e
    simp
   ·rw [if_neg e]
    exact hx j (by omega)
 exact H l.length 0 _ (by omega) (by rw [List.length_replicate]; omega) (fun j hj => by omega)
theorem eqInts_ev (a b : List Int) (ha : a.length ≤ 9000000000000000000) : Ev (fun k => Z62.f k a b) (decide (a = b)) := by
 unfold Z62.f
 by_cases hl : (a.length : Int) = (b.length : Int)
 ·simp only [hl, if_true]
  have hl' : a.length = b.length := by omega
  have H : ∀ d i : Nat, i + d = a.length → ∃ c, Ev (fun k => Z62.l0 k a b (i : Int)) c ∧ (c = true ↔ ∀ j : Nat, i ≤ j → j < a.length → rd a (j : Int) = rd b (j : Int)) := by
   intro d
   induction d with
   | zero =>
    intro i h
    refine ⟨true, ev_succ ?_, by simp; intro j h1 h2; omega⟩
    have h1 : ¬ ((i : Int) < (a.length : Int)) := by omega
    simp only [Z62.l0, h1, if_false]
    exact Ev.now _
   | succ d ih =>
    intro i h
    have h1 : (i : Int) < (a.length : Int) := by omega
    have h2 : (0 : Int) ≤ (i : Int) := by omega
    have h3 : (i : Int) < (b.length : Int) := by omega
    have h4 := w64s i (by omega)
    by_cases c : rd a (i : Int) = rd b (i : Int)
    ·obtain ⟨c', i1, i2⟩ := ih (i + 1) (by omega)
     refine ⟨c', ev_succ ?_, by
      rw [i2]
      constructor
      ·intro k j j1 j2
       by_cases e : j = i
       ·subst e; exact c
       ·exact k j (by omega) j2
      ·intro k j j1 j2
       exact k j (by omega) j2⟩
     simp only [Z62.l0, h1, h2, h3, h4, c, if_true]
     exact i1
    ·refine ⟨false, ev_succ ?_, by
      simp only [Bool.false_eq_true, false_iff]
      intro k
      exact c (k i (Nat.le_refl _) (by omega))⟩
     simp only [Z62.l0, h1, h2, h3, c, if_true, if_false]
     exact Ev.now _
  obtain ⟨c, i1, i2⟩ := H a.length 0 (by omega)
  have : decide (a = b) = c := by
   rw [Bool.eq_iff_iff, i2, decide_eq_true_iff]
   constructor
   ·intro e j _ _
    rw [e]
   ·intro k
    exact ext_rd hl' (fun j hj => k j (Nat.zero_le _) hj)
  rw [this]
  exact i1
 ·simp only [hl, if_false]
  have : decide (a = b) = false := by
   rw [decide_eq_false_iff_not]
   intro e
   exact hl (by rw [e])
  rw [this]
  exact Ev.now _
theorem eqInts_same (a : List Int) (ha : a.length ≤ 9000000000000000000) : Ev (fun k => Z62.f k a a) true := by
 have := eqInts_ev a a ha
 simpa using this
theorem eqSurf_same (r u : List Int) (hr : r.length ≤ 9000000000000000000) (hu : u.length ≤ 9000000000000000000) : Ev (fun k => Z31.f k r u r u) true := by
 unfold Z31.f
 refine Ev.bind (eqInts_same r hr) ?_
 simp only [if_true]
 refine Ev.bind (eqInts_same u hu) ?_
 simp only [if_true]
 exact Ev.now _
theorem inv_of {p c : List Nat} (hp : IsP p) (hc : c.length = p.length) (h : ∀ j, j < p.length → g c (g p j) = j) : c = inv p := by
 refine ext_g (by rw [inv_len, hc]) (fun x hx => ?_)
 rw [hc] at hx
 rw [g_inv hx]
 have := h (ix p x) (ix_lt hp hx)
 rw [g_ix hp hx] at this
 exact this
theorem inv_step {p c : List Nat} (hp : IsP p) {i : Nat} (hi : i < p.length) (hc : c.length = p.length) (h : ∀ j, j < i → g c (g p j) = j) : ∀ j, j < i + 1 → g (c.set (g p i) i) (g p j) = j := by
 intro j hj
 rw [g_set (by rw [hc]; exact g_lt hp hi)]
 by_cases e : j = i
 ·subst e
  simp
 ·rw [if_neg (fun k => e (g_inj hp (by omega) hi k.symm))]
  exact h j (by omega)
theorem spec_inv {p : List Nat} (hp : IsP p) (h24 : p.length ≤ 24) : Ev (fun k => Z24.f k (I p)) (I (inv p)) := by
 unfold Z24.f
 have H : ∀ (d i : Nat) (c : List Nat), i + d = p.length → c.length = p.length → (∀ j, j < i → g c (g p j) = j) → Ev (fun k => Z24.l0 k (I c) (I p) (p.length : Int) (i : Int)) (I (inv p)) := by
  intro d
  induction d with
  | zero =>
   intro i c h hc hx
   refine ev_succ ?_
   have h1 : ¬ ((i : Int) < (p.length : Int)) := by omega
   rw [← inv_of hp hc (fun j hj => hx j (by omega))]
   simp only [Z24.l0, h1, if_false]
   exact Ev.now _
  | succ d ih =>
   intro i c h hc hx
   refine ev_succ ?_
   have hi : i < p.length := by omega
   have h1 : (i : Int) < (p.length : Int) := by omega
   have h2 : (0 : Int) ≤ (i : Int) := by omega
   have h3 := w64s i (by omega)
   have h4 : (0 : Int) ≤ ((g p i : Nat) : Int) := by omega
   have h5 : ((g p i : Nat) : Int) < (c.length : Int) := by have := g_lt hp hi; omega
   simp only [Z24.l0, h1, h2, h3, h4, h5, rdI, I_len', I_set, if_true, Int.toNat_natCast]
   exact ih (i + 1) _ (by omega) (by rw [List.length_set]; exact hc) (inv_step hp hi hc hx)
 have h1 : (0 : Int) ≤ (p.length : Int) := by omega
 have h2 : p.length ≤ 35184372088832 := by omega
 simp only [I_len', h1, h2, if_true, Int.toNat_natCast]
 have := H p.length 0 (List.replicate p.length 0) (by omega) (by simp) (fun j hj => by omega)
 rw [I_rep] at this
 exact this
theorem impl_inv {p : List Nat} (hp : IsP p) (h24 : p.length ≤ 24) : Ev (fun k => Z16.f k (I p)) (I (inv p)) := by
 unfold Z16.f
 have H : ∀ (d i : Nat) (c : List Nat), i + d = p.length → c.length = p.length → (∀ j, j < i → g c (g p j) = j) → Ev (fun k => Z16.l0 k (I c) (I p) (p.length : Int) (i : Int)) (I (inv p)) := by
  intro d
  induction d with
  | zero =>
   intro i c h hc hx
   refine ev_succ ?_
   have h1 : ¬ ((i : Int) < (p.length : Int)) := by omega
   rw [← inv_of hp hc (fun j hj => hx j (by omega))]
   simp only [Z16.l0, h1, if_false]
   exact Ev.now _
  | succ d ih =>
   intro i c h hc hx
   refine ev_succ ?_
   have hi : i < p.length := by omega
   have h1 : (i : Int) < (p.length : Int) := by omega
   have h2 : (0 : Int) ≤ (i : Int) := by omega
   have h3 := w64s i (by omega)
   have h4 : (0 : Int) ≤ ((g p i : Nat) : Int) := by omega
   have h5 : ((g p i : Nat) : Int) < (c.length : Int) := by have := g_lt hp hi; omega
   simp only [Z16.l0, h1, h2, h3, h4, h5, rdI, I_len', I_set, if_true, Int.toNat_natCast]
   exact ih (i + 1) _ (by omega) (by rw [List.length_set]; exact hc) (inv_step hp hi hc hx)
 refine Ev.bind (impl_permOk (I p)) ?_
 have h0 : permB (I p) = true := permB_I.mpr ⟨hp, h24⟩
 have h1 : (0 : Int) ≤ (p.length : Int) := by omega
 have h2 : p.length ≤ 35184372088832 := by omega
 simp only [h0, I_len', h1, h2, if_true, Int.toNat_natCast]
 have := H p.length 0 (List.replicate p.length 0) (by omega) (by simp) (fun j hj => by omega)
 rw [I_rep] at this
 exact this
end Go.Proofs.YtoijcallajegfaaGreat.M
end
section
/- Names from a square, and renaming: the program and the reference act alike. No conditions. -/
namespace Go.Proofs.YtoijcallajegfaaGreat.M
set_option linter.unusedVariables false
set_option linter.unusedSimpArgs false
open Go.RowKit Go.Proofs.YtoijcallajegfaaGreatW.PrintWords Go.Proofs.YtoijcallajegfaaGreatW.PrintLast Go.Proofs.YtoijcallajegfaaGreatW.PrintMore Go.Proofs.YtoijcallajegfaaGreat.A
theorem set_mid5 {α : Type} (p : List α) (x y : α) (xs : List α) : (p ++ x :: xs).set p.length y = p ++ y :: xs := by
 induction p with
 | nil => rfl
 | cons a p ih => simp [ih]
theorem isP_reach {r u : List Nat} (hs : Sf r u) {s : Nat} (h : s < r.length) : IsP (reach r u s) ∧ (reach r u s).length = r.length := by
 obtain ⟨h1, h2⟩ := reach_full hs h
 have l1 := h1.le
 have l2 := nodup_sub_len5 (List.range r.length) (reach r u s) List.nodup_range (fun x hx => h2 x (List.mem_range.mp hx))
 rw [List.length_range] at l2
 have hl : (reach r u s).length = r.length := by omega
 exact ⟨⟨fun x hx => by rw [hl]; exact h1.lt x hx, h1.nd⟩, hl⟩
def nm (r u : List Nat) (s : Nat) : List Nat := inv (reach r u s)
theorem isP_nm {r u : List Nat} (hs : Sf r u) {s : Nat} (h : s < r.length) : IsP (nm r u s) ∧ (nm r u s).length = r.length := by
 obtain ⟨h1, h2⟩ := isP_reach hs h
 exact ⟨isP_inv h1, by unfold nm; rw [inv_len, h2]⟩
theorem ren_of {p q c : List Nat} (hq : IsP q) (hl : q.length = p.length) (hc : c.length = p.length) (h : ∀ j, j < p.length → g c (g q j) = g q (g p j)) : c = ren p q := by
 refine ext_g (by rw [ren_len, hc]) (fun x hx => ?_)
 rw [hc] at hx
 rw [g_ren hx]
 have hx' : ix q x < q.length := ix_lt hq (by omega)
 have := h (ix q x) (by omega)
 rw [g_ix hq (by omega)] at this
 exact this
theorem ren_step {p q c : List Nat} (hq : IsP q) (hl : q.length = p.length) {i : Nat} (hi : i < p.length) (hc : c.length = p.length) (h : ∀ j, j < i → g c (g q j) = g q (g p j)) : ∀ j, j < i + 1 → g (c.set (g q i) (g q (g p i))) (g q j) = g q (g p j) := by
 intro j hj
 have hlt : g q i < c.length := by rw [hc, ← hl]; exact g_lt hq (by omega)
 rw [g_set hlt]
 by_cases e : j = i
 ·subst e
  simp
 ·rw [if_neg (fun k => e (g_inj hq (by omega) (by omega) k.symm))]
  exact h j (by omega)
theorem spec_ren {p q : List Nat} (hp : IsP p) (hq : IsP q) (hl : q.length = p.length) (h24 : p.length ≤ 24) : Ev (fun k => Z35.f k (I p) (I q)) (I (ren p q)) := by
 unfold Z35.f
 have H : ∀ (d i : Nat) (c : List Nat), i + d = p.length → c.length = p.length → (∀ j, j < i → g c (g q j) = g q (g p j)) → Ev (fun k => Z35.l0 k (I q) (I c) (I p) (p.length : Int) (i : Int)) (I (ren p q)) := by
  intro d
  induction d with
  | zero =>
   intro i c h hc hx
   refine ev_succ ?_
   have h1 : ¬ ((i : Int) < (p.length : Int)) := by omega
   rw [← ren_of hq hl hc (fun j hj => hx j (by omega))]
   simp only [Z35.l0, h1, if_false]
   exact Ev.now _
  | succ d ih =>
   intro i c h hc hx
   refine ev_succ ?_
   have hi : i < p.length := by omega
   have k1 := g_lt hp hi
   have k2 := g_lt hq (i := i) (by omega)
   have h1 : (i : Int) < (p.length : Int) := by omega
   have h2 : (0 : Int) ≤ (i : Int) := by omega
   have h4 : (i : Int) < (q.length : Int) := by omega
   have h5 : (0 : Int) ≤ ((g p i : Nat) : Int) := by omega
   have h6 : ((g p i : Nat) : Int) < (q.length : Int) := by omega
   have h7 : (0 : Int) ≤ ((g q i : Nat) : Int) := by omega
   have h8 : ((g q i : Nat) : Int) < (c.length : Int) := by omega
   have h3 := w64s i (by omega)
   simp only [Z35.l0, h1, h2, h3, h4, h5, h6, h7, h8, rdI, I_len', I_set, if_true, Int.toNat_natCast]
   exact ih (i + 1) _ (by omega) (by rw [List.length_set]; exact hc) (ren_step hq hl hi hc hx)
 have h1 : (0 : Int) ≤ (p.length : Int) := by omega
 have h2 : p.length ≤ 35184372088832 := by omega
 simp only [I_len', h1, h2, if_true, Int.toNat_natCast]
 have := H p.length 0 (List.replicate p.length 0) (by omega) (by simp) (fun j hj => by omega)
 rw [I_rep] at this
 exact this
theorem impl_ren {p q : List Nat} (hp : IsP p) (hq : IsP q) (hl : q.length = p.length) (h24 : p.length ≤ 24) : Ev (fun k => Z19.f k (I p) (I q)) (I (ren p q)) := by
 unfold Z19.f
 have H : ∀ (d i : Nat) (c : List Nat), i + d = p.length → c.length = p.length → (∀ j, j < i → g c (g q j) = g q (g p j)) → Ev (fun k => Z19.l0 k (I q) (I c) (I p) (p.length : Int) (i : Int)) (I (ren p q)) := by
  intro d
  induction d with
  | zero =>
   intro i c h hc hx
   refine ev_succ ?_
   have h1 : ¬ ((i : Int) < (p.length : Int)) := by omega
   rw [← ren_of hq hl hc (fun j hj => hx j (by omega))]
   simp only [Z19.l0, h1, if_false]
   exact Ev.now _
  | succ d ih =>
   intro i c h hc hx
   refine ev_succ ?_
   have hi : i < p.length := by omega
   have k1 := g_lt hp hi
   have k2 := g_lt hq (i := i) (by omega)
   have h1 : (i : Int) < (p.length : Int) := by omega
   have h2 : (0 : Int) ≤ (i : Int) := by omega
   have h4 : (i : Int) < (q.length : Int) := by omega
   have h5 : (0 : Int) ≤ ((g p i : Nat) : Int) := by omega
   have h6 : ((g p i : Nat) : Int) < (q.length : Int) := by omega
   have h7 : (0 : Int) ≤ ((g q i : Nat) : Int) := by omega
   have h8 : ((g q i : Nat) : Int) < (c.length : Int) := by omega
   have h3 := w64s i (by omega)
   simp only [Z19.l0, h1, h2, h3, h4, h5, h6, h7, h8, rdI, I_len', I_set, if_true, Int.toNat_natCast]
   exact ih (i + 1) _ (by omega) (by rw [List.length_set]; exact hc) (ren_step hq hl hi hc hx)
 have b1 : permB (I p) = true := permB_I.mpr ⟨hp, h24⟩
 have b2 : permB (I q) = true := permB_I.mpr ⟨hq, by omega⟩
 refine Ev.bind (impl_permOk _) ?_
 simp only [b1, if_true]
 refine Ev.bind (impl_permOk _) ?_
 have e : ((p.length : Int) != (q.length : Int)) = false := by rw [bne_eq_false_iff_eq]; omega
 simp only [b2, I_len', e, if_true]
 refine ev_succ ?_
 have h1 : (0 : Int) ≤ (p.length : Int) := by omega
 have h2 : p.length ≤ 35184372088832 := by omega
 simp only [Z19.j0, I_len', h1, h2, Bool.false_eq_true, if_false, if_true, Int.toNat_natCast]
 have := H p.length 0 (List.replicate p.length 0) (by omega) (by simp) (fun j hj => by omega)
 rw [I_rep] at this
 exact this
def rnS (r u q : List Nat) : List Nat × List Nat := (ren r q, ren u q)
theorem spec_renS {r u q : List Nat} (hs : Sf r u) (hq : IsP q) (hl : q.length = r.length) : Ev (fun k => Z37.f k (I r) (I u) (I q)) (I (rnS r u q).1, I (rnS r u q).2) := by
 unfold Z37.f
 exact Ev.bind (spec_ren hs.pr hq hl hs.le) (Ev.bind (spec_ren hs.pu hq (by rw [hl, hs.eq]) (by rw [hs.eq]; exact hs.le)) (Ev.now _))
theorem impl_renS {r u q : List Nat} (hs : Sf r u) (hq : IsP q) (hl : q.length = r.length) : Ev (fun k => Z7.f k (I r) (I u) (I q)) (I (rnS r u q).1, I (rnS r u q).2, true) := by
 unfold Z7.f
 have h0 := surfB_I.mpr hs
 have hle := hs.le
 have b2 : permB (I q) = true := permB_I.mpr ⟨hq, by omega⟩
 refine Ev.bind (impl_surf _ _) ?_
 simp only [h0, if_true]
 refine Ev.bind (impl_permOk _) ?_
 have e : ((q.length : Int) != (r.length : Int)) = false := by rw [bne_eq_false_iff_eq]; omega
 simp only [b2, I_len', e, if_true]
 refine ev_succ ?_
 simp only [Z7.j0, Bool.false_eq_true, if_false]
 exact Ev.bind (impl_ren hs.pr hq hl hs.le) (Ev.bind (impl_ren hs.pu hq (by rw [hl, hs.eq]) (by rw [hs.eq]; exact hs.le)) (Ev.now _))
theorem spec_names {r u : List Nat} (hs : Sf r u) {s : Nat} (h : s < r.length) : Ev (fun k => Z55.f k (I r) (I u) (s : Int)) (I (nm r u s)) := by
 obtain ⟨h1, h2⟩ := isP_reach hs h
 unfold Z55.f
 exact Ev.bind (reach_ev hs.pr hs.pu hs.eq hs.le s h) (Ev.bind (spec_inv h1 (by rw [h2]; exact hs.le)) (Ev.now _))
def nmP (n : Nat) (out : List Nat) : List Int := (List.range n).map (fun x => if x ∈ out then ((out.idxOf x : Nat) : Int) else -1)
theorem nmP_len (n : Nat) (out : List Nat) : (nmP n out).length = n := by simp [nmP]
theorem rd_nmP {n : Nat} {out : List Nat} {x : Nat} (h : x < n) : rd (nmP n out) (x : Int) = if x ∈ out then ((out.idxOf x : Nat) : Int) else -1 := by
 rw [rd_get _ _ (by rw [nmP_len]; exact h)]
 simp [nmP]
theorem nmP_add {n : Nat} {out : List Nat} {x : Nat} (h : x < n) (hn : x ∉ out) : (nmP n out).set x (out.length : Int) = nmP n (out ++ [x]) := by
 refine ext_rd (by rw [List.length_set, nmP_len, nmP_len]) (fun i hi => ?_)
 rw [List.length_set, nmP_len] at hi
 rw [rd_set (by rw [nmP_len]; exact h), rd_nmP hi, rd_nmP hi]
 by_cases e : x = i
 ·subst e
  have : x ∈ out ++ [x] := by simp
  rw [if_pos rfl, if_pos this, List.idxOf_append, if_neg hn]
  simp
 ·rw [if_neg e]
  by_cases hm : i ∈ out
  ·have : i ∈ out ++ [x] := by simp [hm]
   rw [if_pos hm, if_pos this, List.idxOf_append, if_pos hm]
  ·have : i ∉ out ++ [x] := by simp [hm]; omega
   rw [if_neg hm, if_neg this]
theorem nmP_full {n : Nat} {out : List Nat} (hl : out.length = n) (h : ∀ x, x < n → x ∈ out) : nmP n out = I (inv out) := by
 refine ext_rd (by rw [nmP_len, I_len, inv_len, hl]) (fun i hi => ?_)
 rw [nmP_len] at hi
 rw [rd_nmP hi, if_pos (h i hi), rdI, g_inv (by omega)]
 rfl
theorem names_one {p q : List Nat} {out pr : List Nat} (a j : Nat) (hj : j < pr.length) (hpr : pr.length ≤ 2) (hl : out.length ≤ 1000) (hx : g pr j < p.length) (res : List Int)
  (H : Ev (fun k => Z27.l2 k (nmP p.length (st1 out (g pr j))) (I (st1 out (g pr j))) (a : Int) (I pr) (pr.length : Int) ((j + 1 : Nat) : Int) (I p) (I q)) res) :
  Ev (fun k => Z27.l2 k (nmP p.length out) (I out) (a : Int) (I pr) (pr.length : Int) (j : Int) (I p) (I q)) res := by
 refine ev_succ ?_
 have h1 : (j : Int) < (pr.length : Int) := by omega
 have h2 : (0 : Int) ≤ (j : Int) := by omega
 have h4 : (I out).length < 17592186044416 := by rw [I_len]; omega
 have h5 : (0 : Int) ≤ ((g pr j : Nat) : Int) := by omega
 have h6 : ((g pr j : Nat) : Int) < ((nmP p.length out).length : Int) := by rw [nmP_len]; omega
 have h7 : rd (nmP p.length out) ((g pr j : Nat) : Int) = if g pr j ∈ out then ((out.idxOf (g pr j) : Nat) : Int) else -1 := rd_nmP hx
 have h3 := w64s j (by omega)
 by_cases hin : g pr j ∈ out
 ·have e : st1 out (g pr j) = out := by unfold st1; rw [if_pos hin]
  rw [e] at H
  rw [if_pos hin] at h7
  have h8 : ¬ (((out.idxOf (g pr j) : Nat) : Int) < 0) := by omega
  simp only [Z27.l2, h1, h2, h3, h5, h6, h7, h8, rdI, I_len', if_true, if_false]
  exact H
 ·have e : st1 out (g pr j) = out ++ [g pr j] := by unfold st1; rw [if_neg hin]
  rw [e, ← nmP_add hx hin, ← I_snoc] at H
  rw [if_neg hin] at h7
  have h8 : (-1 : Int) < 0 := by omega
  simp only [Z27.l2, h1, h2, h3, h4, h5, h6, h7, h8, rdI, I_len', if_true, Int.toNat_natCast]
  exact H
theorem names_loop {p q : List Nat} (hp : IsP p) (hq : IsP q) (hl : q.length = p.length) (h24 : p.length ≤ 24) (f : Nat) : ∀ (a : Nat) (out : List Nat), RInv p.length out → a ≤ out.length → p.length < f + a →
  Ev (fun k => Z27.l1 k (nmP p.length out) (I out) (a : Int) (I p) (I q)) (nmP p.length (bfs p q f a out)) := by
 induction f with
 | zero =>
  intro a out hr ha hf
  have := hr.le
  omega
 | succ f ih =>
  intro a out hr ha hf
  have hle := hr.le
  refine ev_succ ?_
  by_cases h : a < out.length
  ·have hx := hr.g h
   have hg1 := g_lt hp hx
   have hg2 : g q (g out a) < p.length := by have := g_lt hq (i := g out a) (by omega); omega
   have r1 := hr.st hg1
   have r2 := r1.st hg2
   have h1 : (a : Int) < (out.length : Int) := by omega
   have h2 : (0 : Int) ≤ (a : Int) := by omega
   have h3 : ((g out a : Nat) : Int) < (p.length : Int) := by omega
   have h4 : (0 : Int) ≤ ((g out a : Nat) : Int) := by omega
   have h5 : ((g out a : Nat) : Int) < (q.length : Int) := by omega
   have hb : bfs p q (f + 1) a out = bfs p q f (a + 1) (st1 (st1 out (g p (g out a))) (g q (g out a))) := by
    rw [bfs, if_pos h]
   rw [hb]
   have key := ih (a + 1) _ r2 (Nat.le_trans (by omega : a + 1 ≤ out.length) (Nat.le_trans (st1_len _ _) (st1_len _ _))) (by omega)
   have hq1 : a ≤ 9000000000000000000 := by omega
   have l1 := r1.le
   simp only [Z27.l1, h1, h2, h3, h4, h5, rdI, I_len', if_true, Option.bind_some, I_pair]
   refine names_one (q := q) a 0 (by simp) (by simp) (by omega) hg1 _ ?_
   refine names_one (q := q) a 1 (by simp) (by simp) (by simp only [g, List.getD_cons_zero] at l1 ⊢; omega) hg2 _ ?_
   refine ev_succ ?_
   have h7 : ¬ (((1 + 1 : Nat) : Int) < (([g p (g out a), g q (g out a)] : List Nat).length : Int)) := by simp
   have h6 := w64s a hq1
   simp only [Z27.l2, h7, h6, if_false]
   exact key
  ·have h1 : ¬ ((a : Int) < (out.length : Int)) := by omega
   have hb : bfs p q (f + 1) a out = out := by rw [bfs, if_neg h]
   rw [hb]
   simp only [Z27.l1, h1, I_len', if_false]
   exact Ev.now _
theorem impl_names {r u : List Nat} (hs : Sf r u) {s : Nat} (h : s < r.length) : Ev (fun k => Z27.f k (I r) (I u) (s : Int)) (I (nm r u s)) := by
 have hle := hs.le
 have h0 := surfB_I.mpr hs
 obtain ⟨k1, k2⟩ := reach_full hs h
 obtain ⟨_, k3⟩ := isP_reach hs h
 have fin := names_loop hs.pr hs.pu hs.eq hs.le (r.length + 1) 0 [s] ⟨by simp, by simpa using h⟩ (by simp) (by omega)
 have e1 : bfs r u (r.length + 1) 0 [s] = reach r u s := rfl
 rw [e1, nmP_full k3 k2] at fin
 have H : ∀ d i : Nat, i + d = r.length → Ev (fun k => Z27.l0 k (s : Int) (List.replicate i (-1) ++ List.replicate d 0) (r.length : Int) (i : Int) (I r) (I u)) (I (nm r u s)) := by
  intro d
  induction d with
  | zero =>
   intro i hi
   obtain rfl : i = r.length := by omega
   refine ev_succ ?_
   have c1 : ¬ ((r.length : Int) < (r.length : Int)) := by omega
   have c2 : (0 : Int) ≤ (s : Int) := by omega
   have c3 : (s : Int) < (((List.replicate r.length (-1) ++ List.replicate 0 0 : List Int)).length : Int) := by simp; omega
   have c4 : (List.replicate r.length (-1) ++ List.replicate 0 0 : List Int).set ((s : Int)).toNat 0 = nmP r.length [s] := by
    refine ext_rd (by rw [List.length_set, nmP_len]; simp) (fun i hi => ?_)
    rw [List.length_set] at hi
    have hi' : i < r.length := by simpa using hi
    rw [Int.toNat_natCast, rd_set (by simp; exact h), rd_nmP hi']
    by_cases e : s = i
    ·subst e
     simp
    ·rw [if_neg e]
     have : i ∉ [s] := by simp; omega
     rw [if_neg this, rd_get _ _ hi]
     simp
   simp only [Z27.l0, c1, c2, c3, c4, if_true, if_false]
   exact fin
  | succ d ih =>
   intro i hi
   refine ev_succ ?_
   have c1 : (i : Int) < (r.length : Int) := by omega
   have c2 : (0 : Int) ≤ (i : Int) := by omega
   have c3 : (i : Int) < (((List.replicate i (-1) ++ List.replicate (d + 1) 0 : List Int)).length : Int) := by simp; omega
   have c4 : (List.replicate i (-1) ++ List.replicate (d + 1) 0 : List Int).set ((i : Int)).toNat (-1) = List.replicate (i + 1) (-1) ++ List.replicate d 0 := by
    have hm := set_mid5 (List.replicate i (-1 : Int)) 0 (-1) (List.replicate d 0)
    rw [List.length_replicate] at hm
    rw [Int.toNat_natCast, List.replicate_succ, hm, List.replicate_succ', List.append_assoc]
    rfl
   have c5 := w64s i (by omega)
   simp only [Z27.l0, c1, c2, c3, c4, c5, if_true]
   exact ih (i + 1) (by omega)
 unfold Z27.f
 refine Ev.bind (impl_surf _ _) ?_
 have n1 : ¬ ((s : Int) < 0) := by omega
 have n2 : decide ((s : Int) ≥ (r.length : Int)) = false := by rw [decide_eq_false_iff_not]; omega
 simp only [h0, n1, n2, I_len', if_true, if_false]
 refine ev_succ ?_
 have z1 : (0 : Int) ≤ (r.length : Int) := by omega
 have z2 : r.length ≤ 35184372088832 := by omega
 simp only [Z27.j0, Bool.false_eq_true, I_len', z1, z2, if_true, if_false, Int.toNat_natCast, Option.bind_some, List.length_replicate]
 have := H r.length 0 (Nat.zero_add _)
 simpa using this
end Go.Proofs.YtoijcallajegfaaGreat.M
end
section
/- The canonical form: the program and the reference find the same one. No conditions. -/
namespace Go.Proofs.YtoijcallajegfaaGreat.M
set_option linter.unusedVariables false
set_option linter.unusedSimpArgs false
open Go.RowKit Go.Proofs.YtoijcallajegfaaGreatW.PrintWords Go.Proofs.YtoijcallajegfaaGreatW.PrintLast Go.Proofs.YtoijcallajegfaaGreatW.PrintMore Go.Proofs.YtoijcallajegfaaGreat.A
def lexC : List Nat → List Nat → Int
 | [], [] => 0
 | [], _ :: _ => -1
 | _ :: _, [] => 1
 | a :: l, b :: m => if a < b then -1 else if b < a then 1 else lexC l m
theorem cmp_ev (a b : Nat) : Z18.f (a : Int) (b : Int) = some (if a < b then -1 else if b < a then 1 else 0) := by
 unfold Z18.f Z40.f
 simp only [bne_self_eq_false, Option.bind_some, Bool.false_eq_true, if_false]
 by_cases h1 : a < b
 ·have : (a : Int) < (b : Int) := by omega
  simp only [h1, this, if_true]
 ·have n1 : ¬ (a : Int) < (b : Int) := by omega
  by_cases h2 : b < a
  ·have : (a : Int) > (b : Int) := by omega
   simp only [h1, n1, h2, this, if_true, if_false]
  ·have n2 : ¬ (a : Int) > (b : Int) := by omega
   simp only [h1, n1, h2, n2, if_false]
theorem lexC_eq : ∀ (a b : List Nat), lexC a b = 0 ↔ a = b := by
 intro a
 induction a with
 | nil => intro b; cases b <;> simp [lexC]
 | cons x a ih =>
  intro b
  cases b with
  | nil => simp [lexC]
  | cons y b =>
   unfold lexC
   by_cases h1 : x < y
   ·simp [h1]; omega
   ·by_cases h2 : y < x
    ·simp [h1, h2]; omega
    ·have e : x = y := by omega
     subst e
     simp [h1, ih]
theorem compare_ev (a b : List Nat) (hl : a.length ≤ 1000000) : Ev (fun k => Z3.f k (I a) (I b)) (lexC a b) := by
 unfold Z3.f
 have H : ∀ d i : Nat, i + d = a.length → i ≤ b.length → Ev (fun k => Z3.l0 k (I a) (I b) (I a) (a.length : Int) (i : Int)) (lexC (a.drop i) (b.drop i)) := by
  intro d
  induction d with
  | zero =>
   intro i hi hb
   refine ev_succ ?_
   have c1 : ¬ ((i : Int) < (a.length : Int)) := by omega
   rw [List.drop_of_length_le (l := a) (by omega)]
   simp only [Z3.l0, c1, I_len', if_false]
   by_cases h : (a.length : Int) < (b.length : Int)
   ·have : lexC [] (b.drop i) = -1 := by
     rw [List.drop_eq_getElem_cons (by omega)]
     rfl
    simp only [h, if_true, this]
    exact Ev.now _
   ·have : lexC [] (b.drop i) = 0 := by
     rw [List.drop_of_length_le (by omega)]
     rfl
    simp only [h, if_false, this]
    exact Ev.now _
  | succ d ih =>
   intro i hi hb
   have hia : i < a.length := by omega
   rw [List.drop_eq_getElem_cons hia, ← g_get hia]
   have c1 : (i : Int) < (a.length : Int) := by omega
   have c2 : (0 : Int) ≤ (i : Int) := by omega
   have c3 := w64s i (by omega)
   refine ev_succ ?_
   by_cases h : i < b.length
   ·rw [List.drop_eq_getElem_cons h, ← g_get h]
    have n1 : ¬ ((i : Int) ≥ (b.length : Int)) := by omega
    have n2 : (i : Int) < (b.length : Int) := by omega
    simp only [Z3.l0, c1, c2, c3, n1, n2, I_len', rdI, cmp_ev, Option.bind_some, if_true, if_false]
    unfold lexC
    by_cases h1 : g a i < g b i
    ·have z : ¬ ((-1 : Int) = 0) := by omega
     simp only [h1, z, if_true, if_false]
     exact Ev.now _
    ·by_cases h2 : g b i < g a i
     ·have z : ¬ ((1 : Int) = 0) := by omega
      simp only [h1, h2, z, if_true, if_false]
      exact Ev.now _
     ·simp only [h1, h2, if_true, if_false]
      exact ih (i + 1) (by omega) (by omega)
   ·have n1 : (i : Int) ≥ (b.length : Int) := by omega
    rw [List.drop_of_length_le (l := b) (by omega)]
    simp only [Z3.l0, c1, c2, n1, I_len', if_true]
    exact Ev.now _
 have key := H a.length 0 (Nat.zero_add _) (Nat.zero_le _)
 rw [List.drop_zero, List.drop_zero] at key
 simp only [I_len']
 exact key
theorem less_ev (a b : List Nat) (hl : a.length ≤ 1000000) (he : b.length = a.length) : Ev (fun k => Z59.f k (I a) (I b)) (decide (lexC a b < 0)) := by
 unfold Z59.f
 have H : ∀ d i : Nat, i + d = a.length → Ev (fun k => Z59.l0 k (I b) (I a) (a.length : Int) (i : Int)) (decide (lexC (a.drop i) (b.drop i) < 0)) := by
  intro d
  induction d with
  | zero =>
   intro i hi
   refine ev_succ ?_
   have c1 : ¬ ((i : Int) < (a.length : Int)) := by omega
   rw [List.drop_of_length_le (l := a) (by omega), List.drop_of_length_le (l := b) (by omega)]
   simp only [Z59.l0, c1, if_false]
   exact Ev.now _
  | succ d ih =>
   intro i hi
   have hia : i < a.length := by omega
   have hib : i < b.length := by omega
   rw [List.drop_eq_getElem_cons hia, ← g_get hia, List.drop_eq_getElem_cons hib, ← g_get hib]
   have c1 : (i : Int) < (a.length : Int) := by omega
   have c2 : (0 : Int) ≤ (i : Int) := by omega
   have n2 : (i : Int) < (b.length : Int) := by omega
   have c3 := w64s i (by omega)
   refine ev_succ ?_
   simp only [Z59.l0, c1, c2, c3, n2, I_len', rdI, if_true]
   unfold lexC
   by_cases h1 : g a i < g b i
   ·have z1 : ¬ (((g a i : Nat) : Int) = ((g b i : Nat) : Int)) := by omega
    have z2 : decide (((g a i : Nat) : Int) < ((g b i : Nat) : Int)) = true := by rw [decide_eq_true_iff]; omega
    have z3 : decide ((-1 : Int) < 0) = true := by decide
    simp only [h1, z1, z2, z3, if_true, if_false]
    exact Ev.now _
   ·by_cases h2 : g b i < g a i
    ·have z1 : ¬ (((g a i : Nat) : Int) = ((g b i : Nat) : Int)) := by omega
     have z2 : decide (((g a i : Nat) : Int) < ((g b i : Nat) : Int)) = false := by rw [decide_eq_false_iff_not]; omega
     have z3 : decide ((1 : Int) < 0) = false := by decide
     simp only [h1, h2, z1, z2, z3, if_true, if_false]
     exact Ev.now _
    ·have z1 : ((g a i : Nat) : Int) = ((g b i : Nat) : Int) := by omega
     simp only [h1, h2, z1, if_true, if_false]
     exact ih (i + 1) (by omega)
 have key := H a.length 0 (Nat.zero_add _)
 rw [List.drop_zero, List.drop_zero] at key
 simp only [I_len']
 exact key
def cmpS (a b : List Nat × List Nat) : Int := if lexC a.1 b.1 = 0 then lexC a.2 b.2 else lexC a.1 b.1
theorem impl_cmpS (a b : List Nat × List Nat) (h1 : a.1.length ≤ 1000000) (h2 : a.2.length ≤ 1000000) : Ev (fun k => Z4.f k (I a.1) (I a.2) (I b.1) (I b.2)) (cmpS a b) := by
 unfold Z4.f cmpS
 refine Ev.bind (compare_ev a.1 b.1 h1) ?_
 by_cases h : lexC a.1 b.1 = 0
 ·simp only [h, if_true]
  exact Ev.bind (compare_ev a.2 b.2 h2) (Ev.now _)
 ·simp only [h, if_false]
  exact Ev.now _
theorem sameList_nat (a b : List Nat) (h : a.length ≤ 1000000000) : Ev (fun k => Z52.f k (I a) (I b)) (decide (a = b)) := by
 unfold Z52.f
 by_cases hl : (a.length : Int) = (b.length : Int)
 ·have hl' : a.length = b.length := by omega
  simp only [I_len', hl, ne_eq, not_true_eq_false, if_false, if_true]
  have H : ∀ d i : Nat, i + d = a.length → Ev (fun k => Z52.l0 k (I b) (I a) (b.length : Int) (i : Int)) (decide (a.drop i = b.drop i)) := by
   intro d
   induction d with
   | zero =>
    intro i hi
    refine ev_succ ?_
    have c1 : ¬ ((i : Int) < (b.length : Int)) := by omega
    have e : decide (a.drop i = b.drop i) = true := by rw [List.drop_of_length_le (by omega), List.drop_of_length_le (by omega)]; simp
    simp only [Z52.l0, c1, if_false, e]
    exact Ev.now _
   | succ d ih =>
    intro i hi
    have hia : i < a.length := by omega
    have hib : i < b.length := by omega
    rw [List.drop_eq_getElem_cons hia, ← g_get hia, List.drop_eq_getElem_cons hib, ← g_get hib]
    have c1 : (i : Int) < (b.length : Int) := by omega
    have c2 : (0 : Int) ≤ (i : Int) := by omega
    have c4 : (i : Int) < (a.length : Int) := by omega
    have c3 := w64s i (by omega)
    refine ev_succ ?_
    by_cases he : g a i = g b i
    ·have z : ((g a i : Nat) : Int) = ((g b i : Nat) : Int) := by omega
     have e : decide (g a i :: a.drop (i + 1) = g b i :: b.drop (i + 1)) = decide (a.drop (i + 1) = b.drop (i + 1)) := by simp [he]
     rw [e]
     simp only [Z52.l0, c1, c2, c3, c4, I_len', rdI, z, if_true]
     exact ih (i + 1) (by omega)
    ·have z : ¬ (((g a i : Nat) : Int) = ((g b i : Nat) : Int)) := by omega
     have e : decide (g a i :: a.drop (i + 1) = g b i :: b.drop (i + 1)) = false := by simp [he]
     rw [e]
     simp only [Z52.l0, c1, c2, c4, I_len', rdI, z, if_true, if_false]
     exact Ev.now _
  have key := H a.length 0 (Nat.zero_add _)
  rw [List.drop_zero, List.drop_zero] at key
  exact key
 ·have e : decide (a = b) = false := by
   rw [decide_eq_false_iff_not]
   intro e
   rw [e] at hl
   exact hl rfl
  simp only [I_len', hl, ne_eq, not_false_eq_true, if_true, if_false, e]
  exact Ev.now _
theorem spec_before (a b : List Nat × List Nat) (h1 : a.1.length ≤ 1000000) (h2 : a.2.length ≤ 1000000) (e1 : b.1.length = a.1.length) (e2 : b.2.length = a.2.length) : Ev (fun k => Z36.f k (I a.1) (I a.2) (I b.1) (I b.2)) (decide (cmpS a b < 0)) := by
 unfold Z36.f cmpS
 refine Ev.bind (sameList_nat a.1 b.1 (by omega)) ?_
 by_cases h : a.1 = b.1
 ·have z := (lexC_eq a.1 b.1).mpr h
  rw [z]
  simp only [h, decide_true, if_true]
  exact Ev.bind (less_ev a.2 b.2 h2 e2) (Ev.now _)
 ·have z : ¬ lexC a.1 b.1 = 0 := fun k => h ((lexC_eq _ _).mp k)
  simp only [h, z, decide_false, Bool.false_eq_true, if_false]
  exact Ev.bind (less_ev a.1 b.1 h1 e1) (Ev.now _)
def rS (r u : List Nat) (s : Nat) : List Nat × List Nat := rnS r u (nm r u s)
theorem rS_len {r u : List Nat} (s : Nat) : (rS r u s).1.length = r.length ∧ (rS r u s).2.length = u.length := ⟨ren_len _ _, ren_len _ _⟩
def canK (r u : List Nat) : Nat → List Nat × List Nat
 | 0 => rS r u 0
 | k + 1 => if cmpS (rS r u (k + 1)) (canK r u k) < 0 then rS r u (k + 1) else canK r u k
theorem canK_len {r u : List Nat} (k : Nat) : (canK r u k).1.length = r.length ∧ (canK r u k).2.length = u.length := by
 induction k with
 | zero => exact rS_len 0
 | succ k ih =>
  unfold canK
  split
  ·exact rS_len _
  ·exact ih
def canS (r u : List Nat) : List Nat × List Nat := canK r u (r.length - 1)
theorem spec_canon {r u : List Nat} (hs : Sf r u) : Ev (fun k => Z54.f k (I r) (I u)) (I (canS r u).1, I (canS r u).2) := by
 have hle := hs.le
 have heq := hs.eq
 have hpos := hs.pos
 unfold Z54.f
 have e0 := spec_names hs hpos
 have q0 := isP_nm hs hpos
 refine Ev.bind e0 (Ev.bind (spec_renS hs q0.1 q0.2) ?_)
 have H : ∀ d i : Nat, i + 1 + d = r.length → Ev (fun k => Z54.l0 k ((i + 1 : Nat) : Int) (I r) (I u) (I (canK r u i).1) (I (canK r u i).2)) (I (canS r u).1, I (canS r u).2) := by
  intro d
  induction d with
  | zero =>
   intro i hi
   refine ev_succ ?_
   have c1 : ¬ (((i + 1 : Nat) : Int) < (r.length : Int)) := by omega
   have e : canS r u = canK r u i := by
    unfold canS
    congr 1
    omega
   rw [e]
   simp only [Z54.l0, c1, I_len', if_false]
   exact Ev.now _
  | succ d ih =>
   intro i hi
   have hi1 : i + 1 < r.length := by omega
   have q1 := isP_nm hs hi1
   have c1 : ((i + 1 : Nat) : Int) < (r.length : Int) := by omega
   have c3 := w64s (i + 1) (by omega)
   have lk := canK_len (r := r) (u := u) i
   have lr := rS_len (r := r) (u := u) (i + 1)
   refine ev_succ ?_
   simp only [Z54.l0, c1, c3, I_len', if_true]
   refine Ev.bind (spec_names hs hi1) (Ev.bind (spec_renS hs q1.1 q1.2) ?_)
   refine Ev.bind (spec_before (rS r u (i + 1)) (canK r u i) (by rw [lr.1]; omega) (by rw [lr.2]; omega) (by rw [lr.1, lk.1]) (by rw [lr.2, lk.2])) ?_
   have key := ih (i + 1) (by omega)
   unfold canK at key
   by_cases h : cmpS (rS r u (i + 1)) (canK r u i) < 0
   ·rw [if_pos h] at key
    simp only [h, decide_true, if_true]
    exact key
   ·rw [if_neg h] at key
    simp only [h, decide_false, Bool.false_eq_true, if_false]
    exact key
 have key := H (r.length - 1) 0 (by omega)
 exact key
def namedL (r u : List Nat) (n : Nat) : List S38 := (List.range n).map (fun s => (⟨I (rS r u s).1, I (rS r u s).2⟩ : S38))
theorem namedL_len (r u : List Nat) (n : Nat) : (namedL r u n).length = n := by simp [namedL]
theorem rd_named {r u : List Nat} {n i : Nat} (h : i < n) : rd_T38 (namedL r u n) (i : Int) = ⟨I (rS r u i).1, I (rS r u i).2⟩ := by
 unfold rd_T38 namedL
 simp [List.getD_eq_getElem?_getD, h]
theorem count_sq {r u : List Nat} (hs : Sf r u) : Ev (fun k => Z8.f k (I r) (I u)) (r.length : Int) := by
 unfold Z8.f
 refine Ev.bind (impl_surf _ _) ?_
 have h0 := surfB_I.mpr hs
 simp only [h0, I_len', if_true]
 exact Ev.now _
theorem impl_named {r u : List Nat} (hs : Sf r u) : Ev (fun k => Z30.f k (I r) (I u)) (namedL r u r.length) := by
 have hle := hs.le
 unfold Z30.f
 have H : ∀ d i : Nat, i + d = r.length → Ev (fun k => Z30.l0 k (namedL r u i) (i : Int) (I r) (I u)) (namedL r u r.length) := by
  intro d
  induction d with
  | zero =>
   intro i hi
   obtain rfl : i = r.length := by omega
   refine ev_succ ?_
   simp only [Z30.l0]
   refine Ev.bind (count_sq hs) ?_
   have c1 : ¬ ((r.length : Int) < (r.length : Int)) := by omega
   simp only [c1, if_false]
   exact Ev.now _
  | succ d ih =>
   intro i hi
   have hil : i < r.length := by omega
   have q1 := isP_nm hs hil
   refine ev_succ ?_
   simp only [Z30.l0]
   refine Ev.bind (count_sq hs) ?_
   have c1 : (i : Int) < (r.length : Int) := by omega
   have c2 : (namedL r u i).length < 2932031007402 := by rw [namedL_len]; omega
   have c3 := w64s i (by omega)
   simp only [c1, if_true]
   refine Ev.bind (impl_names hs hil) (Ev.bind (impl_renS hs q1.1 q1.2) ?_)
   have e : namedL r u i ++ [(⟨I (rnS r u (nm r u i)).1, I (rnS r u (nm r u i)).2⟩ : S38)] = namedL r u (i + 1) := by
    unfold namedL
    rw [List.range_succ, List.map_append]
    rfl
   simp only [c2, c3, e, if_true]
   exact ih (i + 1) (by omega)
 exact H r.length 0 (Nat.zero_add _)
theorem impl_canon {r u : List Nat} (hs : Sf r u) : Ev (fun k => Z57.f k (I r) (I u)) (I (canS r u).1, I (canS r u).2, true) := by
 have hle := hs.le
 have heq := hs.eq
 have hpos := hs.pos
 unfold Z57.f
 refine Ev.bind (impl_named hs) ?_
 have c0 : ¬ ((r.length : Int) = 0) := by omega
 simp only [namedL_len, c0, if_false]
 refine Ev.bind (a := (I (canS r u).1, I (canS r u).2)) ?_ (Ev.now _)
 unfold Z20.f
 have c1 : ¬ ((r.length : Int) < 1) := by omega
 have c2 : (0 : Int) < (r.length : Int) := by omega
 have e0 : rd_T38 (namedL r u r.length) 0 = ⟨I (canK r u 0).1, I (canK r u 0).2⟩ := rd_named hpos
 simp only [namedL_len, c1, c2, e0, if_true, if_false]
 have H : ∀ d i : Nat, i + 1 + d = r.length → Ev (fun k => Z20.l0 k (namedL r u r.length) ((i + 1 : Nat) : Int) (I (canK r u i).1) (I (canK r u i).2)) (I (canS r u).1, I (canS r u).2) := by
  intro d
  induction d with
  | zero =>
   intro i hi
   refine ev_succ ?_
   have c1 : ¬ (((i + 1 : Nat) : Int) < (r.length : Int)) := by omega
   have e : canS r u = canK r u i := by
    unfold canS
    congr 1
    omega
   rw [e]
   simp only [Z20.l0, c1, namedL_len, if_false]
   exact Ev.now _
  | succ d ih =>
   intro i hi
   have hi1 : i + 1 < r.length := by omega
   have c1 : ((i + 1 : Nat) : Int) < (r.length : Int) := by omega
   have c2 : (0 : Int) ≤ ((i + 1 : Nat) : Int) := by omega
   have c4 : rd_T38 (namedL r u r.length) ((i + 1 : Nat) : Int) = ⟨I (rS r u (i + 1)).1, I (rS r u (i + 1)).2⟩ := rd_named hi1
   have c3 := w64s (i + 1) (by omega)
   have lr := rS_len (r := r) (u := u) (i + 1)
   refine ev_succ ?_
   simp only [Z20.l0, c1, c2, c3, c4, namedL_len, if_true]
   refine Ev.bind (impl_cmpS (rS r u (i + 1)) (canK r u i) (by rw [lr.1]; omega) (by rw [lr.2]; omega)) ?_
   have key := ih (i + 1) (by omega)
   unfold canK at key
   by_cases h : cmpS (rS r u (i + 1)) (canK r u i) < 0
   ·rw [if_pos h] at key
    simp only [h, if_true]
    exact key
   ·rw [if_neg h] at key
    simp only [h, if_false]
    exact key
 exact H (r.length - 1) 0 (by omega)
theorem impl_canon_no {r u : List Int} (h : ¬ surfB r u = true) : Ev (fun k => Z57.f k r u) ([], [], false) := by
 have h' := Bool.eq_false_iff.mpr h
 unfold Z57.f
 refine Ev.bind (a := ([] : List S38)) ?_ ?_
 ·unfold Z30.f
  refine ev_succ ?_
  simp only [Z30.l0]
  refine Ev.bind (a := (0 : Int)) ?_ ?_
  ·unfold Z8.f
   refine Ev.bind (impl_surf _ _) ?_
   simp only [h', Bool.false_eq_true, if_false]
   exact Ev.now _
  ·have c1 : ¬ ((0 : Int) < 0) := by omega
   simp only [c1, if_false]
   exact Ev.now _
 ·simp only [List.length_nil]
  exact Ev.now _
theorem equal_ev (a b : List Nat) (h : a.length ≤ 1000000000) : Ev (fun k => Z44.f k (I a) (I b)) (decide (a = b)) := by
 unfold Z44.f Z5.f
 refine Ev.bind (a := decide (a = b)) ?_ (Ev.now _)
 by_cases hl : (a.length : Int) = (b.length : Int)
 ·have hl' : a.length = b.length := by omega
  simp only [I_len', hl, if_true]
  have H : ∀ d i : Nat, i + d = a.length → Ev (fun k => Z5.l0 k (I a) (I b) (b.length : Int) (i : Int)) (decide (a.drop i = b.drop i)) := by
   intro d
   induction d with
   | zero =>
    intro i hi
    refine ev_succ ?_
    have c1 : ¬ ((i : Int) < (b.length : Int)) := by omega
    have e : decide (a.drop i = b.drop i) = true := by rw [List.drop_of_length_le (by omega), List.drop_of_length_le (by omega)]; simp
    simp only [Z5.l0, c1, if_false, e]
    exact Ev.now _
   | succ d ih =>
    intro i hi
    have hia : i < a.length := by omega
    have hib : i < b.length := by omega
    rw [List.drop_eq_getElem_cons hia, ← g_get hia, List.drop_eq_getElem_cons hib, ← g_get hib]
    have c1 : (i : Int) < (b.length : Int) := by omega
    have c2 : (0 : Int) ≤ (i : Int) := by omega
    have c4 : (i : Int) < (a.length : Int) := by omega
    have c3 := w64s i (by omega)
    refine ev_succ ?_
    by_cases he : g a i = g b i
    ·have z : ((g a i : Nat) : Int) = ((g b i : Nat) : Int) := by omega
     have e : decide (g a i :: a.drop (i + 1) = g b i :: b.drop (i + 1)) = decide (a.drop (i + 1) = b.drop (i + 1)) := by simp [he]
     rw [e]
     simp only [Z5.l0, c1, c2, c3, c4, I_len', rdI, z, if_true]
     exact ih (i + 1) (by omega)
    ·have z : ¬ (((g a i : Nat) : Int) = ((g b i : Nat) : Int)) := by omega
     have e : decide (g a i :: a.drop (i + 1) = g b i :: b.drop (i + 1)) = false := by simp [he]
     rw [e]
     simp only [Z5.l0, c1, c2, c4, I_len', rdI, z, if_true, if_false]
     exact Ev.now _
  have key := H a.length 0 (Nat.zero_add _)
  rw [List.drop_zero, List.drop_zero] at key
  exact key
 ·have e : decide (a = b) = false := by
   rw [decide_eq_false_iff_not]
   intro e
   rw [e] at hl
   exact hl rfl
  simp only [I_len', hl, if_false, e]
  exact Ev.now _
end Go.Proofs.YtoijcallajegfaaGreat.M
end
section
/- The order of surfaces. No conditions. -/
namespace Go.Proofs.YtoijcallajegfaaGreat.M
set_option linter.unusedVariables false
set_option linter.unusedSimpArgs false
open Go.RowKit Go.Proofs.YtoijcallajegfaaGreatW.PrintWords Go.Proofs.YtoijcallajegfaaGreatW.PrintLast Go.Proofs.YtoijcallajegfaaGreatW.PrintMore Go.Proofs.YtoijcallajegfaaGreat.A
theorem lexC_neg : ∀ (a b : List Nat), lexC b a = - lexC a b := by
 intro a
 induction a with
 | nil => intro b; cases b <;> simp [lexC]
 | cons x a ih =>
  intro b
  cases b with
  | nil => simp [lexC]
  | cons y b =>
   unfold lexC
   by_cases h1 : x < y
   ·have h2 : ¬ y < x := by omega
    simp [h1, h2]
   ·by_cases h2 : y < x
    ·simp [h1, h2]
    ·simp [h1, h2, ih]
theorem lexC_tr : ∀ (a b c : List Nat), lexC a b < 0 → lexC b c < 0 → lexC a c < 0 := by
 intro a
 induction a with
 | nil =>
  intro b c h1 h2
  cases c with
  | nil => cases b <;> simp [lexC] at h1 h2
  | cons z c => simp [lexC]
 | cons x a ih =>
  intro b c h1 h2
  cases b with
  | nil => simp [lexC] at h1
  | cons y b =>
   cases c with
   | nil => simp [lexC] at h2
   | cons z c =>
    unfold lexC at h1 h2 ⊢
    by_cases p1 : x < y
    ·by_cases p2 : y < z
     ·have : x < z := by omega
      simp [this]
     ·by_cases p3 : z < y
      ·simp [p2, p3] at h2
      ·have : x < z := by omega
       simp [this]
    ·by_cases q1 : y < x
     ·simp [p1, q1] at h1
     ·have e : x = y := by omega
      subst e
      by_cases p2 : x < z
      ·simp [p2]
      ·by_cases p3 : z < x
       ·simp [p2, p3] at h2
       ·simp only [p2, p3, if_false] at h2 ⊢
        simp only [p1, q1, if_false] at h1
        exact ih b c h1 h2
theorem cmpS_eq (a b : List Nat × List Nat) : cmpS a b = 0 ↔ a = b := by
 unfold cmpS
 by_cases h : lexC a.1 b.1 = 0
 ·rw [if_pos h]
  have e := (lexC_eq _ _).1 h
  constructor
  ·intro h2
   exact Prod.ext e ((lexC_eq _ _).1 h2)
  ·intro h2
   rw [h2]
   exact (lexC_eq _ _).2 rfl
 ·rw [if_neg h]
  constructor
  ·intro h2; exact absurd h2 h
  ·intro h2
   rw [h2] at h
   exact absurd ((lexC_eq _ _).2 rfl) h
theorem cmpS_neg (a b : List Nat × List Nat) : cmpS b a = - cmpS a b := by
 unfold cmpS
 have h1 := lexC_neg a.1 b.1
 have h2 := lexC_neg a.2 b.2
 by_cases h : lexC a.1 b.1 = 0
 ·have h' : lexC b.1 a.1 = 0 := by omega
  rw [if_pos h, if_pos h', h2]
 ·have h' : ¬ lexC b.1 a.1 = 0 := by omega
  rw [if_neg h, if_neg h', h1]
theorem cmpS_tr (a b c : List Nat × List Nat) (h1 : cmpS a b < 0) (h2 : cmpS b c < 0) : cmpS a c < 0 := by
 unfold cmpS at *
 by_cases p : lexC a.1 b.1 = 0
 ·rw [if_pos p] at h1
  have e := (lexC_eq _ _).1 p
  rw [e]
  by_cases q : lexC b.1 c.1 = 0
  ·rw [if_pos q] at h2 ⊢
   exact lexC_tr _ _ _ h1 h2
  ·rw [if_neg q] at h2 ⊢
   exact h2
 ·rw [if_neg p] at h1
  by_cases q : lexC b.1 c.1 = 0
  ·rw [if_pos q] at h2
   have e := (lexC_eq _ _).1 q
   rw [← e, if_neg p]
   exact h1
  ·rw [if_neg q] at h2
   have := lexC_tr _ _ _ h1 h2
   rw [if_neg (by omega)]
   exact this
theorem cmpS_le_tr (a b c : List Nat × List Nat) (h1 : ¬ cmpS a b < 0) (h2 : ¬ cmpS b c < 0) : ¬ cmpS a c < 0 := by
 intro h3
 have n1 := cmpS_neg a b
 have n2 := cmpS_neg b c
 have n3 := cmpS_neg a c
 by_cases e1 : cmpS a b = 0
 ·rw [(cmpS_eq _ _).1 e1] at h3; exact h2 h3
 ·by_cases e2 : cmpS b c = 0
  ·rw [← (cmpS_eq _ _).1 e2] at h3; exact h1 h3
  ·have := cmpS_tr c b a (by omega) (by omega)
   omega
end Go.Proofs.YtoijcallajegfaaGreat.M
end
section
/- A list of surfaces sorted, each once. No conditions. -/
namespace Go.Proofs.YtoijcallajegfaaGreat.M
set_option linter.unusedVariables false
set_option linter.unusedSimpArgs false
open Go.RowKit Go.Proofs.YtoijcallajegfaaGreatW.PrintWords Go.Proofs.YtoijcallajegfaaGreatW.PrintLast Go.Proofs.YtoijcallajegfaaGreatW.PrintMore Go.Proofs.YtoijcallajegfaaGreat.A
def toN (x : S38) : List Nat × List Nat := (x.f0.map Int.toNat, x.f1.map Int.toNat)
def ofN (p : List Nat × List Nat) : S38 := ⟨I p.1, I p.2⟩
theorem toN_ofN (p : List Nat × List Nat) : toN (ofN p) = p := by
 have h : ∀ l : List Nat, (I l).map Int.toNat = l := fun l => by simp [I, List.map_map, Function.comp_def]
 exact Prod.ext (h p.1) (h p.2)
def NN (l : List Int) : Prop := (∀ a ∈ l, 0 ≤ a) ∧ l.length ≤ 1000000
instance (l : List Int) : Decidable (NN l) := inferInstanceAs (Decidable (_ ∧ _))
theorem NN_I {l : List Int} (h : NN l) : I (l.map Int.toNat) = l := by
 unfold I
 rw [List.map_map]
 conv => rhs; rw [← List.map_id l]
 apply List.map_congr_left
 intro x hx
 have := h.1 x hx
 exact Int.toNat_of_nonneg this
theorem I_NN {l : List Nat} (h : l.length ≤ 1000000) : NN (I l) := by
 refine ⟨fun a ha => ?_, by simpa [I] using h⟩
 obtain ⟨n, _, rfl⟩ := List.mem_map.1 ha
 exact Int.natCast_nonneg n
def okS (x : S38) : Prop := NN x.f0 ∧ NN x.f1
instance (x : S38) : Decidable (okS x) := inferInstanceAs (Decidable (_ ∧ _))
theorem okS_of {x : S38} (h : okS x) : ofN (toN x) = x := by
 show (⟨I (x.f0.map Int.toNat), I (x.f1.map Int.toNat)⟩ : S38) = x
 rw [NN_I h.1, NN_I h.2]
def sortS (l : List (List Nat × List Nat)) : List (List Nat × List Nat) := cpt (fun a b => decide (a = b)) (l.mergeSort (fun a b => decide (¬ cmpS b a < 0)))
theorem sort_uniq {l l' : List (List Nat × List Nat)} (hp : l'.Perm l) (hs : l'.Pairwise (fun a b => ¬ cmpS b a < 0)) : l' = l.mergeSort (fun a b => decide (¬ cmpS b a < 0)) := by
 refine List.Perm.eq_of_pairwise (le := fun a b => ¬ cmpS b a < 0) ?_ hs ?_ (hp.trans (List.mergeSort_perm l _).symm)
 ·intro a b _ _ h1 h2
  have := cmpS_neg a b
  exact (cmpS_eq _ _).1 (by omega)
 ·have := List.pairwise_mergeSort (le := fun a b => decide (¬ cmpS b a < 0)) (fun a b c h1 h2 => decide_eq_true (cmpS_le_tr c b a (of_decide_eq_true h2) (of_decide_eq_true h1))) (fun a b => by
   have := cmpS_neg a b
   simp only [Bool.or_eq_true, decide_eq_true_eq]
   omega) l
  exact this.imp (fun h => of_decide_eq_true h)
end Go.Proofs.YtoijcallajegfaaGreat.M
end
section
/- What comparing two surfaces leaves behind. No conditions. -/
namespace Go.Proofs.YtoijcallajegfaaGreat.M
set_option linter.unusedVariables false
set_option linter.unusedSimpArgs false
open Go Go.RowKit Go.Proofs.YtoijcallajegfaaGreatW.PrintWords Go.Proofs.YtoijcallajegfaaGreatW.PrintLast Go.Proofs.YtoijcallajegfaaGreatW.PrintMore Go.Proofs.YtoijcallajegfaaGreat.A Go.Sort
def Ex (W w' : World) : Prop := ∃ q os', w' = grow (W.drewN q) os'
theorem Ex.refl (W : World) : Ex W W := ⟨0, #[], by rw [grow_empty]; rfl⟩
theorem Ex.alloc {W w' : World} (h : Ex W w') (o : Obj) : Ex W (w'.alloc o) := by
 obtain ⟨q, os, rfl⟩ := h
 exact ⟨q, os ++ #[o], by rw [alloc_eq_grow, grow_grow]⟩
theorem Ex.drewN {W w' : World} (h : Ex W w') (n : Nat) : Ex W (w'.drewN n) := by
 obtain ⟨q, os, rfl⟩ := h
 exact ⟨q + n, os, by rw [← World.drewN_drewN]; rfl⟩
theorem Ex.drew {W w' : World} (h : Ex W w') : Ex W w'.drew := h.drewN 1
theorem Ex.below {W w' : World} (h : Ex W w') : Go.RowKit.Below W.heap.size W w' := by
 obtain ⟨q, os, rfl⟩ := h
 refine ⟨rfl, rfl, rfl, ?_, fun k hk => ?_⟩
 ·show W.heap.size ≤ (W.heap ++ os).size
  simp
 ·show (W.heap ++ os)[k]? = _
  rw [Array.getElem?_append_left hk]
set_option maxHeartbeats 4000000 in
set_option maxRecDepth 100000 in
theorem cmp_exact (W : World) (x y : S38) (cx cy : List Value) (hx : okS x) (hy : okS y) (h1 : k38.K W x cx) (h2 : k38.K W y cy) :
  Calls Tryz.prog 57 #[.agg cx.toArray, .agg cy.toArray] W fun e w' => e = .returned (.int .i64 (cmpS (toN x) (toN y))) ∧ ∃ q os', w' = grow (W.drewN q) os' := by
 obtain ⟨A0, c0, A1, c1, rfl, l0, g0, l1, g1⟩ := k38_open h1
 obtain ⟨B0, d0, B1, d1, rfl, m0, e0, m1, e1⟩ := k38_open h2
 obtain ⟨ka, hka⟩ := compare_ev (toN x).1 (toN y).1 (by have := hx.1.2; simpa [toN] using this)
 obtain ⟨kb, hkb⟩ := compare_ev (toN x).2 (toN y).2 (by have := hx.2.2; simpa [toN] using this)
 have ha := hka ka (Nat.le_refl _)
 have hb := hkb kb (Nat.le_refl _)
 have ix0 : I (toN x).1 = x.f0 := NN_I hx.1
 have ix1 : I (toN x).2 = x.f1 := NN_I hx.2
 have iy0 : I (toN y).1 = y.f0 := NN_I hy.1
 have iy1 : I (toN y).2 = y.f1 := NN_I hy.2
 rw [ix0, iy0] at ha
 rw [ix1, iy1] at hb
 have HA : Aside (∀ w', Ex W w' → Calls Tryz.prog 26 #[.slice A0 x.f0.length c0, .slice B0 y.f0.length d0] w' fun e w2 => e = .returned (.int .i64 (lexC (toN x).1 (toN y).1)) ∧ ∃ n, w2 = w'.drewN n) := fun w' hw => (Z3.calls ka A0 c0 x.f0 B0 d0 y.f0 _ w' (Kd.C_below g0 hw.below) l0 (Kd.C_below e0 hw.below) m0 ha).mono fun _ _ h => ⟨h.1, by obtain ⟨n, rfl⟩ := h.2; exact ⟨n, rfl⟩⟩
 have HB : Aside (∀ w', Ex W w' → Calls Tryz.prog 26 #[.slice A1 x.f1.length c1, .slice B1 y.f1.length d1] w' fun e w2 => e = .returned (.int .i64 (lexC (toN x).2 (toN y).2)) ∧ ∃ n, w2 = w'.drewN n) := fun w' hw => (Z3.calls kb A1 c1 x.f1 B1 d1 y.f1 _ w' (Kd.C_below g1 hw.below) l1 (Kd.C_below e1 hw.below) m1 hb).mono fun _ _ h => ⟨h.1, by obtain ⟨n, rfl⟩ := h.2; exact ⟨n, rfl⟩⟩
 clear ha hb hka hkb ix0 ix1 iy0 iy1 g0 g1 e0 e1 l0 l1 m0 m1 hx hy h1 h2
 have hu := Tryz.underlying38
 unfold cmpS
 generalize lexC (toN x).1 (toN y).1 = ra at HA ⊢
 generalize lexC (toN x).2 (toN y).2 = rb at HB ⊢
 generalize x.f0.length = n0 at HA ⊢
 generalize x.f1.length = n1 at HB ⊢
 generalize y.f0.length = n2 at HA ⊢
 generalize y.f1.length = n3 at HB ⊢
 go_enter Tryz.func57, Tryz.ntmps57
 by_cases hr : ra = 0
 ·subst hr
  have hr1 : ((0 : Int) != 0) = false := rfl
  go_wp2_with (first | (go_at_call 26; (with_reducible refine (HA.out _ ?side).mono ?_); (case side => repeat (first | (with_reducible exact Ex.refl _) | with_reducible apply Ex.alloc | with_reducible apply Ex.drewN | with_reducible apply Ex.drew)); rintro e w' ⟨rfl, n, rfl⟩) | (go_at_call 26; (with_reducible refine (HB.out _ ?side).mono ?_); (case side => repeat (first | (with_reducible exact Ex.refl _) | with_reducible apply Ex.alloc | with_reducible apply Ex.drewN | with_reducible apply Ex.drew)); rintro e w' ⟨rfl, n, rfl⟩))
  go_ret
  exact ⟨rfl, by show Ex W _; repeat (first | (with_reducible exact Ex.refl _) | with_reducible apply Ex.alloc | with_reducible apply Ex.drewN | with_reducible apply Ex.drew)⟩
 ·have hr1 : (ra != 0) = true := bne_iff_ne.mpr hr
  have hr2 : (ra == 0) = false := beq_eq_false_iff_ne.mpr hr
  go_wp2_with (first | (go_at_call 26; (with_reducible refine (HA.out _ ?side).mono ?_); (case side => repeat (first | (with_reducible exact Ex.refl _) | with_reducible apply Ex.alloc | with_reducible apply Ex.drewN | with_reducible apply Ex.drew)); rintro e w' ⟨rfl, n, rfl⟩) | (go_at_call 26; (with_reducible refine (HB.out _ ?side).mono ?_); (case side => repeat (first | (with_reducible exact Ex.refl _) | with_reducible apply Ex.alloc | with_reducible apply Ex.drewN | with_reducible apply Ex.drew)); rintro e w' ⟨rfl, n, rfl⟩))
  go_ret
  exact ⟨rfl, by show Ex W _; repeat (first | (with_reducible exact Ex.refl _) | with_reducible apply Ex.alloc | with_reducible apply Ex.drewN | with_reducible apply Ex.drew)⟩
set_option maxHeartbeats 4000000 in
set_option maxRecDepth 100000 in
theorem same_exact (W : World) (x y : S38) (cx cy : List Value) (hx : okS x) (hy : okS y) (h1 : k38.K W x cx) (h2 : k38.K W y cy) :
  Calls Tryz.prog 60 #[.agg cx.toArray, .agg cy.toArray] W fun e w' => e = .returned (.bool (decide (toN x = toN y))) ∧ ∃ q os', w' = grow (W.drewN q) os' := by
 obtain ⟨A0, c0, A1, c1, rfl, l0, g0, l1, g1⟩ := k38_open h1
 obtain ⟨B0, d0, B1, d1, rfl, m0, e0, m1, e1⟩ := k38_open h2
 obtain ⟨ka, hka⟩ := equal_ev (toN x).1 (toN y).1 (by have := hx.1.2; simp [toN]; omega)
 obtain ⟨kb, hkb⟩ := equal_ev (toN x).2 (toN y).2 (by have := hx.2.2; simp [toN]; omega)
 have ha := hka ka (Nat.le_refl _)
 have hb := hkb kb (Nat.le_refl _)
 have ix0 : I (toN x).1 = x.f0 := NN_I hx.1
 have ix1 : I (toN x).2 = x.f1 := NN_I hx.2
 have iy0 : I (toN y).1 = y.f0 := NN_I hy.1
 have iy1 : I (toN y).2 = y.f1 := NN_I hy.2
 rw [ix0, iy0] at ha
 rw [ix1, iy1] at hb
 have hd : decide (toN x = toN y) = (if decide ((toN x).1 = (toN y).1) = true then decide ((toN x).2 = (toN y).2) else false) := by
  by_cases p : (toN x).1 = (toN y).1
  ·by_cases q : (toN x).2 = (toN y).2
   ·have e : toN x = toN y := Prod.ext p q
    simp [e]
   ·have e : toN x ≠ toN y := fun e => q (by rw [e])
    simp [e, p, q]
  ·have e : toN x ≠ toN y := fun e => p (by rw [e])
   simp [e, p]
 rw [hd]
 generalize decide ((toN x).1 = (toN y).1) = ra at ha ⊢
 generalize decide ((toN x).2 = (toN y).2) = rb at hb ⊢
 have HA : Aside (∀ w', Ex W w' → Calls Tryz.prog 28 #[.slice A0 x.f0.length c0, .slice B0 y.f0.length d0] w' fun e w2 => e = .returned (.bool ra) ∧ ∃ n, w2 = w'.drewN n) := fun w' hw => (Z44.calls ka A0 c0 x.f0 B0 d0 y.f0 _ w' (Kd.C_below g0 hw.below) l0 (Kd.C_below e0 hw.below) m0 ha).mono fun _ _ h => ⟨h.1, by obtain ⟨n, rfl⟩ := h.2; exact ⟨n, rfl⟩⟩
 have HB : Aside (∀ w', Ex W w' → Calls Tryz.prog 28 #[.slice A1 x.f1.length c1, .slice B1 y.f1.length d1] w' fun e w2 => e = .returned (.bool rb) ∧ ∃ n, w2 = w'.drewN n) := fun w' hw => (Z44.calls kb A1 c1 x.f1 B1 d1 y.f1 _ w' (Kd.C_below g1 hw.below) l1 (Kd.C_below e1 hw.below) m1 hb).mono fun _ _ h => ⟨h.1, by obtain ⟨n, rfl⟩ := h.2; exact ⟨n, rfl⟩⟩
 clear ha hb hka hkb ix0 ix1 iy0 iy1 g0 g1 e0 e1 l0 l1 m0 m1 hx hy h1 h2 hd
 have hu := Tryz.underlying38
 generalize x.f0.length = n0 at HA ⊢
 generalize x.f1.length = n1 at HB ⊢
 generalize y.f0.length = n2 at HA ⊢
 generalize y.f1.length = n3 at HB ⊢
 go_enter Tryz.func60, Tryz.ntmps60
 cases ra with
 | true =>
  go_wp2_with (first | (go_at_call 28; (with_reducible refine (HA.out _ ?side).mono ?_); (case side => repeat (first | (with_reducible exact Ex.refl _) | with_reducible apply Ex.alloc | with_reducible apply Ex.drewN | with_reducible apply Ex.drew)); rintro e w' ⟨rfl, n, rfl⟩) | (go_at_call 28; (with_reducible refine (HB.out _ ?side).mono ?_); (case side => repeat (first | (with_reducible exact Ex.refl _) | with_reducible apply Ex.alloc | with_reducible apply Ex.drewN | with_reducible apply Ex.drew)); rintro e w' ⟨rfl, n, rfl⟩))
  go_ret
  exact ⟨rfl, by show Ex W _; repeat (first | (with_reducible exact Ex.refl _) | with_reducible apply Ex.alloc | with_reducible apply Ex.drewN | with_reducible apply Ex.drew)⟩
 | false =>
  go_wp2_with (first | (go_at_call 28; (with_reducible refine (HA.out _ ?side).mono ?_); (case side => repeat (first | (with_reducible exact Ex.refl _) | with_reducible apply Ex.alloc | with_reducible apply Ex.drewN | with_reducible apply Ex.drew)); rintro e w' ⟨rfl, n, rfl⟩) | (go_at_call 28; (with_reducible refine (HB.out _ ?side).mono ?_); (case side => repeat (first | (with_reducible exact Ex.refl _) | with_reducible apply Ex.alloc | with_reducible apply Ex.drewN | with_reducible apply Ex.drew)); rintro e w' ⟨rfl, n, rfl⟩))
  go_ret
  exact ⟨rfl, by show Ex W _; repeat (first | (with_reducible exact Ex.refl _) | with_reducible apply Ex.alloc | with_reducible apply Ex.drewN | with_reducible apply Ex.drew)⟩
end Go.Proofs.YtoijcallajegfaaGreat.M
end
section
/- What the library's sort asks of this program: each by the kernel. No conditions. -/
namespace Go.Proofs
open Go.Shelf
def Tryz.sortA24_ren : Go.Shelf.Ren := ⟨fun | 6 => 24 | 15 => 42 | 14 => 41 | 28 => 72 | 29 => 73 | 20 => 64 | 21 => 65 | 22 => 66 | 23 => 67 | 24 => 68 | 25 => 69 | 26 => 70 | 27 => 71 | 46 => 92 | 47 => 93 | 48 => 94 | 49 => 95 | 50 => 96 | 57 => 119 | n => n, fun | 22 => 22 | 24 => 27 | 25 => 41 | 3 => 3 | 39 => 53 | 0 => 0 | 53 => 75 | 55 => 77 | 4 => 4 | 46 => 68 | 45 => 67 | 50 => 72 | 5 => 5 | 9 => 9 | 66 => 86 | 70 => 90 | 76 => 103 | 77 => 104 | n => n, fun | n => n⟩
theorem Tryz.sortA24 : Go.Proofs.SlLaysF.n6 Tryz.prog Tryz.sortA24_ren := {
 mixed := by kernel_rfl
 f6 := ⟨Tryz.f24.name, by decide, Tryz.func24.trans (congrArg some (by kernel_rfl))⟩
 f14 := ⟨Tryz.f41.name, by decide, Tryz.func41.trans (congrArg some (by kernel_rfl))⟩
 f15 := Tryz.func42.trans (congrArg some (by kernel_rfl))
 f20 := ⟨Tryz.f64.name, by decide, Tryz.func64.trans (congrArg some (by kernel_rfl))⟩
 f21 := ⟨Tryz.f65.name, by decide, Tryz.func65.trans (congrArg some (by kernel_rfl))⟩
 f22 := ⟨Tryz.f66.name, by decide, Tryz.func66.trans (congrArg some (by kernel_rfl))⟩
 f23 := ⟨Tryz.f67.name, by decide, Tryz.func67.trans (congrArg some (by kernel_rfl))⟩
 f24 := ⟨Tryz.f68.name, by decide, Tryz.func68.trans (congrArg some (by kernel_rfl))⟩
 f25 := ⟨Tryz.f69.name, by decide, Tryz.func69.trans (congrArg some (by kernel_rfl))⟩
 f26 := ⟨Tryz.f70.name, by decide, Tryz.func70.trans (congrArg some (by kernel_rfl))⟩
 f27 := ⟨Tryz.f71.name, by decide, Tryz.func71.trans (congrArg some (by kernel_rfl))⟩
 f28 := Tryz.func72.trans (congrArg some (by kernel_rfl))
 f29 := Tryz.func73.trans (congrArg some (by kernel_rfl))
 f46 := ⟨Tryz.f92.name, by decide, Tryz.func92.trans (congrArg some (by kernel_rfl))⟩
 f47 := Tryz.func93.trans (congrArg some (by kernel_rfl))
 f48 := Tryz.func94.trans (congrArg some (by kernel_rfl))
 f49 := ⟨Tryz.f95.name, by decide, Tryz.func95.trans (congrArg some (by kernel_rfl))⟩
 f50 := ⟨Tryz.f96.name, by decide, Tryz.func96.trans (congrArg some (by kernel_rfl))⟩
 f57 := ⟨Tryz.f119.name, by decide, Tryz.func119.trans (congrArg some (by kernel_rfl))⟩
 t0 := Tryz.underlying0
 a0 := Tryz.isAgg0
 z0 := Tryz.sizeOf0
 v0 := Tryz.zeroValue0
 t3 := Tryz.underlying3
 a3 := Tryz.isAgg3
 z3 := Tryz.sizeOf3
 v3 := Tryz.zeroValue3
 t4 := Tryz.underlying4
 a4 := Tryz.isAgg4
 z4 := Tryz.sizeOf4
 v4 := Tryz.zeroValue4
 t5 := Tryz.underlying5
 a5 := Tryz.isAgg5
 z5 := Tryz.sizeOf5
 v5 := Tryz.zeroValue5
 t9 := Tryz.underlying9
 a9 := Tryz.isAgg9
 z9 := Tryz.sizeOf9
 v9 := Tryz.zeroValue9
 t22 := Tryz.underlying22
 a22 := Tryz.isAgg22
 z22 := Tryz.sizeOf22
 v22 := Tryz.zeroValue22
 a24 := Tryz.isAgg27
 z24 := Tryz.sizeOf27
 t25 := Tryz.underlying41
 a25 := Tryz.isAgg41
 z25 := Tryz.sizeOf41
 v25 := Tryz.zeroValue41
 t39 := Tryz.underlying53
 a39 := Tryz.isAgg53
 z39 := Tryz.sizeOf53
 v39 := Tryz.zeroValue53
 t45 := Tryz.underlying67
 a45 := Tryz.isAgg67
 z45 := Tryz.sizeOf67
 v45 := Tryz.zeroValue67
 t46 := Tryz.underlying68
 a46 := Tryz.isAgg68
 z46 := Tryz.sizeOf68
 v46 := Tryz.zeroValue68
 t50 := Tryz.underlying72
 a50 := Tryz.isAgg72
 z50 := Tryz.sizeOf72
 v50 := Tryz.zeroValue72
 t53 := Tryz.underlying75
 a53 := Tryz.isAgg75
 z53 := Tryz.sizeOf75
 v53 := Tryz.zeroValue75
 t55 := Tryz.underlying77
 a55 := Tryz.isAgg77
 z55 := Tryz.sizeOf77
 v55 := Tryz.zeroValue77
 t66 := Tryz.underlying86
 a66 := Tryz.isAgg86
 z66 := Tryz.sizeOf86
 v66 := Tryz.zeroValue86
 t70 := Tryz.underlying90
 a70 := Tryz.isAgg90
 z70 := Tryz.sizeOf90
 v70 := Tryz.zeroValue90
 t76 := Tryz.underlying103
 a76 := Tryz.isAgg103
 z76 := Tryz.sizeOf103
 v76 := Tryz.zeroValue103
 t77 := Tryz.underlying104
 a77 := Tryz.isAgg104
 z77 := Tryz.sizeOf104
 v77 := Tryz.zeroValue104 }
def Tryz.sortB24_ren : Go.Shelf.Ren := ⟨fun | 6 => 24 | 15 => 42 | 14 => 41 | 28 => 72 | 29 => 73 | 20 => 64 | 21 => 65 | 22 => 66 | 23 => 67 | 24 => 68 | 25 => 69 | 26 => 70 | 27 => 71 | 46 => 92 | 47 => 93 | 48 => 94 | 49 => 95 | 50 => 96 | 57 => 119 | n => n, fun | 22 => 22 | 24 => 27 | 25 => 41 | 3 => 3 | 39 => 53 | 0 => 0 | 53 => 75 | 55 => 77 | 4 => 4 | 46 => 68 | 45 => 67 | 50 => 72 | 5 => 5 | 9 => 9 | 66 => 86 | 70 => 90 | 76 => 103 | 77 => 104 | n => n, fun | n => n⟩
theorem Tryz.sortB24 : Go.Proofs.SlLaysF0.n6 Tryz.prog Tryz.sortB24_ren := {
 mixed := by kernel_rfl
 f6 := ⟨Tryz.f24.name, by decide, Tryz.func24.trans (congrArg some (by kernel_rfl))⟩
 f14 := ⟨Tryz.f41.name, by decide, Tryz.func41.trans (congrArg some (by kernel_rfl))⟩
 f15 := Tryz.func42.trans (congrArg some (by kernel_rfl))
 f20 := ⟨Tryz.f64.name, by decide, Tryz.func64.trans (congrArg some (by kernel_rfl))⟩
 f21 := ⟨Tryz.f65.name, by decide, Tryz.func65.trans (congrArg some (by kernel_rfl))⟩
 f22 := ⟨Tryz.f66.name, by decide, Tryz.func66.trans (congrArg some (by kernel_rfl))⟩
 f23 := ⟨Tryz.f67.name, by decide, Tryz.func67.trans (congrArg some (by kernel_rfl))⟩
 f24 := ⟨Tryz.f68.name, by decide, Tryz.func68.trans (congrArg some (by kernel_rfl))⟩
 f25 := ⟨Tryz.f69.name, by decide, Tryz.func69.trans (congrArg some (by kernel_rfl))⟩
 f26 := ⟨Tryz.f70.name, by decide, Tryz.func70.trans (congrArg some (by kernel_rfl))⟩
 f27 := ⟨Tryz.f71.name, by decide, Tryz.func71.trans (congrArg some (by kernel_rfl))⟩
 f28 := Tryz.func72.trans (congrArg some (by kernel_rfl))
 f29 := Tryz.func73.trans (congrArg some (by kernel_rfl))
 f46 := ⟨Tryz.f92.name, by decide, Tryz.func92.trans (congrArg some (by kernel_rfl))⟩
 f47 := Tryz.func93.trans (congrArg some (by kernel_rfl))
 f48 := Tryz.func94.trans (congrArg some (by kernel_rfl))
 f49 := ⟨Tryz.f95.name, by decide, Tryz.func95.trans (congrArg some (by kernel_rfl))⟩
 f50 := ⟨Tryz.f96.name, by decide, Tryz.func96.trans (congrArg some (by kernel_rfl))⟩
 f57 := ⟨Tryz.f119.name, by decide, Tryz.func119.trans (congrArg some (by kernel_rfl))⟩
 t0 := Tryz.underlying0
 a0 := Tryz.isAgg0
 z0 := Tryz.sizeOf0
 v0 := Tryz.zeroValue0
 t3 := Tryz.underlying3
 a3 := Tryz.isAgg3
 z3 := Tryz.sizeOf3
 v3 := Tryz.zeroValue3
 t4 := Tryz.underlying4
 a4 := Tryz.isAgg4
 z4 := Tryz.sizeOf4
 v4 := Tryz.zeroValue4
 t5 := Tryz.underlying5
 a5 := Tryz.isAgg5
 z5 := Tryz.sizeOf5
 v5 := Tryz.zeroValue5
 t9 := Tryz.underlying9
 a9 := Tryz.isAgg9
 z9 := Tryz.sizeOf9
 v9 := Tryz.zeroValue9
 t22 := Tryz.underlying22
 a22 := Tryz.isAgg22
 z22 := Tryz.sizeOf22
 v22 := Tryz.zeroValue22
 t25 := Tryz.underlying41
 a25 := Tryz.isAgg41
 z25 := Tryz.sizeOf41
 v25 := Tryz.zeroValue41
 t39 := Tryz.underlying53
 a39 := Tryz.isAgg53
 z39 := Tryz.sizeOf53
 v39 := Tryz.zeroValue53
 t45 := Tryz.underlying67
 a45 := Tryz.isAgg67
 z45 := Tryz.sizeOf67
 v45 := Tryz.zeroValue67
 t46 := Tryz.underlying68
 a46 := Tryz.isAgg68
 z46 := Tryz.sizeOf68
 v46 := Tryz.zeroValue68
 t50 := Tryz.underlying72
 a50 := Tryz.isAgg72
 z50 := Tryz.sizeOf72
 v50 := Tryz.zeroValue72
 t53 := Tryz.underlying75
 a53 := Tryz.isAgg75
 z53 := Tryz.sizeOf75
 v53 := Tryz.zeroValue75
 t55 := Tryz.underlying77
 a55 := Tryz.isAgg77
 z55 := Tryz.sizeOf77
 v55 := Tryz.zeroValue77
 t66 := Tryz.underlying86
 a66 := Tryz.isAgg86
 z66 := Tryz.sizeOf86
 v66 := Tryz.zeroValue86
 t70 := Tryz.underlying90
 a70 := Tryz.isAgg90
 z70 := Tryz.sizeOf90
 v70 := Tryz.zeroValue90
 t76 := Tryz.underlying103
 a76 := Tryz.isAgg103
 z76 := Tryz.sizeOf103
 v76 := Tryz.zeroValue103
 t77 := Tryz.underlying104
 a77 := Tryz.isAgg104
 z77 := Tryz.sizeOf104
 v77 := Tryz.zeroValue104 }
def Tryz.sortB58_ren : Go.Shelf.Ren := ⟨fun | 6 => 58 | 15 => 42 | 14 => 87 | 28 => 72 | 29 => 73 | 20 => 100 | 21 => 101 | 22 => 102 | 23 => 103 | 24 => 104 | 25 => 105 | 26 => 106 | 27 => 107 | 46 => 120 | 47 => 93 | 48 => 94 | 49 => 121 | 50 => 122 | 57 => 126 | n => n, fun | 22 => 28 | 24 => 38 | 25 => 62 | 3 => 3 | 39 => 53 | 0 => 0 | 53 => 75 | 55 => 77 | 4 => 4 | 46 => 68 | 45 => 67 | 50 => 72 | 5 => 5 | 9 => 9 | 66 => 86 | 70 => 90 | 76 => 103 | 77 => 104 | n => n, fun | n => n⟩
theorem Tryz.sortB58 : Go.Proofs.SlLaysF0.n6 Tryz.prog Tryz.sortB58_ren := {
 mixed := by kernel_rfl
 f6 := ⟨Tryz.f58.name, by decide, Tryz.func58.trans (congrArg some (by kernel_rfl))⟩
 f14 := ⟨Tryz.f87.name, by decide, Tryz.func87.trans (congrArg some (by kernel_rfl))⟩
 f15 := Tryz.func42.trans (congrArg some (by kernel_rfl))
 f20 := ⟨Tryz.f100.name, by decide, Tryz.func100.trans (congrArg some (by kernel_rfl))⟩
 f21 := ⟨Tryz.f101.name, by decide, Tryz.func101.trans (congrArg some (by kernel_rfl))⟩
 f22 := ⟨Tryz.f102.name, by decide, Tryz.func102.trans (congrArg some (by kernel_rfl))⟩
 f23 := ⟨Tryz.f103.name, by decide, Tryz.func103.trans (congrArg some (by kernel_rfl))⟩
 f24 := ⟨Tryz.f104.name, by decide, Tryz.func104.trans (congrArg some (by kernel_rfl))⟩
 f25 := ⟨Tryz.f105.name, by decide, Tryz.func105.trans (congrArg some (by kernel_rfl))⟩
 f26 := ⟨Tryz.f106.name, by decide, Tryz.func106.trans (congrArg some (by kernel_rfl))⟩
 f27 := ⟨Tryz.f107.name, by decide, Tryz.func107.trans (congrArg some (by kernel_rfl))⟩
 f28 := Tryz.func72.trans (congrArg some (by kernel_rfl))
 f29 := Tryz.func73.trans (congrArg some (by kernel_rfl))
 f46 := ⟨Tryz.f120.name, by decide, Tryz.func120.trans (congrArg some (by kernel_rfl))⟩
 f47 := Tryz.func93.trans (congrArg some (by kernel_rfl))
 f48 := Tryz.func94.trans (congrArg some (by kernel_rfl))
 f49 := ⟨Tryz.f121.name, by decide, Tryz.func121.trans (congrArg some (by kernel_rfl))⟩
 f50 := ⟨Tryz.f122.name, by decide, Tryz.func122.trans (congrArg some (by kernel_rfl))⟩
 f57 := ⟨Tryz.f126.name, by decide, Tryz.func126.trans (congrArg some (by kernel_rfl))⟩
 t0 := Tryz.underlying0
 a0 := Tryz.isAgg0
 z0 := Tryz.sizeOf0
 v0 := Tryz.zeroValue0
 t3 := Tryz.underlying3
 a3 := Tryz.isAgg3
 z3 := Tryz.sizeOf3
 v3 := Tryz.zeroValue3
 t4 := Tryz.underlying4
 a4 := Tryz.isAgg4
 z4 := Tryz.sizeOf4
 v4 := Tryz.zeroValue4
 t5 := Tryz.underlying5
 a5 := Tryz.isAgg5
 z5 := Tryz.sizeOf5
 v5 := Tryz.zeroValue5
 t9 := Tryz.underlying9
 a9 := Tryz.isAgg9
 z9 := Tryz.sizeOf9
 v9 := Tryz.zeroValue9
 t22 := Tryz.underlying28
 a22 := Tryz.isAgg28
 z22 := Tryz.sizeOf28
 v22 := Tryz.zeroValue28
 t25 := Tryz.underlying62
 a25 := Tryz.isAgg62
 z25 := Tryz.sizeOf62
 v25 := Tryz.zeroValue62
 t39 := Tryz.underlying53
 a39 := Tryz.isAgg53
 z39 := Tryz.sizeOf53
 v39 := Tryz.zeroValue53
 t45 := Tryz.underlying67
 a45 := Tryz.isAgg67
 z45 := Tryz.sizeOf67
 v45 := Tryz.zeroValue67
 t46 := Tryz.underlying68
 a46 := Tryz.isAgg68
 z46 := Tryz.sizeOf68
 v46 := Tryz.zeroValue68
 t50 := Tryz.underlying72
 a50 := Tryz.isAgg72
 z50 := Tryz.sizeOf72
 v50 := Tryz.zeroValue72
 t53 := Tryz.underlying75
 a53 := Tryz.isAgg75
 z53 := Tryz.sizeOf75
 v53 := Tryz.zeroValue75
 t55 := Tryz.underlying77
 a55 := Tryz.isAgg77
 z55 := Tryz.sizeOf77
 v55 := Tryz.zeroValue77
 t66 := Tryz.underlying86
 a66 := Tryz.isAgg86
 z66 := Tryz.sizeOf86
 v66 := Tryz.zeroValue86
 t70 := Tryz.underlying90
 a70 := Tryz.isAgg90
 z70 := Tryz.sizeOf90
 v70 := Tryz.zeroValue90
 t76 := Tryz.underlying103
 a76 := Tryz.isAgg103
 z76 := Tryz.sizeOf103
 v76 := Tryz.zeroValue103
 t77 := Tryz.underlying104
 a77 := Tryz.isAgg104
 z77 := Tryz.sizeOf104
 v77 := Tryz.zeroValue104 }
def Tryz.sortA62_ren : Go.Shelf.Ren := ⟨fun | 6 => 62 | 15 => 42 | 14 => 91 | 28 => 72 | 29 => 73 | 20 => 111 | 21 => 112 | 22 => 113 | 23 => 114 | 24 => 115 | 25 => 116 | 26 => 117 | 27 => 118 | 46 => 123 | 47 => 93 | 48 => 94 | 49 => 124 | 50 => 125 | 57 => 127 | n => n, fun | 22 => 27 | 24 => 3 | 25 => 54 | 3 => 3 | 39 => 53 | 0 => 0 | 53 => 75 | 55 => 77 | 4 => 4 | 46 => 68 | 45 => 67 | 50 => 72 | 5 => 5 | 9 => 9 | 66 => 86 | 70 => 90 | 76 => 103 | 77 => 104 | n => n, fun | n => n⟩
theorem Tryz.sortA62 : Go.Proofs.SlLaysF.n6 Tryz.prog Tryz.sortA62_ren := {
 mixed := by kernel_rfl
 f6 := ⟨Tryz.f62.name, by decide, Tryz.func62.trans (congrArg some (by kernel_rfl))⟩
 f14 := ⟨Tryz.f91.name, by decide, Tryz.func91.trans (congrArg some (by kernel_rfl))⟩
 f15 := Tryz.func42.trans (congrArg some (by kernel_rfl))
 f20 := ⟨Tryz.f111.name, by decide, Tryz.func111.trans (congrArg some (by kernel_rfl))⟩
 f21 := ⟨Tryz.f112.name, by decide, Tryz.func112.trans (congrArg some (by kernel_rfl))⟩
 f22 := ⟨Tryz.f113.name, by decide, Tryz.func113.trans (congrArg some (by kernel_rfl))⟩
 f23 := ⟨Tryz.f114.name, by decide, Tryz.func114.trans (congrArg some (by kernel_rfl))⟩
 f24 := ⟨Tryz.f115.name, by decide, Tryz.func115.trans (congrArg some (by kernel_rfl))⟩
 f25 := ⟨Tryz.f116.name, by decide, Tryz.func116.trans (congrArg some (by kernel_rfl))⟩
 f26 := ⟨Tryz.f117.name, by decide, Tryz.func117.trans (congrArg some (by kernel_rfl))⟩
 f27 := ⟨Tryz.f118.name, by decide, Tryz.func118.trans (congrArg some (by kernel_rfl))⟩
 f28 := Tryz.func72.trans (congrArg some (by kernel_rfl))
 f29 := Tryz.func73.trans (congrArg some (by kernel_rfl))
 f46 := ⟨Tryz.f123.name, by decide, Tryz.func123.trans (congrArg some (by kernel_rfl))⟩
 f47 := Tryz.func93.trans (congrArg some (by kernel_rfl))
 f48 := Tryz.func94.trans (congrArg some (by kernel_rfl))
 f49 := ⟨Tryz.f124.name, by decide, Tryz.func124.trans (congrArg some (by kernel_rfl))⟩
 f50 := ⟨Tryz.f125.name, by decide, Tryz.func125.trans (congrArg some (by kernel_rfl))⟩
 f57 := ⟨Tryz.f127.name, by decide, Tryz.func127.trans (congrArg some (by kernel_rfl))⟩
 t0 := Tryz.underlying0
 a0 := Tryz.isAgg0
 z0 := Tryz.sizeOf0
 v0 := Tryz.zeroValue0
 t3 := Tryz.underlying3
 a3 := Tryz.isAgg3
 z3 := Tryz.sizeOf3
 v3 := Tryz.zeroValue3
 t4 := Tryz.underlying4
 a4 := Tryz.isAgg4
 z4 := Tryz.sizeOf4
 v4 := Tryz.zeroValue4
 t5 := Tryz.underlying5
 a5 := Tryz.isAgg5
 z5 := Tryz.sizeOf5
 v5 := Tryz.zeroValue5
 t9 := Tryz.underlying9
 a9 := Tryz.isAgg9
 z9 := Tryz.sizeOf9
 v9 := Tryz.zeroValue9
 t22 := Tryz.underlying27
 a22 := Tryz.isAgg27
 z22 := Tryz.sizeOf27
 v22 := Tryz.zeroValue27
 a24 := Tryz.isAgg3
 z24 := Tryz.sizeOf3
 t25 := Tryz.underlying54
 a25 := Tryz.isAgg54
 z25 := Tryz.sizeOf54
 v25 := Tryz.zeroValue54
 t39 := Tryz.underlying53
 a39 := Tryz.isAgg53
 z39 := Tryz.sizeOf53
 v39 := Tryz.zeroValue53
 t45 := Tryz.underlying67
 a45 := Tryz.isAgg67
 z45 := Tryz.sizeOf67
 v45 := Tryz.zeroValue67
 t46 := Tryz.underlying68
 a46 := Tryz.isAgg68
 z46 := Tryz.sizeOf68
 v46 := Tryz.zeroValue68
 t50 := Tryz.underlying72
 a50 := Tryz.isAgg72
 z50 := Tryz.sizeOf72
 v50 := Tryz.zeroValue72
 t53 := Tryz.underlying75
 a53 := Tryz.isAgg75
 z53 := Tryz.sizeOf75
 v53 := Tryz.zeroValue75
 t55 := Tryz.underlying77
 a55 := Tryz.isAgg77
 z55 := Tryz.sizeOf77
 v55 := Tryz.zeroValue77
 t66 := Tryz.underlying86
 a66 := Tryz.isAgg86
 z66 := Tryz.sizeOf86
 v66 := Tryz.zeroValue86
 t70 := Tryz.underlying90
 a70 := Tryz.isAgg90
 z70 := Tryz.sizeOf90
 v70 := Tryz.zeroValue90
 t76 := Tryz.underlying103
 a76 := Tryz.isAgg103
 z76 := Tryz.sizeOf103
 v76 := Tryz.zeroValue103
 t77 := Tryz.underlying104
 a77 := Tryz.isAgg104
 z77 := Tryz.sizeOf104
 v77 := Tryz.zeroValue104 }
def Tryz.sortB62_ren : Go.Shelf.Ren := ⟨fun | 6 => 62 | 15 => 42 | 14 => 91 | 28 => 72 | 29 => 73 | 20 => 111 | 21 => 112 | 22 => 113 | 23 => 114 | 24 => 115 | 25 => 116 | 26 => 117 | 27 => 118 | 46 => 123 | 47 => 93 | 48 => 94 | 49 => 124 | 50 => 125 | 57 => 127 | n => n, fun | 22 => 27 | 24 => 3 | 25 => 54 | 3 => 3 | 39 => 53 | 0 => 0 | 53 => 75 | 55 => 77 | 4 => 4 | 46 => 68 | 45 => 67 | 50 => 72 | 5 => 5 | 9 => 9 | 66 => 86 | 70 => 90 | 76 => 103 | 77 => 104 | n => n, fun | n => n⟩
theorem Tryz.sortB62 : Go.Proofs.SlLaysF0.n6 Tryz.prog Tryz.sortB62_ren := {
 mixed := by kernel_rfl
 f6 := ⟨Tryz.f62.name, by decide, Tryz.func62.trans (congrArg some (by kernel_rfl))⟩
 f14 := ⟨Tryz.f91.name, by decide, Tryz.func91.trans (congrArg some (by kernel_rfl))⟩
 f15 := Tryz.func42.trans (congrArg some (by kernel_rfl))
 f20 := ⟨Tryz.f111.name, by decide, Tryz.func111.trans (congrArg some (by kernel_rfl))⟩
 f21 := ⟨Tryz.f112.name, by decide, Tryz.func112.trans (congrArg some (by kernel_rfl))⟩
 f22 := ⟨Tryz.f113.name, by decide, Tryz.func113.trans (congrArg some (by kernel_rfl))⟩
 f23 := ⟨Tryz.f114.name, by decide, Tryz.func114.trans (congrArg some (by kernel_rfl))⟩
 f24 := ⟨Tryz.f115.name, by decide, Tryz.func115.trans (congrArg some (by kernel_rfl))⟩
 f25 := ⟨Tryz.f116.name, by decide, Tryz.func116.trans (congrArg some (by kernel_rfl))⟩
 f26 := ⟨Tryz.f117.name, by decide, Tryz.func117.trans (congrArg some (by kernel_rfl))⟩
 f27 := ⟨Tryz.f118.name, by decide, Tryz.func118.trans (congrArg some (by kernel_rfl))⟩
 f28 := Tryz.func72.trans (congrArg some (by kernel_rfl))
 f29 := Tryz.func73.trans (congrArg some (by kernel_rfl))
 f46 := ⟨Tryz.f123.name, by decide, Tryz.func123.trans (congrArg some (by kernel_rfl))⟩
 f47 := Tryz.func93.trans (congrArg some (by kernel_rfl))
 f48 := Tryz.func94.trans (congrArg some (by kernel_rfl))
 f49 := ⟨Tryz.f124.name, by decide, Tryz.func124.trans (congrArg some (by kernel_rfl))⟩
 f50 := ⟨Tryz.f125.name, by decide, Tryz.func125.trans (congrArg some (by kernel_rfl))⟩
 f57 := ⟨Tryz.f127.name, by decide, Tryz.func127.trans (congrArg some (by kernel_rfl))⟩
 t0 := Tryz.underlying0
 a0 := Tryz.isAgg0
 z0 := Tryz.sizeOf0
 v0 := Tryz.zeroValue0
 t3 := Tryz.underlying3
 a3 := Tryz.isAgg3
 z3 := Tryz.sizeOf3
 v3 := Tryz.zeroValue3
 t4 := Tryz.underlying4
 a4 := Tryz.isAgg4
 z4 := Tryz.sizeOf4
 v4 := Tryz.zeroValue4
 t5 := Tryz.underlying5
 a5 := Tryz.isAgg5
 z5 := Tryz.sizeOf5
 v5 := Tryz.zeroValue5
 t9 := Tryz.underlying9
 a9 := Tryz.isAgg9
 z9 := Tryz.sizeOf9
 v9 := Tryz.zeroValue9
 t22 := Tryz.underlying27
 a22 := Tryz.isAgg27
 z22 := Tryz.sizeOf27
 v22 := Tryz.zeroValue27
 t25 := Tryz.underlying54
 a25 := Tryz.isAgg54
 z25 := Tryz.sizeOf54
 v25 := Tryz.zeroValue54
 t39 := Tryz.underlying53
 a39 := Tryz.isAgg53
 z39 := Tryz.sizeOf53
 v39 := Tryz.zeroValue53
 t45 := Tryz.underlying67
 a45 := Tryz.isAgg67
 z45 := Tryz.sizeOf67
 v45 := Tryz.zeroValue67
 t46 := Tryz.underlying68
 a46 := Tryz.isAgg68
 z46 := Tryz.sizeOf68
 v46 := Tryz.zeroValue68
 t50 := Tryz.underlying72
 a50 := Tryz.isAgg72
 z50 := Tryz.sizeOf72
 v50 := Tryz.zeroValue72
 t53 := Tryz.underlying75
 a53 := Tryz.isAgg75
 z53 := Tryz.sizeOf75
 v53 := Tryz.zeroValue75
 t55 := Tryz.underlying77
 a55 := Tryz.isAgg77
 z55 := Tryz.sizeOf77
 v55 := Tryz.zeroValue77
 t66 := Tryz.underlying86
 a66 := Tryz.isAgg86
 z66 := Tryz.sizeOf86
 v66 := Tryz.zeroValue86
 t70 := Tryz.underlying90
 a70 := Tryz.isAgg90
 z70 := Tryz.sizeOf90
 v70 := Tryz.zeroValue90
 t76 := Tryz.underlying103
 a76 := Tryz.isAgg103
 z76 := Tryz.sizeOf103
 v76 := Tryz.zeroValue103
 t77 := Tryz.underlying104
 a77 := Tryz.isAgg104
 z77 := Tryz.sizeOf104
 v77 := Tryz.zeroValue104 }
end Go.Proofs
end
section
/- A list of surfaces of the call's own sorted and struck of doubles: what lies in memory. No conditions. -/
namespace Go.Proofs.YtoijcallajegfaaGreat.M
set_option linter.unusedVariables false
set_option linter.unusedSimpArgs false
open Go Go.RowKit Go.Proofs.YtoijcallajegfaaGreatW.PrintWords Go.Proofs.YtoijcallajegfaaGreatW.PrintLast Go.Proofs.YtoijcallajegfaaGreatW.PrintMore Go.Proofs.YtoijcallajegfaaGreat.A Go.Sort Go.Shelf Go.Lib Go.Proofs Go.Proofs.YtoijcallajegfaaGreatW.PrintWords.Kd
theorem holds_cels {α : Type} {d : Kd α} {Q : α → Prop} {w : World} {base e g : Nat} {ok : Nat → Prop} [Inhabited (Cel d Q w base ok)] {cur : Array Value} {n : Nat} {l : List (Cel d Q w base ok)} (hg : w.heap[g]? = some (.cells cur e (0, 0))) (hll : l.length = n) (hc : n * d.sz ≤ cur.size) (hl : cur.toList.take (n * d.sz) = (l.map (·.c)).flatten) :
  HoldsK (fun z : Cel d Q w base ok => z.c) d.sz w g 0 l.toArray := by
 have hFl := flatK_list (d := d) (Q := Q) (w := w) (ok := ok) l.toArray
 have hFs : (flatK (fun z : Cel d Q w base ok => z.c) d.sz l.toArray).size = n * d.sz := by rw [size_flatK]; simp [hll]
 intro j hj
 rw [hFs] at hj
 have h1 : cur[j]? = (flatK (fun z : Cel d Q w base ok => z.c) d.sz l.toArray)[j]? := by
  rw [← Array.getElem?_toList, ← Array.getElem?_toList, hFl]
  show _ = (List.map _ l).flatten[j]?
  rw [← hl, List.getElem?_take, if_pos hj]
 refine ⟨?_, ?_⟩
 ·show w.cell? ⟨g, 0 + j, none⟩ = _
  rw [Nat.zero_add, getElem!_pos _ j (by rw [hFs]; exact hj)]
  simp only [World.cell?, hg, Option.isSome_none, Bool.false_eq_true, if_false]
  rw [h1, Array.getElem?_eq_getElem (by rw [hFs]; exact hj)]
  rfl
 ·simp [World.frozen?, hg]
set_option maxHeartbeats 4000000 in
set_option maxRecDepth 100000 in
theorem comp_none (A : Option Addr) (c : Nat) (fv : Value) (w : World) : Calls Tryz.prog 59 #[.slice A 0 c, fv] w fun e w' => e = .returned (.slice A 0 c) ∧ w' = w := by
 go_enter Tryz.func59, Tryz.ntmps59
 go_wp2
 go_ret
 exact ⟨rfl, rfl⟩
def eqS (x y : S38) : Bool := decide (toN x = toN y)
theorem comp_T {w : World} {base : Nat} {ok : Nat → Prop} {v : Value} {f : Nat → Nat} {xs : List (S38 × Nat)} (h : (Kd.tag f k38).R 38 w base ok v xs) (hq : ∀ x ∈ xs, okS x.1) (hsz : xs.length < 4611686018427387904) :
  Calls Tryz.prog 59 #[v, .func (.func 60) #[] #[]] w fun e w' => ∃ v', e = .returned v' ∧ CompactTo (Kd.tag f k38) (fun p q : S38 × Nat => eqS p.1 q.1) 38 w w' base ok v v' xs := by
 rcases Nat.eq_zero_or_pos xs.length with h0 | hp
 ·have hx : xs = [] := List.length_eq_zero_iff.1 h0
  subst hx
  obtain ⟨A, c, rfl⟩ := Kd.R_slice h
  exact (comp_none A c _ w).mono fun _ _ ⟨he, hw⟩ => ⟨_, he, by rw [hw]; exact ⟨h, Kept.refl _ _, Go.RowKit.Below.refl _ _⟩⟩
 ·obtain ⟨g, cap, cur, rfl, hg0, hb, hgl, hg, hn, hm, hcs, l, hl1, hl2⟩ := R_cells h hq hp
  have hll : l.length = xs.length := by rw [← hl1, List.length_map]
  haveI : Inhabited (Cel (Kd.tag f k38) (fun p : S38 × Nat => okS p.1) w base (fun k => ok k ∧ k ≠ g)) := ⟨l[0]'(by omega)⟩
  have hcs' : xs.length * (Kd.tag f k38).sz ≤ cur.size := by rw [hcs]; exact Nat.mul_le_mul_right _ hn
  have hcs2 : xs.length * 2 ≤ cur.size := hcs'
  have hH := holds_cels hg hll hcs' hl2
  have R : RowK (fun z : Cel (Kd.tag f k38) (fun p : S38 × Nat => okS p.1) w base (fun k => ok k ∧ k ≠ g) => z.c) 2 w g 0 l.toArray := ⟨fun z => z.len, fun z => z.one, hH, hgl⟩
  have key := compact_walk (fun z : Cel (Kd.tag f k38) (fun p : S38 × Nat => okS p.1) w base (fun k => ok k ∧ k ≠ g) => z.c) (fun p q => eqS p.x.1 q.x.1) 60 g 0 cap l.toArray w R (enters_of Tryz.func60 (by kernel_rfl) rfl)
   (fun W hW p q => by
    obtain ⟨dk, hs, m, os, rfl⟩ := hW
    have hh : ∀ (z : Cel (Kd.tag f k38) (fun p : S38 × Nat => okS p.1) w base (fun k => ok k ∧ k ≠ g)), (k38).K (sortWorldK (fun z : Cel (Kd.tag f k38) (fun p : S38 × Nat => okS p.1) w base (fun k => ok k ∧ k ≠ g) => z.c) 2 w g 0 m dk os) z.x.1 z.c := fun z => (k38).K_of_M (z.move (fun k hk hlt => (row_after hg (F := flatK (fun z : Cel (Kd.tag f k38) (fun p : S38 × Nat => okS p.1) w base (fun k => ok k ∧ k ≠ g) => z.c) 2 dk) (by rw [size_flatK, hs]; simpa [hll] using hcs2) rfl).2.1 k hk.2 hlt))
    exact same_exact _ p.x.1 q.x.1 p.c q.c p.q q.q (hh p) (hh q)) (by simpa [hll] using hp) (by simpa [hll] using hsz) (by simpa [hll] using hn)
  have hsz' : l.toArray.size = xs.length := by simp [hll]
  rw [hsz'] at key
  refine key.mono ?_
  rintro e' w' ⟨kk, rfl, dk, W, hC, ⟨n, os, hW⟩, hw⟩
  refine ⟨_, rfl, ?_⟩
  rw [← hsz'] at hC
  refine compR_of (D := l.toArray) (dk := dk) (F := flatK (fun z : Cel (Kd.tag f k38) (fun p : S38 × Nat => okS p.1) w base (fun k => ok k ∧ k ≠ g) => z.c) 2 dk) (m := n) (os := os) (W := W) (kk := kk) hC (by simpa using hl1) (flatK_list dk) hW ?_ hg0 hb hgl hg hn hm hcs
  rcases hw with rfl | ⟨vs, rfl⟩
  ·exact .inl rfl
  ·refine .inr ⟨vs, ?_⟩
   rw [Nat.zero_add]; rfl
theorem comp_S {w : World} {base : Nat} {ok : Nat → Prop} {v : Value} {xs : List S38} (h : Kd.S k38 38 w base ok v xs) (hq : ∀ x ∈ xs, okS x) (hsz : xs.length < 4611686018427387904) :
  Calls Tryz.prog 59 #[v, .func (.func 60) #[] #[]] w fun e w' => ∃ v', e = .returned v' ∧ Kd.S k38 38 w' base ok v' (cpt eqS xs) ∧ Kept w w' (fun k => some k = v.ownBlock) ∧ Go.RowKit.Below base w w' := by
 obtain ⟨f, hr⟩ := h
 refine (comp_T hr (zip_all hq) (by rw [List.length_zipIdx]; exact hsz)).mono ?_
 rintro e w' ⟨v', he, h1, h2, h3⟩
 refine ⟨v', he, ?_, h2, h3⟩
 have h4 := S_of_tag h1 (((cpt_sub _ xs.zipIdx).map (·.2)).nodup (zip_nodup xs))
 have h5 := cpt_map (fun p : S38 × Nat => p.1) eqS xs.zipIdx
 rw [zip_fst] at h5
 rw [h5] at h4
 exact h4
theorem ordS : Ord3 okS (fun x y : S38 => cmpS (toN x) (toN y)) where
 irr x _ := by rw [(cmpS_eq _ _).2 rfl]; omega
 tr x y z _ _ _ h1 h2 := cmpS_tr _ _ _ h1 h2
 nt x y z _ _ _ h1 h2 := cmpS_le_tr _ _ _ h1 h2
end Go.Proofs.YtoijcallajegfaaGreat.M
end
section
namespace Go.Proofs.YtoijcallajegfaaGreat.A
open Go.RowKit Go.Proofs.YtoijcallajegfaaGreatW.PrintWords Go.Proofs.YtoijcallajegfaaGreatW.PrintLast Go.Proofs.YtoijcallajegfaaGreatW.PrintMore
attribute [local go_sem] max2_int min2_int max_two min_two max_three min_three max_four min_four
set_option linter.unusedVariables false
set_option linter.unusedSimpArgs false
def Z11.f (l0 : List S38) : Option (List S38) := if (∀ x ∈ l0, M.okS x) ∧ l0.length < 4611686018427387904 then some ((M.sortS (l0.map M.toN)).map M.ofN) else none
theorem Z11.eq (l xs' : List S38) (hq : ∀ x ∈ l, M.okS x) (hp : xs'.Perm l) (hs : xs'.Pairwise (fun a b => ¬ M.cmpS (M.toN b) (M.toN a) < 0)) : M.cpt M.eqS xs' = (M.sortS (l.map M.toN)).map M.ofN := by
 have h1 : xs'.map M.toN = (l.map M.toN).mergeSort (fun a b => decide (¬ M.cmpS b a < 0)) := M.sort_uniq (hp.map _) (by rw [List.pairwise_map]; exact hs)
 have h2 : (M.cpt M.eqS xs').map M.toN = M.cpt (fun a b => decide (a = b)) (xs'.map M.toN) := M.cpt_map M.toN (fun a b => decide (a = b)) xs'
 have h3 : ((M.cpt M.eqS xs').map M.toN).map M.ofN = M.cpt M.eqS xs' := by
  rw [List.map_map]
  conv => rhs; rw [← List.map_id (M.cpt M.eqS xs')]
  apply List.map_congr_left
  intro x hx
  exact M.okS_of (hq x (hp.mem_iff.1 ((M.cpt_sub M.eqS xs').subset hx)))
 rw [← h3, h2, h1]
 rfl
set_option maxHeartbeats 8000000 in
set_option maxRecDepth 100000 in
theorem Z11.callsS (P0_ : Nat → Prop) (u9000_ : Value) (l0 : List S38) (r : List S38) (w0 w : World) (hB : Below w0.heap.size w0 w) (ho0 : Kd.S k38 38 w w0.heap.size P0_ u9000_ l0) (h : Z11.f l0 = some r) :
  Calls Tryz.prog 39 #[u9000_] w fun e w' => ∃ v0_ : Value, e = .returned v0_ ∧ Kd.S k38 38 w' w0.heap.size P0_ v0_ r ∧ Below w0.heap.size w0 w' ∧ Kept w w' (fun k => some k = u9000_.ownBlock) := by
 unfold Z11.f at h
 split at h
 ·rename_i hq
  obtain rfl := Option.some.inj h
  have HV : ∃ A c, u9000_ = .slice A l0.length c := Kd.R_slice (Kd.S_R ho0)
  obtain ⟨f_, hr_⟩ := ho0
  have hs1 := (M.sortN (d := Kd.tag f_ k38) (Q := fun p : S38 × Nat => M.okS p.1) (cf := fun p q : S38 × Nat => M.cmpS (M.toN p.1) (M.toN q.1)) Tryz.sortB58 Tryz.isAgg38 Tryz.sizeOf38 M.ordS.fst 57 (enters_of Tryz.func57 (by kernel_rfl) rfl)
   (fun W x y cx cy hx hy h1 h2 => M.cmp_exact W x.1 y.1 cx cy hx hy h1 h2) hr_ (M.zip_all hq.1) (by rw [List.length_zipIdx]; exact hq.2))
  have hs0 : Calls Tryz.prog _ _ w fun e' w' => e' = .returned (.tuple #[]) ∧ M.SortedToS k38 (fun x y : S38 => M.cmpS (M.toN x) (M.toN y)) 38 w w' w0.heap.size P0_ u9000_ l0 := hs1.mono (fun e w2 h => ⟨h.1, M.sortedS_of (cf := fun x y : S38 => M.cmpS (M.toN x) (M.toN y)) h.2⟩)
  clear hs1
  change Calls Tryz.prog 58 _ _ _ at hs0
  have HS := A_ hs0
  clear hs0
  have HL := A_ (show ∀ xs' : List S38, xs'.Perm l0 → (∀ x ∈ xs', M.okS x) ∧ xs'.length < 4611686018427387904 from fun xs' hp => ⟨fun x hx => hq.1 x (hp.mem_iff.1 hx), by rw [hp.length_eq]; exact hq.2⟩)
  have HQ := A_ hq.1
  have HB := A_ hB
  clear hq hr_ h hB
  obtain ⟨Av, cv, rfl⟩ := HV
  generalize l0.length = nv at HS ⊢
  go_enter Tryz.func39, Tryz.ntmps39
  go_wp2_with (first | (go_at_call 58; (with_reducible refine HS.out.mono ?_); rintro e w1 ⟨rfl, xs', hp, hs, hN, hK, hB1⟩; have HP := A_ hp; have HO := A_ hs; have HN := A_ hN; have HK := A_ hK; have HB1 := A_ hB1; clear hp hs hN hK hB1) | (go_at_call 59; (refine (M.comp_S HN.out (HL.out xs' HP.out).1 (HL.out xs' HP.out).2).mono ?_); rintro e w2 ⟨v', rfl, hC, hK2, hB2⟩; have HC := A_ hC; have HK2 := A_ hK2; have HB2 := A_ hB2; clear hC hK2 hB2))
  go_ret
  refine ⟨_, rfl, ?_, HB.out.trans (HB1.out.trans HB2.out), ⟨Nat.le_trans HK.out.1 HK2.out.1, fun i hi hn => (HK2.out.2 i (Nat.lt_of_lt_of_le hi HK.out.1) hn).trans (HK.out.2 i hi hn)⟩⟩
  rw [← Z11.eq l0 xs' HQ.out HP.out (HO.out.imp (fun h => by omega))]
  exact HC.out
 ·cases h
end Go.Proofs.YtoijcallajegfaaGreat.A
end
section
namespace Go.Proofs.YtoijcallajegfaaGreat.A
open Go.RowKit Go.Proofs.YtoijcallajegfaaGreatW.PrintWords Go.Proofs.YtoijcallajegfaaGreatW.PrintLast Go.Proofs.YtoijcallajegfaaGreatW.PrintMore
attribute [local go_sem] max2_int min2_int max_two min_two max_three min_three max_four min_four
set_option linter.unusedVariables false
set_option linter.unusedSimpArgs false
mutual
def Z10.j0 : Nat → Int → Bool → Option ((List (S38)))
 | 0, _, _ => none
 | k + 1, x0, x15 => if x15 = true then (some ([] : List (S38))) else ((Z46.f k x0).bind fun t573 => (Z10.l0 k x0 (([] : List (S38))) t573 (t573.length : Int) 0))
def Z10.l0 : Nat → Int → List (S38) → List (List Int) → Int → Int → Option ((List (S38)))
 | 0, _, _, _, _, _ => none
 | k + 1, x0, x3, x18, x19, x20 => if x20 < x19 then (if 0 ≤ x20 then (if x20 < (x18.length : Int) then ((Z46.f k x0).bind fun t580 => (Z10.l1 k x0 x3 (rd_L1 x18 x20) x18 x19 x20 t580 (t580.length : Int) 0)) else (none)) else (none)) else ((Z11.f x3).bind fun t576 => (some t576))
def Z10.l1 : Nat → Int → List (S38) → List Int → List (List Int) → Int → Int → List (List Int) → Int → Int → Option ((List (S38)))
 | 0, _, _, _, _, _, _, _, _, _ => none
 | k + 1, x0, x3, x5, x18, x19, x20, x25, x26, x27 => if x27 < x26 then (if 0 ≤ x27 then (if x27 < (x25.length : Int) then ((Z57.f k x5 (rd_L1 x25 x27)).bind fun bt584 => (if bt584.2.2 = true then (if x3.length < 2932031007402 then (Z10.l1 k x0 (x3 ++ [(⟨bt584.1, bt584.2.1⟩ : S38)]) x5 x18 x19 x20 x25 x26 (wrap64 (x27 + 1))) else (none)) else (Z10.l1 k x0 x3 x5 x18 x19 x20 x25 x26 (wrap64 (x27 + 1))))) else (none)) else (none)) else (Z10.l0 k x0 x3 x18 x19 (wrap64 (x20 + 1)))
end
def Z10.f (k : Nat) (a0 : Int) : Option ((List (S38))) := if a0 < 1 then (Z10.j0 k a0 true) else (Z10.j0 k a0 (decide (a0 > 4)))
theorem Z10.mono_l : ∀ k, (∀ y0 y1, LeO (Z10.j0 k y0 y1) (Z10.j0 (k + 1) y0 y1)) ∧ (∀ y0 y1 y2 y3 y4, LeO (Z10.l0 k y0 y1 y2 y3 y4) (Z10.l0 (k + 1) y0 y1 y2 y3 y4)) ∧ (∀ y0 y1 y2 y3 y4 y5 y6 y7 y8, LeO (Z10.l1 k y0 y1 y2 y3 y4 y5 y6 y7 y8) (Z10.l1 (k + 1) y0 y1 y2 y3 y4 y5 y6 y7 y8))
 | 0 => ⟨fun _ _ r h => by simp [Z10.j0] at h, fun _ _ _ _ _ r h => by simp [Z10.l0] at h, fun _ _ _ _ _ _ _ _ _ r h => by simp [Z10.l1] at h⟩
 | k + 1 => by
  obtain ⟨ih0, ih1, ih2⟩ := Z10.mono_l k
  refine ⟨?_, ?_, ?_⟩
  ·intro y0 y1
   unfold Z10.j0
   repeat' first|exact ih0 _ _|exact ih1 _ _ _ _ _|exact ih2 _ _ _ _ _ _ _ _ _|exact Z57.mono _ _ _|exact Z46.mono _ _|exact lo_|refine LeO.ite ?_ ?_|refine LeO.bind ?_ (fun _ => ?_)
  ·intro y0 y1 y2 y3 y4
   unfold Z10.l0
   repeat' first|exact ih0 _ _|exact ih1 _ _ _ _ _|exact ih2 _ _ _ _ _ _ _ _ _|exact Z57.mono _ _ _|exact Z46.mono _ _|exact lo_|refine LeO.ite ?_ ?_|refine LeO.bind ?_ (fun _ => ?_)
  ·intro y0 y1 y2 y3 y4 y5 y6 y7 y8
   unfold Z10.l1
   repeat' first|exact ih0 _ _|exact ih1 _ _ _ _ _|exact ih2 _ _ _ _ _ _ _ _ _|exact Z57.mono _ _ _|exact Z46.mono _ _|exact lo_|refine LeO.ite ?_ ?_|refine LeO.bind ?_ (fun _ => ?_)
theorem Z10.mono : ∀ a0 k, LeO (Z10.f k a0) (Z10.f (k + 1) a0) := by
 intro a0 k
 obtain ⟨ih0, ih1, ih2⟩ := Z10.mono_l k
 unfold Z10.f
 repeat' first|exact ih0 _ _|exact ih1 _ _ _ _ _|exact ih2 _ _ _ _ _ _ _ _ _|exact Z57.mono _ _ _|exact Z46.mono _ _|exact lo_|refine LeO.ite ?_ ?_|refine LeO.bind ?_ (fun _ => ?_)
set_option maxHeartbeats 8000000 in
set_option maxRecDepth 100000 in
theorem Z10.calls (k : Nat) (a0 : Int) (r : List (S38)) (w : World) (h : Z10.f k a0 = some r) :
  Calls Tryz.prog 22 #[.int .i64 a0] w fun e w' => ∃ v0_ : Value, e = .returned (v0_) ∧ Kd.S k38 38 w' w.heap.size (fun _ => True) v0_ r ∧ Below w.heap.size w w' := by
 have hu38 := Tryz.underlying38
 have HB := A_ (Below.refl w.heap.size w)
 have H := h
 unfold Z10.f at H
 clear h
 have HC2 := A_ H
 clear H
 go_enter Tryz.func22, Tryz.ntmps22
 go_upto_region 1 with (fail)
 go_cut [15] (fun v15 wc => ∃ (kq : Nat) (x15_1 : Bool), v15 = .bool x15_1 ∧ Aside0 (Z10.j0 kq a0 x15_1 = some r) ∧ Aside0 (kq ≤ k) ∧ Aside0 (Below w.heap.size w wc))
 case first =>
  have H := HC2.out
  clear HC2
  by_cases c3 : a0 < 1
  ·rw [if_pos c3] at H
   have c3b0 := oC_ c3
   clear c3
   (first | rw [c3b0] | (simp only [i64_w, i32_w]; rw [c3b0]) | skip)
   have H' := A_ H
   clear H
   go_wp2
   go_meet
   case rel => exact ⟨_, (true), qc_, H', ⟨qd_⟩, ⟨hB_⟩⟩
  ·rw [if_neg c3] at H
   have c3b0 := oD_ c3
   clear c3
   (first | rw [c3b0] | (simp only [i64_w, i32_w]; rw [c3b0]) | skip)
   have H' := A_ H
   clear H
   go_wp2
   go_meet
   case rel => exact ⟨_, (decide (a0 > 4)), qc_, H', ⟨qd_⟩, ⟨hB_⟩⟩
 case rest =>
  clear HC2
  obtain ⟨kq, x15_1, rfl, HA, HJ1, HB⟩ := hcut
  cases kq with
  | zero => exact absurd HA.out (by simp [Z10.j0])
  | succ kj1 =>
   have H := HA.out
   clear HA
   simp only [Z10.j0] at H
   by_cases c4 : x15_1 = true
   ·subst c4
    rw [if_pos rfl] at H
    obtain rfl := Option.some.inj H
    go_wp2
    go_ret
    exact ⟨_, qb_, by first | exact Kd.S_nil _ _ _ _ _ | exact Kd.N_nil _ _ _ _ _ | exact Kd.V_nil _ _ _ _ _ | exact Kd.Q_nil _ _ _ _ _ | exact Kd.R_nil _ _ _ _ _, hB_⟩
   ·replace c4 := Bool.eq_false_iff.mpr c4
    subst c4
    have H1 : ((Z46.f kj1 a0).bind fun t573 => (Z10.l0 kj1 a0 (([] : List (S38))) t573 (t573.length : Int) 0)) = some r := by rw [if_neg (show ¬ (false = true) by decide)] at H; exact H
    clear H
    have H := H1
    clear H1
    obtain ⟨y570, hy570⟩ : ∃ y_ : List (S38), y_ = (([] : List (S38))) := ⟨_, rfl⟩
    replace H : ((Z46.f kj1 a0).bind fun t573 => (Z10.l0 kj1 a0 y570 t573 (t573.length : Int) 0)) = some r := by first | (rw [hy570]; exact H) | exact H
    have Ny570 := A_ hy570
    clear hy570
    obtain ⟨t573, A5, H⟩ := bi_ H
    have H' := A_ H
    clear H
    go_wp2_with (first | ((with_reducible refine gB_ (N := 16) rfl ?_); refine Kd.S_lit k38 _ 38 ?hg (N := 16) ?hd (xs := ([] : List (S38))) (inner := []) (ok := (fun k_ => (w.heap.size ≤ k_))) (okp := (fun k_ => (w.heap.size ≤ k_))) ?hr ?hp (fun _ hk => hk) ((show ∀ k_, wc.heap.size ≤ k_ → (fun k_ => (w.heap.size ≤ k_)) k_ from fun k_ hk => (Nat.le_trans (bF_ hB_) hk)) _ (nA_ _)) (Below.refl _ _) (nA_ _) (by simp) ?_; (case hd => rfl); (case hg => rfl); (case hr => first | (go_simp; done) | (go_simp; rfl)); (case hp => exact (Reps.none _ _)); intro v571 w6 ho7 hb hg_ hnew_; clear hg_ hnew_; (first | rw [← Ny570.out] at ho7 | (simp only [Int.reduceToNat] at ho7; rw [← Ny570.out] at ho7)); have HO572 := A_ (Kd.S_lower ho7 (bF_ hB_)); replace HB := b1_ hb; clear hb ho7) | ((with_reducible refine gA_ (f := 37) rfl ?_); refine gL_ (some 18) Tryz.func37 #[.int .i64 a0] rfl qa_ ?_; (with_reducible refine (Z46.calls kj1 a0 t573 _ A5.out).mono ?_); rintro e w8 ⟨v574, rfl, ho0, hb⟩; refine ⟨_, rfl, ?_⟩; have HO575 := A_ (Kd.N_lower (Kd.N_mono (ok' := fun k_ => (w.heap.size ≤ k_) ∧ some k_ ≠ (v571 : Value).ownBlock) ho0 (fun k_ hk_ => ⟨(Nat.le_trans (bF_ hB_) hk_), (Kd.fresh' (Kd.S_lt (ss_ HO572)) k_ hk_)⟩)) (bF_ hB_)); replace HO572 := A_ (Kd.S_elder' (ss_ HO572) (Kd.N_base ho0) hb); replace HB := b1_ hb; clear hb ho0; obtain ⟨Ao9, co9, eo9⟩ := Kd.N_slice HO575.out; subst eo9))
    go_loopg [3, 20] kj1 (fun kq v3 v20 w' => ∃ (x3_2 : List (S38)) (x20_2 : Int), v20 = .int .i64 x20_2 ∧ Aside0 (Z10.l0 kq a0 x3_2 t573 (t573.length : Int) x20_2 = some r) ∧ Aside0 (kq ≤ kj1) ∧ Aside0 (Kd.S k38 38 w' w.heap.size (fun k_ => (w.heap.size ≤ k_) ∧ some k_ ≠ ((.slice Ao9 t573.length co9) : Value).ownBlock) v3 x3_2) ∧ Aside0 (Kd.N (Kd.slice 3 (Kd.int .i64)) 27 w' w.heap.size (fun k_ => (w.heap.size ≤ k_) ∧ some k_ ≠ (v3 : Value).ownBlock) (.slice Ao9 t573.length co9) t573) ∧ Aside0 (Below w.heap.size w w'))
    case atStart => exact ⟨(y570), (0), qc_, H', ⟨nA_ _⟩, ⟨(ss_ HO572)⟩, ⟨by (with_reducible repeat (first | apply Kd.N_alloc | apply Kd.N_drewN | apply Kd.N_drew)); exact HO575.out⟩, ⟨hB_⟩⟩
    case round =>
     clear H'
     obtain ⟨x3_2, x20_2, rfl, HA, HK2, HO_3, HO_18, HB⟩ := hrel
     cases gk with
     | zero => exact absurd HA.out (by simp [Z10.l0])
     | succ k2 =>
      have H := HA.out
      clear HA
      simp only [Z10.l0] at H
      by_cases c10 : x20_2 < (t573.length : Int)
      ·rw [if_pos c10] at H
       have c10b0 := oC_ c10
       clear c10
       have c11 := cp_ H
       replace H := ca_ H
       have c11b0 := oC_ c11
       clear c11
       have c12 := cp_ H
       replace H := ca_ H
       have c12b0 := oC_ c12
       clear c12
       obtain ⟨t580, A13, H⟩ := bi_ H
       have H' := A_ H
       clear H
       have p579 : 0 ≤ (x20_2 : Int) := oB_ qe_
       have q579 : x20_2 < (t573.length : Int) := oB_ qe_
       obtain ⟨ad579, A579_0, c579_0, e579, hx579_0, hl579_0, hi579_0⟩ := at_L1 (Kd.N_reads' HO_18.out).2.2 x20_2 p579 q579
       cases e579
       obtain ⟨ce579, hce579, hMe579, hcc579⟩ := Kd.N_get HO_18.out [] x20_2 p579 (by first | exact q579 | exact oB_ qe_ | (have e_ := (Kd.N_reads' HO_18.out).1; omega))
       obtain ⟨ua579_0, uc579_0, rfl, ul579_0, ge579_0⟩ := Kd.FK_slice_open hMe579
       have hv579_0 := hcc579 0 _ rfl
       rw [Nat.add_zero, show ((Kd.slice 3 (Kd.int .i64))).sz = 1 from rfl, Nat.mul_one] at hv579_0
       replace hv579_0 := Option.some.inj (hv579_0.symm.trans hx579_0)
       injection hv579_0 with hva_ hvn_ hvc_
       rw [hva_] at ge579_0
       rw [hvc_] at ul579_0
       have HL579_0 := A_ (show Kd.V (Kd.int .i64) 3 _ w.heap.size _ _ (rd_L1 t573 x20_2) from Kd.V_mk ul579_0 ge579_0)
       clear hva_ hvn_ hvc_ ge579_0 ul579_0
       clear hcc579 hce579
       have HR579_0 := A_ hi579_0
       have HC579_0 := A_ hl579_0
       clear hi579_0 hl579_0
       replace p579 := eq_true p579
       replace q579 := eq_true q579
       go_wp2_with (first | ((with_reducible refine gA_ (f := 37) rfl ?_); refine gL_ (some 25) Tryz.func37 #[.int .i64 a0] rfl qa_ ?_; (with_reducible refine (Z46.calls k2 a0 t580 _ A13.out).mono ?_); rintro e w14 ⟨v581, rfl, ho0, hb⟩; refine ⟨_, rfl, ?_⟩; replace HL579_0 := A_ (Kd.V_elder' (by (with_reducible repeat (first | apply Kd.V_alloc | apply Kd.V_drewN | apply Kd.V_drew)); exact HL579_0.out) (Kd.N_base ho0) hb); have HO582 := A_ (Kd.N_lower (Kd.N_mono (ok' := fun k_ => (w.heap.size ≤ k_) ∧ some k_ ≠ (u3 : Value).ownBlock ∧ some k_ ≠ (.slice (some ad579) t573.length co9 : Value).ownBlock) ho0 (fun k_ hk_ => ⟨(Nat.le_trans (bF_ hB_) hk_), (Kd.fresh' (Kd.S_lt (ss_ HO_3)) k_ hk_), (Kd.fresh' (Kd.N_lt (by (with_reducible repeat (first | apply Kd.N_alloc | apply Kd.N_drewN | apply Kd.N_drew)); exact HO_18.out)) k_ hk_)⟩)) (bF_ hB_)); replace HO_3 := A_ (Kd.S_elder' (ss_ HO_3) (Kd.N_base ho0) hb); replace HO_18 := A_ (Kd.N_elder' (by (with_reducible repeat (first | apply Kd.N_alloc | apply Kd.N_drewN | apply Kd.N_drew)); exact HO_18.out) (Kd.N_base ho0) hb); replace HR579_0 := A_ (cD_ (by repeat (first | (with_reducible exact HR579_0.out) | (with_reducible refine cA_ ?_ _) | (with_reducible refine cB_ ?_ _) | (with_reducible refine cC_ ?_) | exact HR579_0.out)) hb); replace HB := b1_ hb; clear hb ho0; obtain ⟨Ao15, co15, eo15⟩ := Kd.N_slice HO582.out; subst eo15))
       go_loopg [3, 27] k2 (fun kq v3 v27 w' => ∃ (x3_3 : List (S38)) (x27_3 : Int), v27 = .int .i64 x27_3 ∧ Aside0 (Z10.l1 kq a0 x3_3 (rd_L1 t573 x20_2) t573 (t573.length : Int) x20_2 t580 (t580.length : Int) x27_3 = some r) ∧ Aside0 (kq ≤ k2) ∧ Aside0 (Kd.S k38 38 w' w.heap.size (fun k_ => (w.heap.size ≤ k_) ∧ some k_ ≠ ((.slice (some ad579) t573.length co9) : Value).ownBlock ∧ some k_ ≠ ((.slice Ao15 t580.length co15) : Value).ownBlock) v3 x3_3) ∧ Aside0 (Kd.V (Kd.int .i64) 3 w' w.heap.size (fun k_ => (w.heap.size ≤ k_) ∧ some k_ ≠ (v3 : Value).ownBlock ∧ some k_ ≠ ((.slice (some ad579) t573.length co9) : Value).ownBlock ∧ some k_ ≠ ((.slice Ao15 t580.length co15) : Value).ownBlock) (.slice A579_0 (rd_L1 t573 x20_2).length c579_0) (rd_L1 t573 x20_2)) ∧ Aside0 (Kd.N (Kd.slice 3 (Kd.int .i64)) 27 w' w.heap.size (fun k_ => (w.heap.size ≤ k_) ∧ some k_ ≠ (v3 : Value).ownBlock ∧ some k_ ≠ ((.slice Ao15 t580.length co15) : Value).ownBlock) (.slice (some ad579) t573.length co9) t573) ∧ Aside0 (Kd.N (Kd.slice 3 (Kd.int .i64)) 27 w' w.heap.size (fun k_ => (w.heap.size ≤ k_) ∧ some k_ ≠ (v3 : Value).ownBlock ∧ some k_ ≠ ((.slice (some ad579) t573.length co9) : Value).ownBlock) (.slice Ao15 t580.length co15) t580) ∧ Aside0 (Below w.heap.size w w'))
       case atStart => exact ⟨(x3_2), (0), qc_, H', ⟨nA_ _⟩, ⟨(sw_ (Kd.S_mono HO_3.out (fun _ hk => ⟨hk.1.1, ⟨hk.1.2, hk.2⟩⟩)))⟩, ⟨by (with_reducible repeat (first | apply Kd.V_alloc | apply Kd.V_drewN | apply Kd.V_drew)); exact Kd.V_mono HL579_0.out (fun _ hk => ⟨hk.1.1.1, ⟨hk.1.1.2, ⟨hk.1.2, hk.2⟩⟩⟩)⟩, ⟨by (with_reducible repeat (first | apply Kd.N_alloc | apply Kd.N_drewN | apply Kd.N_drew)); exact Kd.N_mono HO_18.out (fun _ hk => ⟨hk.1.1, ⟨hk.1.2, hk.2⟩⟩)⟩, ⟨by (with_reducible repeat (first | apply Kd.N_alloc | apply Kd.N_drewN | apply Kd.N_drew)); exact HO582.out⟩, ⟨hB_⟩⟩
       case round =>
        clear H'
        obtain ⟨x3_3, x27_3, rfl, HA, HK3, HO_3, HO_5, HO_18, HO_25, HB⟩ := hrel
        cases gk with
        | zero => exact absurd HA.out (by simp [Z10.l1])
        | succ k3 =>
         have H := HA.out
         clear HA
         simp only [Z10.l1] at H
         by_cases c16 : x27_3 < (t580.length : Int)
         ·rw [if_pos c16] at H
          have c16b0 := oC_ c16
          clear c16
          have c17 := cp_ H
          replace H := ca_ H
          have c17b0 := oC_ c17
          clear c17
          have c18 := cp_ H
          replace H := ca_ H
          have c18b0 := oC_ c18
          clear c18
          obtain ⟨⟨t584, t587, t590⟩, A19, H⟩ := bi_ H
          try dsimp only at H
          by_cases c20 : t590 = true
          ·subst c20
           rw [if_pos rfl] at H
           have c21 := cp_ H
           replace H := ca_ H
           have LMc21 := A_ c21
           clear c21
           obtain ⟨y592, hy592⟩ : ∃ y_ : List (S38), y_ = (x3_3 ++ [(⟨t584, t587⟩ : S38)]) := ⟨_, rfl⟩
           replace H : (Z10.l1 k3 a0 y592 (rd_L1 t573 x20_2) t573 (t573.length : Int) x20_2 t580 (t580.length : Int) (wrap64 (x27_3 + 1))) = some r := by first | (rw [hy592]; exact H) | exact H
           have Ny592 := A_ hy592
           clear hy592
           have H' := A_ H
           clear H
           have p583 : 0 ≤ (x27_3 : Int) := oB_ qe_
           have q583 : x27_3 < (t580.length : Int) := oB_ qe_
           obtain ⟨ad583, A583_0, c583_0, e583, hx583_0, hl583_0, hi583_0⟩ := at_L1 (Kd.N_reads' HO_25.out).2.2 x27_3 p583 q583
           cases e583
           obtain ⟨ce583, hce583, hMe583, hcc583⟩ := Kd.N_get HO_25.out [] x27_3 p583 (by first | exact q583 | exact oB_ qe_ | (have e_ := (Kd.N_reads' HO_25.out).1; omega))
           obtain ⟨ua583_0, uc583_0, rfl, ul583_0, ge583_0⟩ := Kd.FK_slice_open hMe583
           have hv583_0 := hcc583 0 _ rfl
           rw [Nat.add_zero, show ((Kd.slice 3 (Kd.int .i64))).sz = 1 from rfl, Nat.mul_one] at hv583_0
           replace hv583_0 := Option.some.inj (hv583_0.symm.trans hx583_0)
           injection hv583_0 with hva_ hvn_ hvc_
           rw [hva_] at ge583_0
           rw [hvc_] at ul583_0
           have HL583_0 := A_ (show Kd.V (Kd.int .i64) 3 _ w.heap.size _ _ (rd_L1 t580 x27_3) from Kd.V_mk ul583_0 ge583_0)
           clear hva_ hvn_ hvc_ ge583_0 ul583_0
           clear hcc583 hce583
           have HR583_0 := A_ hi583_0
           have HC583_0 := A_ hl583_0
           clear hi583_0 hl583_0
           replace p583 := eq_true p583
           replace q583 := eq_true q583
           go_wp2_with (first | ((with_reducible refine gA_ (f := 38) rfl ?_); refine gL_ (some 35) Tryz.func38 #[.agg #[.slice A579_0 (rd_L1 t573 x20_2).length c579_0, .slice A583_0 (rd_L1 t580 x27_3).length c583_0]] rfl qa_ ?_; (with_reducible refine (Z57.calls k3 _ _ (rd_L1 t573 x20_2) _ _ (rd_L1 t580 x27_3) t584 t587 true _ ?side1 ?side2 ?side3 ?side4 A19.out).mono ?_); (case side1 => exact cw_ ((Kd.V_reads' HO_5.out).2.2)); (case side2 => exact (Kd.V_reads' HO_5.out).2.1); (case side3 => repeat (first | exact (by repeat (first | (with_reducible exact HR583_0.out) | (with_reducible refine cA_ ?_ _) | (with_reducible refine cB_ ?_ _) | (with_reducible refine cC_ ?_) | exact HR583_0.out)) | (with_reducible first | refine cA_ ?_ _ | refine cB_ ?_ _ | refine cC_ ?_))); (case side4 => exact HC583_0.out); rintro e w22 ⟨v585, v588, rfl, ho0, ho1, hb⟩; refine ⟨_, rfl, ?_⟩; replace HO_3 := A_ (Kd.S_mono (Kd.S_told (Kd.S_told (Kd.S_old (ss_ HO_3) hb) (Kd.R_base ho0)) (Kd.R_base ho1)) (fun _ h_ => h_.1)); replace HO_5 := A_ (Kd.V_mono (Kd.V_told (Kd.V_told (Kd.V_old (by (with_reducible repeat (first | apply Kd.V_alloc | apply Kd.V_drewN | apply Kd.V_drew)); exact HO_5.out) hb) (Kd.R_base ho0)) (Kd.R_base ho1)) (fun _ h_ => h_.1)); replace HO_18 := A_ (Kd.N_mono (Kd.N_told (Kd.N_told (Kd.N_old (by (with_reducible repeat (first | apply Kd.N_alloc | apply Kd.N_drewN | apply Kd.N_drew)); exact HO_18.out) hb) (Kd.R_base ho0)) (Kd.R_base ho1)) (fun _ h_ => h_.1)); replace HO_25 := A_ (Kd.N_mono (Kd.N_told (Kd.N_told (Kd.N_old (by (with_reducible repeat (first | apply Kd.N_alloc | apply Kd.N_drewN | apply Kd.N_drew)); exact HO_25.out) hb) (Kd.R_base ho0)) (Kd.R_base ho1)) (fun _ h_ => h_.1)); replace HL583_0 := A_ (Kd.V_mono (Kd.V_told (Kd.V_told (Kd.V_old (by (with_reducible repeat (first | apply Kd.V_alloc | apply Kd.V_drewN | apply Kd.V_drew)); exact HL583_0.out) hb) (Kd.R_base ho0)) (Kd.R_base ho1)) (fun _ h_ => h_.1)); have HO586 := A_ (rE_ (Kd.R_newM (M := fun k_ => (w.heap.size ≤ k_)) ho0 (bF_ hB_) (fun k_ h_ => h_)) (bF_ hB_)); have HO589 := A_ (rE_ (Kd.R_newM (M := fun k_ => (w.heap.size ≤ k_)) ho1 (bF_ hB_) (fun k_ h_ => h_)) (bF_ hB_)); replace HR583_0 := A_ (cD_ (by repeat (first | (with_reducible exact HR583_0.out) | (with_reducible refine cA_ ?_ _) | (with_reducible refine cB_ ?_ _) | (with_reducible refine cC_ ?_) | exact HR583_0.out)) hb); replace HB := b1_ hb; clear hb ho0 ho1) | ((with_reducible refine gB_ (N := 8) rfl ?_); refine bx_ 8 #[.slice none 0 0, .slice none 0 0] 38 ?_; intro gb591 hg w23 hbox hb; replace HO_3 := A_ (Kd.S_below (Kd.S_elderB (ss_ HO_3) gb591 (Nat.le_of_eq hg.symm)) hb); replace HO_5 := A_ (Kd.V_below (Kd.V_elderB (by (with_reducible repeat (first | apply Kd.V_alloc | apply Kd.V_drewN | apply Kd.V_drew)); exact HO_5.out) gb591 (Nat.le_of_eq hg.symm)) hb); replace HO_18 := A_ (Kd.N_below (Kd.N_elderB (by (with_reducible repeat (first | apply Kd.N_alloc | apply Kd.N_drewN | apply Kd.N_drew)); exact HO_18.out) gb591 (Nat.le_of_eq hg.symm)) hb); replace HO_25 := A_ (Kd.N_below (Kd.N_elderB (by (with_reducible repeat (first | apply Kd.N_alloc | apply Kd.N_drewN | apply Kd.N_drew)); exact HO_25.out) gb591 (Nat.le_of_eq hg.symm)) hb); replace HL583_0 := A_ (Kd.V_below (Kd.V_elderB (by (with_reducible repeat (first | apply Kd.V_alloc | apply Kd.V_drewN | apply Kd.V_drew)); exact HL583_0.out) gb591 (Nat.le_of_eq hg.symm)) hb); replace HO586 := rb_ HO586 hb; replace HO589 := rb_ HO589 hb; replace HR583_0 := A_ (cD_ (by repeat (first | (with_reducible exact HR583_0.out) | (with_reducible refine cA_ ?_ _) | (with_reducible refine cB_ ?_ _) | (with_reducible refine cC_ ?_) | exact HR583_0.out)) hb); have BK591 := A_ hbox; have GW591 := gw_ w hg; have GE591 := GW591; replace HB := b1_ hb; clear hb hbox hg; obtain ⟨Ao24, co24, eo24⟩ := Kd.R_slice HO586.out; subst eo24; obtain ⟨hcz25_0, hcz25_1, hfz25_0, hfz25_1⟩ := c2_ BK591; obtain ⟨Ao26, co26, eo26⟩ := Kd.R_slice HO589.out; subst eo26) | ((with_reducible refine gate_store (t := 38) (p := 8) rfl ?_); refine store_event (t := 38) (p := 8) (v := ?vo_w27) (w1 := ((w23.setCell ⟨gb591, 0, none⟩ (.slice Ao24 t584.length co24)).setCell ⟨gb591, 1, none⟩ (.slice Ao26 t587.length co26))) ?hg ?ho ?hn ?hr ?_; (case ho => rfl); (case hg => rfl); (case hn => rfl); (case hr => first | (go_simp; done) | (go_simp; rfl)); intro w27 hw; have n0_ : Aside0 (Kd.S k38 38 w27 w.heap.size (fun k_ => (w.heap.size ≤ k_) ∧ some k_ ≠ (.slice (some ad579) t573.length co9 : Value).ownBlock ∧ some k_ ≠ (.slice (some ad583) t580.length co15 : Value).ownBlock ∧ some k_ ≠ (.slice Ao24 t584.length co24 : Value).ownBlock ∧ some k_ ≠ (.slice Ao26 t587.length co26 : Value).ownBlock ∧ k_ ≠ gb591) u3 x3_3) := ⟨(by rw [hw]; exact (sw_ (Kd.S_mono (Kd.S_far (p := ⟨gb591, 1, none⟩) (Kd.S_far (p := ⟨gb591, 0, none⟩) (Kd.S_mono HO_3.out (fun k_ hk => (⟨hk, hk.2⟩ : _ ∧ k_ ≠ gb591))) (fun _ hk => hk.2) (.slice Ao24 t584.length co24)) (fun _ hk => hk.2) (.slice Ao26 t587.length co26)) (fun _ hk => ⟨hk.1.1.1.1.1, ⟨hk.1.1.1.1.2.1, ⟨hk.1.1.1.1.2.2, ⟨hk.1.1.1.2, ⟨hk.1.1.2, hk.1.2⟩⟩⟩⟩⟩))))⟩; have n1_ : Aside0 (Kd.V (Kd.int .i64) 3 w27 w.heap.size (fun k_ => (w.heap.size ≤ k_) ∧ some k_ ≠ (u3 : Value).ownBlock ∧ some k_ ≠ (.slice (some ad579) t573.length co9 : Value).ownBlock ∧ some k_ ≠ (.slice (some ad583) t580.length co15 : Value).ownBlock ∧ some k_ ≠ (.slice Ao24 t584.length co24 : Value).ownBlock ∧ some k_ ≠ (.slice Ao26 t587.length co26 : Value).ownBlock ∧ k_ ≠ gb591) (.slice A579_0 (rd_L1 t573 x20_2).length c579_0) (rd_L1 t573 x20_2)) := ⟨(by rw [hw]; exact (by (with_reducible repeat (first | apply Kd.V_alloc | apply Kd.V_drewN | apply Kd.V_drew)); exact Kd.V_mono (Kd.V_far (p := ⟨gb591, 1, none⟩) (Kd.V_far (p := ⟨gb591, 0, none⟩) (Kd.V_mono HO_5.out (fun k_ hk => (⟨hk, hk.2⟩ : _ ∧ k_ ≠ gb591))) (fun _ hk => hk.2) (.slice Ao24 t584.length co24)) (fun _ hk => hk.2) (.slice Ao26 t587.length co26)) (fun _ hk => ⟨hk.1.1.1.1.1, ⟨hk.1.1.1.1.2.1, ⟨hk.1.1.1.1.2.2.1, ⟨hk.1.1.1.1.2.2.2, ⟨hk.1.1.1.2, ⟨hk.1.1.2, hk.1.2⟩⟩⟩⟩⟩⟩)))⟩; have n2_ : Aside0 (Kd.N (Kd.slice 3 (Kd.int .i64)) 27 w27 w.heap.size (fun k_ => (w.heap.size ≤ k_) ∧ some k_ ≠ (u3 : Value).ownBlock ∧ some k_ ≠ (.slice (some ad583) t580.length co15 : Value).ownBlock ∧ some k_ ≠ (.slice Ao24 t584.length co24 : Value).ownBlock ∧ some k_ ≠ (.slice Ao26 t587.length co26 : Value).ownBlock ∧ k_ ≠ gb591) (.slice (some ad579) t573.length co9) t573) := ⟨(by rw [hw]; exact (by (with_reducible repeat (first | apply Kd.N_alloc | apply Kd.N_drewN | apply Kd.N_drew)); exact Kd.N_mono (Kd.N_far (p := ⟨gb591, 1, none⟩) (Kd.N_far (p := ⟨gb591, 0, none⟩) (Kd.N_mono HO_18.out (fun k_ hk => (⟨hk, hk.2⟩ : _ ∧ k_ ≠ gb591))) (fun _ hk => hk.2) (.slice Ao24 t584.length co24)) (fun _ hk => hk.2) (.slice Ao26 t587.length co26)) (fun _ hk => ⟨hk.1.1.1.1.1, ⟨hk.1.1.1.1.2.1, ⟨hk.1.1.1.1.2.2, ⟨hk.1.1.1.2, ⟨hk.1.1.2, hk.1.2⟩⟩⟩⟩⟩)))⟩; have n3_ : Aside0 (Kd.N (Kd.slice 3 (Kd.int .i64)) 27 w27 w.heap.size (fun k_ => (w.heap.size ≤ k_) ∧ some k_ ≠ (u3 : Value).ownBlock ∧ some k_ ≠ (.slice (some ad579) t573.length co9 : Value).ownBlock ∧ some k_ ≠ (.slice Ao24 t584.length co24 : Value).ownBlock ∧ some k_ ≠ (.slice Ao26 t587.length co26 : Value).ownBlock ∧ k_ ≠ gb591) (.slice (some ad583) t580.length co15) t580) := ⟨(by rw [hw]; exact (by (with_reducible repeat (first | apply Kd.N_alloc | apply Kd.N_drewN | apply Kd.N_drew)); exact Kd.N_mono (Kd.N_far (p := ⟨gb591, 1, none⟩) (Kd.N_far (p := ⟨gb591, 0, none⟩) (Kd.N_mono HO_25.out (fun k_ hk => (⟨hk, hk.2⟩ : _ ∧ k_ ≠ gb591))) (fun _ hk => hk.2) (.slice Ao24 t584.length co24)) (fun _ hk => hk.2) (.slice Ao26 t587.length co26)) (fun _ hk => ⟨hk.1.1.1.1.1, ⟨hk.1.1.1.1.2.1, ⟨hk.1.1.1.1.2.2, ⟨hk.1.1.1.2, ⟨hk.1.1.2, hk.1.2⟩⟩⟩⟩⟩)))⟩; have n4_ : Aside0 (Kd.V (Kd.int .i64) 3 w27 w.heap.size (fun k_ => (w.heap.size ≤ k_) ∧ some k_ ≠ (u3 : Value).ownBlock ∧ some k_ ≠ (.slice (some ad579) t573.length co9 : Value).ownBlock ∧ some k_ ≠ (.slice (some ad583) t580.length co15 : Value).ownBlock ∧ some k_ ≠ (.slice Ao24 t584.length co24 : Value).ownBlock ∧ some k_ ≠ (.slice Ao26 t587.length co26 : Value).ownBlock ∧ k_ ≠ gb591) (.slice A583_0 (rd_L1 t580 x27_3).length c583_0) (rd_L1 t580 x27_3)) := ⟨(by rw [hw]; exact (by (with_reducible repeat (first | apply Kd.V_alloc | apply Kd.V_drewN | apply Kd.V_drew)); exact Kd.V_mono (Kd.V_far (p := ⟨gb591, 1, none⟩) (Kd.V_far (p := ⟨gb591, 0, none⟩) (Kd.V_mono HL583_0.out (fun k_ hk => (⟨hk, hk.2⟩ : _ ∧ k_ ≠ gb591))) (fun _ hk => hk.2) (.slice Ao24 t584.length co24)) (fun _ hk => hk.2) (.slice Ao26 t587.length co26)) (fun _ hk => ⟨hk.1.1.1.1.1.1, ⟨hk.1.1.1.1.1.2.1, ⟨hk.1.1.1.1.1.2.2, ⟨hk.1.1.1.1.2, ⟨hk.1.1.1.2, ⟨hk.1.1.2, hk.1.2⟩⟩⟩⟩⟩⟩)))⟩; have n5_ : Aside0 (Kd.R (Kd.int .i64) 3 w27 w.heap.size (fun k_ => (w.heap.size ≤ k_) ∧ some k_ ≠ (.slice Ao26 t587.length co26 : Value).ownBlock) (.slice Ao24 t584.length co24) t584) := ⟨(by rw [hw]; exact (rw_ (Kd.R_mono (Kd.R_far (p := ⟨gb591, 1, none⟩) (Kd.R_far (p := ⟨gb591, 0, none⟩) (Kd.R_types HO586.out BK591.out (by decide)) (fun _ hk => hk.2) (.slice Ao24 t584.length co24)) (fun _ hk => hk.2) (.slice Ao26 t587.length co26)) (fun _ hk => ⟨hk.1.1, hk.1.2⟩))))⟩; have n6_ : Aside0 (Kd.R (Kd.int .i64) 3 w27 w.heap.size (fun k_ => (w.heap.size ≤ k_) ∧ some k_ ≠ (.slice Ao24 t584.length co24 : Value).ownBlock) (.slice Ao26 t587.length co26) t587) := ⟨(by rw [hw]; exact (rw_ (Kd.R_mono (Kd.R_far (p := ⟨gb591, 1, none⟩) (Kd.R_far (p := ⟨gb591, 0, none⟩) (Kd.R_types HO589.out BK591.out (by decide)) (fun _ hk => hk.2) (.slice Ao24 t584.length co24)) (fun _ hk => hk.2) (.slice Ao26 t587.length co26)) (fun _ hk => ⟨hk.1.1, hk.1.2⟩))))⟩; have n7_ : Aside0 (w27.heap[gb591]? = some (.cells #[.slice Ao24 t584.length co24, .slice Ao26 t587.length co26] 38 (0, 0))) := ⟨(by rw [hw]; exact qp_)⟩; have n8_ : Aside0 (Below w.heap.size w w27) := ⟨(by rw [hw]; exact hB_)⟩; clear hw; clear HO_3; clear HO_5; clear HO_18; clear HO_25; clear HL583_0; clear HO586; clear HO589; clear BK591; clear HB; have HO_3 := n0_; have HO_5 := n1_; have HO_18 := n2_; have HO_25 := n3_; have HL583_0 := n4_; have HO586 := n5_; have HO589 := n6_; have BK591 := n7_; have HB := n8_; clear n0_ n1_ n2_ n3_ n4_ n5_ n6_ n7_ n8_; obtain ⟨hcz28_0, hcz28_1, hfz28_0, hfz28_1⟩ := c2_ BK591) | ((with_reducible refine gate_builtin (b := .append) (xs := #[.tmp 39, .tmp 41]) rfl ?_); at_builtin; refine Kd.S_append k38 (w0 := w) w.heap.size rfl (.tmp 39) (.tmp 41) 28 38 (.agg #[(.slice none 0 0), (.slice none 0 0)]) 48 rfl Tryz.underlying28 info38 rfl (by decide) (by omega) u3 x3_3 (⟨t584, t587⟩ : S38) [.slice Ao24 t584.length co24, .slice Ao26 t587.length co26] (fun k_ => (w.heap.size ≤ k_) ∧ some k_ ≠ (.slice (some ad579) t573.length co9 : Value).ownBlock ∧ some k_ ≠ (.slice (some ad583) t580.length co15 : Value).ownBlock ∧ k_ ≠ gb591) (fun k_ => some k_ = (.slice Ao24 t584.length co24 : Value).ownBlock ∨ some k_ = (.slice Ao26 t587.length co26 : Value).ownBlock) rfl rfl ?aP ?aK ?aF ?aO ?aB ?aS ?aL ?_; (case aP => exact k38_mkM _ _ _ (⟨t584, t587⟩ : S38) (Kd.R_mono (Kd.R_tight rfl (Kd.R_mono (ok' := (fun k_ => ((fun k_ => (w.heap.size ≤ k_) ∧ some k_ ≠ (.slice (some ad579) t573.length co9 : Value).ownBlock ∧ some k_ ≠ (.slice (some ad583) t580.length co15 : Value).ownBlock ∧ k_ ≠ gb591)) k_ ∧ some k_ ≠ (u3 : Value).ownBlock)) (Kd.R_types (Kd.R_apart' (Kd.R_apart' (Kd.R_apart' (HO586.out) (Kd.N_typed HO_18.out) (by decide)) (Kd.N_typed HO_25.out) (by decide)) (Kd.S_typed HO_3.out) (by decide)) BK591.out (by decide)) (fun k_ hk => ⟨⟨hk.1.1.1.1.1, ⟨hk.1.1.1.2, ⟨hk.1.1.2, hk.2⟩⟩⟩, hk.1.2⟩))) (fun _ hk => .inl hk)) (Kd.R_mono (Kd.R_tight rfl (Kd.R_mono (ok' := (fun k_ => ((fun k_ => (w.heap.size ≤ k_) ∧ some k_ ≠ (.slice (some ad579) t573.length co9 : Value).ownBlock ∧ some k_ ≠ (.slice (some ad583) t580.length co15 : Value).ownBlock ∧ k_ ≠ gb591)) k_ ∧ some k_ ≠ (u3 : Value).ownBlock)) (Kd.R_types (Kd.R_apart' (Kd.R_apart' (Kd.R_apart' (HO589.out) (Kd.N_typed HO_18.out) (by decide)) (Kd.N_typed HO_25.out) (by decide)) (Kd.S_typed HO_3.out) (by decide)) BK591.out (by decide)) (fun k_ hk => ⟨⟨hk.1.1.1.1.1, ⟨hk.1.1.1.2, ⟨hk.1.1.2, hk.2⟩⟩⟩, hk.1.2⟩))) (fun _ hk => .inr hk)) (fun k_ h0_ h1_ => (HO586.out.1 k_ h0_).2 h1_.symm)); (case aK => exact (fun k_ hk => hk.elim (fun e_ => ((Kd.R_mono (ok' := (fun k_ => ((fun k_ => (w.heap.size ≤ k_) ∧ some k_ ≠ (.slice (some ad579) t573.length co9 : Value).ownBlock ∧ some k_ ≠ (.slice (some ad583) t580.length co15 : Value).ownBlock ∧ k_ ≠ gb591)) k_ ∧ some k_ ≠ (u3 : Value).ownBlock)) (Kd.R_types (Kd.R_apart' (Kd.R_apart' (Kd.R_apart' (HO586.out) (Kd.N_typed HO_18.out) (by decide)) (Kd.N_typed HO_25.out) (by decide)) (Kd.S_typed HO_3.out) (by decide)) BK591.out (by decide)) (fun k_ hk => ⟨⟨hk.1.1.1.1.1, ⟨hk.1.1.1.2, ⟨hk.1.1.2, hk.2⟩⟩⟩, hk.1.2⟩))).1 k_ e_.symm) (fun e_ => ((Kd.R_mono (ok' := (fun k_ => ((fun k_ => (w.heap.size ≤ k_) ∧ some k_ ≠ (.slice (some ad579) t573.length co9 : Value).ownBlock ∧ some k_ ≠ (.slice (some ad583) t580.length co15 : Value).ownBlock ∧ k_ ≠ gb591)) k_ ∧ some k_ ≠ (u3 : Value).ownBlock)) (Kd.R_types (Kd.R_apart' (Kd.R_apart' (Kd.R_apart' (HO589.out) (Kd.N_typed HO_18.out) (by decide)) (Kd.N_typed HO_25.out) (by decide)) (Kd.S_typed HO_3.out) (by decide)) BK591.out (by decide)) (fun k_ hk => ⟨⟨hk.1.1.1.1.1, ⟨hk.1.1.1.2, ⟨hk.1.1.2, hk.2⟩⟩⟩, hk.1.2⟩))).1 k_ e_.symm))); (case aB => exact hB_); (case aF => exact (fun k_ hk => ⟨(Nat.le_trans (bF_ hB_) hk), Kd.fresh' (Kd.N_lt (by (with_reducible repeat (first | apply Kd.N_alloc | apply Kd.N_drewN | apply Kd.N_drew)); exact HO_18.out)) k_ hk, Kd.fresh' (Kd.N_lt (by (with_reducible repeat (first | apply Kd.N_alloc | apply Kd.N_drewN | apply Kd.N_drew)); exact HO_25.out)) k_ hk, Kd.freshB (kk_ BK591) k_ hk⟩)); (case aO => exact (sw_ (Kd.S_mono HO_3.out (fun _ hk => ⟨⟨hk.1, ⟨hk.2.1, ⟨hk.2.2.1, hk.2.2.2.2.2⟩⟩⟩, fun e_ => e_.elim hk.2.2.2.1 hk.2.2.2.2.1⟩)))); (case aS => exact (bF_ hB_)); (case aL => have := LMc21.out; omega); intro v593 w29 ho hb hg hat; rw [← Ny592.out] at ho; replace HO_5 := A_ (Kd.V_afterv (ok := (fun k_ => (w.heap.size ≤ k_) ∧ some k_ ≠ (.slice (some ad579) t573.length co9 : Value).ownBlock ∧ some k_ ≠ (.slice (some ad583) t580.length co15 : Value).ownBlock ∧ some k_ ≠ (.slice Ao24 t584.length co24 : Value).ownBlock ∧ some k_ ≠ (.slice Ao26 t587.length co26 : Value).ownBlock ∧ k_ ≠ gb591)) (by (with_reducible repeat (first | apply Kd.V_alloc | apply Kd.V_drewN | apply Kd.V_drew)); exact Kd.V_mono HO_5.out (fun _ hk => ⟨⟨hk.1, ⟨hk.2.2.1, ⟨hk.2.2.2.1, ⟨hk.2.2.2.2.1, ⟨hk.2.2.2.2.2.1, hk.2.2.2.2.2.2⟩⟩⟩⟩⟩, hk.2.1⟩)) hg hat); replace HO_18 := A_ (Kd.N_afterv (ok := (fun k_ => (w.heap.size ≤ k_) ∧ some k_ ≠ (.slice (some ad583) t580.length co15 : Value).ownBlock ∧ some k_ ≠ (.slice Ao24 t584.length co24 : Value).ownBlock ∧ some k_ ≠ (.slice Ao26 t587.length co26 : Value).ownBlock ∧ k_ ≠ gb591)) (by (with_reducible repeat (first | apply Kd.N_alloc | apply Kd.N_drewN | apply Kd.N_drew)); exact Kd.N_mono HO_18.out (fun _ hk => ⟨⟨hk.1, ⟨hk.2.2.1, ⟨hk.2.2.2.1, ⟨hk.2.2.2.2.1, hk.2.2.2.2.2⟩⟩⟩⟩, hk.2.1⟩)) hg hat); replace HO_25 := A_ (Kd.N_afterv (ok := (fun k_ => (w.heap.size ≤ k_) ∧ some k_ ≠ (.slice (some ad579) t573.length co9 : Value).ownBlock ∧ some k_ ≠ (.slice Ao24 t584.length co24 : Value).ownBlock ∧ some k_ ≠ (.slice Ao26 t587.length co26 : Value).ownBlock ∧ k_ ≠ gb591)) (by (with_reducible repeat (first | apply Kd.N_alloc | apply Kd.N_drewN | apply Kd.N_drew)); exact Kd.N_mono HO_25.out (fun _ hk => ⟨⟨hk.1, ⟨hk.2.2.1, ⟨hk.2.2.2.1, ⟨hk.2.2.2.2.1, hk.2.2.2.2.2⟩⟩⟩⟩, hk.2.1⟩)) hg hat); replace HL583_0 := A_ (Kd.V_afterv (ok := (fun k_ => (w.heap.size ≤ k_) ∧ some k_ ≠ (.slice (some ad579) t573.length co9 : Value).ownBlock ∧ some k_ ≠ (.slice (some ad583) t580.length co15 : Value).ownBlock ∧ some k_ ≠ (.slice Ao24 t584.length co24 : Value).ownBlock ∧ some k_ ≠ (.slice Ao26 t587.length co26 : Value).ownBlock ∧ k_ ≠ gb591)) (by (with_reducible repeat (first | apply Kd.V_alloc | apply Kd.V_drewN | apply Kd.V_drew)); exact Kd.V_mono HL583_0.out (fun _ hk => ⟨⟨hk.1, ⟨hk.2.2.1, ⟨hk.2.2.2.1, ⟨hk.2.2.2.2.1, ⟨hk.2.2.2.2.2.1, hk.2.2.2.2.2.2⟩⟩⟩⟩⟩, hk.2.1⟩)) hg hat); replace BK591 := A_ (blk_grown (kk_ BK591) hg (Kd.S_away HO_3.out (fun _ hk => hk.2.2.2.2.2))); replace HB := A_ hb; have HO594 := A_ ho; clear HO_3 HO586 HO589; clear ho hb hg hat))
           go_roundg k3
           case measure => have := HJ1.out; have := HK2.out; have := HK3.out; omega
           case rel => exact ⟨(y592), (wrap64 (x27_3 + 1)), qc_, H', ⟨by have := HJ1.out; have := HK2.out; have := HK3.out; omega⟩, ⟨(sw_ (Kd.S_mono HO594.out (fun _ hk => ⟨hk.1, ⟨hk.2.1, hk.2.2.1⟩⟩)))⟩, ⟨by (with_reducible repeat (first | apply Kd.V_alloc | apply Kd.V_drewN | apply Kd.V_drew)); exact Kd.V_mono HO_5.out (fun _ hk => ⟨hk.1.1, ⟨hk.2, ⟨hk.1.2.1, hk.1.2.2.1⟩⟩⟩)⟩, ⟨by (with_reducible repeat (first | apply Kd.N_alloc | apply Kd.N_drewN | apply Kd.N_drew)); exact Kd.N_mono HO_18.out (fun _ hk => ⟨hk.1.1, ⟨hk.2, hk.1.2.1⟩⟩)⟩, ⟨by (with_reducible repeat (first | apply Kd.N_alloc | apply Kd.N_drewN | apply Kd.N_drew)); exact Kd.N_mono HO_25.out (fun _ hk => ⟨hk.1.1, ⟨hk.2, hk.1.2.1⟩⟩)⟩, ⟨hB_⟩⟩
          ·replace c20 := Bool.eq_false_iff.mpr c20
           subst c20
           have H1 : (Z10.l1 k3 a0 x3_3 (rd_L1 t573 x20_2) t573 (t573.length : Int) x20_2 t580 (t580.length : Int) (wrap64 (x27_3 + 1))) = some r := by rw [if_neg (show ¬ (false = true) by decide)] at H; exact H
           clear H
           have H := H1
           clear H1
           have H' := A_ H
           clear H
           have p583 : 0 ≤ (x27_3 : Int) := oB_ qe_
           have q583 : x27_3 < (t580.length : Int) := oB_ qe_
           obtain ⟨ad583, A583_0, c583_0, e583, hx583_0, hl583_0, hi583_0⟩ := at_L1 (Kd.N_reads' HO_25.out).2.2 x27_3 p583 q583
           cases e583
           obtain ⟨ce583, hce583, hMe583, hcc583⟩ := Kd.N_get HO_25.out [] x27_3 p583 (by first | exact q583 | exact oB_ qe_ | (have e_ := (Kd.N_reads' HO_25.out).1; omega))
           obtain ⟨ua583_0, uc583_0, rfl, ul583_0, ge583_0⟩ := Kd.FK_slice_open hMe583
           have hv583_0 := hcc583 0 _ rfl
           rw [Nat.add_zero, show ((Kd.slice 3 (Kd.int .i64))).sz = 1 from rfl, Nat.mul_one] at hv583_0
           replace hv583_0 := Option.some.inj (hv583_0.symm.trans hx583_0)
           injection hv583_0 with hva_ hvn_ hvc_
           rw [hva_] at ge583_0
           rw [hvc_] at ul583_0
           have HL583_0 := A_ (show Kd.V (Kd.int .i64) 3 _ w.heap.size _ _ (rd_L1 t580 x27_3) from Kd.V_mk ul583_0 ge583_0)
           clear hva_ hvn_ hvc_ ge583_0 ul583_0
           clear hcc583 hce583
           have HR583_0 := A_ hi583_0
           have HC583_0 := A_ hl583_0
           clear hi583_0 hl583_0
           replace p583 := eq_true p583
           replace q583 := eq_true q583
           go_wp2_with (first | ((with_reducible refine gA_ (f := 38) rfl ?_); refine gL_ (some 35) Tryz.func38 #[.agg #[.slice A579_0 (rd_L1 t573 x20_2).length c579_0, .slice A583_0 (rd_L1 t580 x27_3).length c583_0]] rfl qa_ ?_; (with_reducible refine (Z57.calls k3 _ _ (rd_L1 t573 x20_2) _ _ (rd_L1 t580 x27_3) t584 t587 false _ ?side1 ?side2 ?side3 ?side4 A19.out).mono ?_); (case side1 => exact cw_ ((Kd.V_reads' HO_5.out).2.2)); (case side2 => exact (Kd.V_reads' HO_5.out).2.1); (case side3 => repeat (first | exact (by repeat (first | (with_reducible exact HR583_0.out) | (with_reducible refine cA_ ?_ _) | (with_reducible refine cB_ ?_ _) | (with_reducible refine cC_ ?_) | exact HR583_0.out)) | (with_reducible first | refine cA_ ?_ _ | refine cB_ ?_ _ | refine cC_ ?_))); (case side4 => exact HC583_0.out); rintro e w30 ⟨v585, v588, rfl, ho0, ho1, hb⟩; refine ⟨_, rfl, ?_⟩; replace HO_3 := A_ (Kd.S_mono (Kd.S_told (Kd.S_told (Kd.S_old (ss_ HO_3) hb) (Kd.R_base ho0)) (Kd.R_base ho1)) (fun _ h_ => h_.1)); replace HO_5 := A_ (Kd.V_mono (Kd.V_told (Kd.V_told (Kd.V_old (by (with_reducible repeat (first | apply Kd.V_alloc | apply Kd.V_drewN | apply Kd.V_drew)); exact HO_5.out) hb) (Kd.R_base ho0)) (Kd.R_base ho1)) (fun _ h_ => h_.1)); replace HO_18 := A_ (Kd.N_mono (Kd.N_told (Kd.N_told (Kd.N_old (by (with_reducible repeat (first | apply Kd.N_alloc | apply Kd.N_drewN | apply Kd.N_drew)); exact HO_18.out) hb) (Kd.R_base ho0)) (Kd.R_base ho1)) (fun _ h_ => h_.1)); replace HO_25 := A_ (Kd.N_mono (Kd.N_told (Kd.N_told (Kd.N_old (by (with_reducible repeat (first | apply Kd.N_alloc | apply Kd.N_drewN | apply Kd.N_drew)); exact HO_25.out) hb) (Kd.R_base ho0)) (Kd.R_base ho1)) (fun _ h_ => h_.1)); replace HL583_0 := A_ (Kd.V_mono (Kd.V_told (Kd.V_told (Kd.V_old (by (with_reducible repeat (first | apply Kd.V_alloc | apply Kd.V_drewN | apply Kd.V_drew)); exact HL583_0.out) hb) (Kd.R_base ho0)) (Kd.R_base ho1)) (fun _ h_ => h_.1)); have HO586 := A_ (rE_ (Kd.R_newM (M := fun k_ => (w.heap.size ≤ k_)) ho0 (bF_ hB_) (fun k_ h_ => h_)) (bF_ hB_)); have HO589 := A_ (rE_ (Kd.R_newM (M := fun k_ => (w.heap.size ≤ k_)) ho1 (bF_ hB_) (fun k_ h_ => h_)) (bF_ hB_)); replace HR583_0 := A_ (cD_ (by repeat (first | (with_reducible exact HR583_0.out) | (with_reducible refine cA_ ?_ _) | (with_reducible refine cB_ ?_ _) | (with_reducible refine cC_ ?_) | exact HR583_0.out)) hb); replace HB := b1_ hb; clear hb ho0 ho1) | ((with_reducible refine gB_ (N := 8) rfl ?_); refine bx_ 8 #[.slice none 0 0, .slice none 0 0] 38 ?_; intro gb591 hg w31 hbox hb; replace HO_3 := A_ (Kd.S_below (Kd.S_elderB (ss_ HO_3) gb591 (Nat.le_of_eq hg.symm)) hb); replace HO_5 := A_ (Kd.V_below (Kd.V_elderB (by (with_reducible repeat (first | apply Kd.V_alloc | apply Kd.V_drewN | apply Kd.V_drew)); exact HO_5.out) gb591 (Nat.le_of_eq hg.symm)) hb); replace HO_18 := A_ (Kd.N_below (Kd.N_elderB (by (with_reducible repeat (first | apply Kd.N_alloc | apply Kd.N_drewN | apply Kd.N_drew)); exact HO_18.out) gb591 (Nat.le_of_eq hg.symm)) hb); replace HO_25 := A_ (Kd.N_below (Kd.N_elderB (by (with_reducible repeat (first | apply Kd.N_alloc | apply Kd.N_drewN | apply Kd.N_drew)); exact HO_25.out) gb591 (Nat.le_of_eq hg.symm)) hb); replace HL583_0 := A_ (Kd.V_below (Kd.V_elderB (by (with_reducible repeat (first | apply Kd.V_alloc | apply Kd.V_drewN | apply Kd.V_drew)); exact HL583_0.out) gb591 (Nat.le_of_eq hg.symm)) hb); replace HO586 := rb_ HO586 hb; replace HO589 := rb_ HO589 hb; replace HR583_0 := A_ (cD_ (by repeat (first | (with_reducible exact HR583_0.out) | (with_reducible refine cA_ ?_ _) | (with_reducible refine cB_ ?_ _) | (with_reducible refine cC_ ?_) | exact HR583_0.out)) hb); have BK591 := A_ hbox; have GW591 := gw_ w hg; have GE591 := GW591; replace HB := b1_ hb; clear hb hbox hg; obtain ⟨Ao32, co32, eo32⟩ := Kd.R_slice HO586.out; subst eo32; obtain ⟨hcz33_0, hcz33_1, hfz33_0, hfz33_1⟩ := c2_ BK591; obtain ⟨Ao34, co34, eo34⟩ := Kd.R_slice HO589.out; subst eo34))
           go_roundg k3
           case measure => have := HJ1.out; have := HK2.out; have := HK3.out; omega
           case rel => exact ⟨(x3_3), (wrap64 (x27_3 + 1)), qc_, H', ⟨by have := HJ1.out; have := HK2.out; have := HK3.out; omega⟩, ⟨(sw_ (Kd.S_mono (Kd.S_far (p := ⟨gb591, 1, none⟩) (Kd.S_far (p := ⟨gb591, 0, none⟩) (Kd.S_mono HO_3.out (fun k_ hk => (⟨hk, hk.2⟩ : _ ∧ k_ ≠ gb591))) (fun _ hk => hk.2) (.slice Ao32 t584.length co32)) (fun _ hk => hk.2) (.slice Ao34 t587.length co34)) (fun _ hk => ⟨hk.1.1.1.1.1, ⟨hk.1.1.1.1.2.1, hk.1.1.1.1.2.2⟩⟩)))⟩, ⟨by (with_reducible repeat (first | apply Kd.V_alloc | apply Kd.V_drewN | apply Kd.V_drew)); exact Kd.V_mono (Kd.V_far (p := ⟨gb591, 1, none⟩) (Kd.V_far (p := ⟨gb591, 0, none⟩) (Kd.V_mono HO_5.out (fun k_ hk => (⟨hk, hk.2⟩ : _ ∧ k_ ≠ gb591))) (fun _ hk => hk.2) (.slice Ao32 t584.length co32)) (fun _ hk => hk.2) (.slice Ao34 t587.length co34)) (fun _ hk => ⟨hk.1.1.1.1.1, ⟨hk.1.1.1.1.2.1, ⟨hk.1.1.1.1.2.2.1, hk.1.1.1.1.2.2.2⟩⟩⟩)⟩, ⟨by (with_reducible repeat (first | apply Kd.N_alloc | apply Kd.N_drewN | apply Kd.N_drew)); exact Kd.N_mono (Kd.N_far (p := ⟨gb591, 1, none⟩) (Kd.N_far (p := ⟨gb591, 0, none⟩) (Kd.N_mono HO_18.out (fun k_ hk => (⟨hk, hk.2⟩ : _ ∧ k_ ≠ gb591))) (fun _ hk => hk.2) (.slice Ao32 t584.length co32)) (fun _ hk => hk.2) (.slice Ao34 t587.length co34)) (fun _ hk => ⟨hk.1.1.1.1.1, ⟨hk.1.1.1.1.2.1, hk.1.1.1.1.2.2⟩⟩)⟩, ⟨by (with_reducible repeat (first | apply Kd.N_alloc | apply Kd.N_drewN | apply Kd.N_drew)); exact Kd.N_mono (Kd.N_far (p := ⟨gb591, 1, none⟩) (Kd.N_far (p := ⟨gb591, 0, none⟩) (Kd.N_mono HO_25.out (fun k_ hk => (⟨hk, hk.2⟩ : _ ∧ k_ ≠ gb591))) (fun _ hk => hk.2) (.slice Ao32 t584.length co32)) (fun _ hk => hk.2) (.slice Ao34 t587.length co34)) (fun _ hk => ⟨hk.1.1.1.1.1, ⟨hk.1.1.1.1.2.1, hk.1.1.1.1.2.2⟩⟩)⟩, ⟨hB_⟩⟩
         ·rw [if_neg c16] at H
          have c16b0 := oD_ c16
          clear c16
          have H' := A_ H
          clear H
          go_wp2
          go_roundg k3
          case measure => have := HJ1.out; have := HK2.out; have := HK3.out; omega
          case rel => exact ⟨(x3_3), (wrap64 (x20_2 + 1)), qc_, H', ⟨by have := HJ1.out; have := HK2.out; have := HK3.out; omega⟩, ⟨(sw_ (Kd.S_mono HO_3.out (fun _ hk => ⟨hk.1, hk.2.1⟩)))⟩, ⟨by (with_reducible repeat (first | apply Kd.N_alloc | apply Kd.N_drewN | apply Kd.N_drew)); exact Kd.N_mono HO_18.out (fun _ hk => ⟨hk.1, hk.2.1⟩)⟩, ⟨hB_⟩⟩
      ·rw [if_neg c10] at H
       have c10b0 := oD_ c10
       clear c10
       obtain ⟨t576, A35, H⟩ := bi_ H
       obtain rfl := Option.some.inj H
       obtain ⟨Ao36, co36, eo36⟩ := Kd.S_slice HO_3.out
       subst eo36
       have HZ := A_ (Z11.callsS _ _ _ _ w _ HB.out HO_3.out A35.out)
       go_wp2_with (first | ((with_reducible refine gA_ (f := 39) rfl ?_); refine gL_ (some 46) Tryz.func39 #[.slice Ao36 x3_2.length co36] rfl qa_ ?_; (with_reducible refine HZ.out.mono ?_); rintro e wZ ⟨vZ, rfl, hoZ, hbZ, hkZ⟩; refine ⟨_, rfl, ?_⟩; have HO578 := A_ hoZ; replace HB := A_ hbZ; clear hoZ hbZ hkZ))
       go_ret
       exact ⟨_, qb_, (sw_ (Kd.S_mono HO578.out (fun _ _ => trivial))), hB_⟩
end Go.Proofs.YtoijcallajegfaaGreat.A
end
section
namespace Go.Proofs.YtoijcallajegfaaGreat.A
open Go.RowKit Go.Proofs.YtoijcallajegfaaGreatW.PrintWords Go.Proofs.YtoijcallajegfaaGreatW.PrintLast Go.Proofs.YtoijcallajegfaaGreatW.PrintMore
attribute [local go_sem] max2_int min2_int max_two min_two max_three min_three max_four min_four
set_option linter.unusedVariables false
set_option linter.unusedSimpArgs false
mutual
def Z43.l0 : Nat → List Int → List Bool → List (List Int) → Int → Int → Option ((List (List Int)))
 | 0, _, _, _, _, _ => none
 | k + 1, x0, x3, x4, x16, x17 => if x17 < x16 then (if 0 ≤ x17 then (if x17 < (x3.length : Int) then (if rdOf false x3 x17 = true then (Z43.l0 k x0 x3 x4 x16 (wrap64 (x17 + 1))) else (Z43.l1 k x0 x3 x4 (([] : List Int)) x17 x16 x17)) else (none)) else (none)) else (some x4)
def Z43.l1 : Nat → List Int → List Bool → List (List Int) → List Int → Int → Int → Int → Option ((List (List Int)))
 | 0, _, _, _, _, _, _, _ => none
 | k + 1, x0, x3, x4, x6, x7, x16, x17 => if 0 ≤ x7 then (if x7 < (x3.length : Int) then (if rdOf false x3 x7 = true then (if x4.length < 5864062014805 then (Z43.l0 k x0 x3 (x4 ++ [x6]) x16 (wrap64 (x17 + 1))) else (none)) else (if x6.length < 17592186044416 then (if x7 < (x0.length : Int) then (Z43.l1 k x0 (x3.set (x7 : Int).toNat true) x4 (x6 ++ [x7]) (rd x0 x7) x16 x17) else (none)) else (none))) else (none)) else (none)
end
def Z43.f (k : Nat) (l0 : List Int) : Option ((List (List Int))) := (Z61.f k l0).bind fun t595 => (if t595 = true then (if 0 ≤ (l0.length : Int) then (if ((l0.length : Int) : Int).toNat ≤ 281474976710656 then (Z43.l0 k l0 (List.replicate ((l0.length : Int) : Int).toNat false) (([] : List (List Int))) (l0.length : Int) 0) else (none)) else (none)) else (some ([] : List (List Int))))
theorem Z43.mono_l : ∀ k, (∀ y0 y1 y2 y3 y4, LeO (Z43.l0 k y0 y1 y2 y3 y4) (Z43.l0 (k + 1) y0 y1 y2 y3 y4)) ∧ (∀ y0 y1 y2 y3 y4 y5 y6, LeO (Z43.l1 k y0 y1 y2 y3 y4 y5 y6) (Z43.l1 (k + 1) y0 y1 y2 y3 y4 y5 y6))
 | 0 => ⟨fun _ _ _ _ _ r h => by simp [Z43.l0] at h, fun _ _ _ _ _ _ _ r h => by simp [Z43.l1] at h⟩
 | k + 1 => by
  obtain ⟨ih0, ih1⟩ := Z43.mono_l k
  refine ⟨?_, ?_⟩
  ·intro y0 y1 y2 y3 y4
   unfold Z43.l0
   repeat' first|exact ih0 _ _ _ _ _|exact ih1 _ _ _ _ _ _ _|exact Z61.mono _ _|exact lo_|refine LeO.ite ?_ ?_|refine LeO.bind ?_ (fun _ => ?_)
  ·intro y0 y1 y2 y3 y4 y5 y6
   unfold Z43.l1
   repeat' first|exact ih0 _ _ _ _ _|exact ih1 _ _ _ _ _ _ _|exact Z61.mono _ _|exact lo_|refine LeO.ite ?_ ?_|refine LeO.bind ?_ (fun _ => ?_)
theorem Z43.mono : ∀ a0 k, LeO (Z43.f k a0) (Z43.f (k + 1) a0) := by
 intro a0 k
 obtain ⟨ih0, ih1⟩ := Z43.mono_l k
 unfold Z43.f
 repeat' first|exact ih0 _ _ _ _ _|exact ih1 _ _ _ _ _ _ _|exact Z61.mono _ _|exact lo_|refine LeO.ite ?_ ?_|refine LeO.bind ?_ (fun _ => ?_)
set_option maxHeartbeats 8000000 in
set_option maxRecDepth 100000 in
theorem Z43.calls (k : Nat) (A0 : Option Addr) (c0 : Nat) (l0 : List Int) (r : List (List Int)) (w : World) (hr0 : Kd.C (Kd.int .i64) w A0 l0.length l0) (hc0 : l0.length ≤ c0) (h : Z43.f k l0 = some r) :
  Calls Tryz.prog 89 #[.slice A0 l0.length c0] w fun e w' => ∃ v0_ : Value, e = .returned (v0_) ∧ Kd.S (Kd.slice 3 (Kd.int .i64)) 27 w' w.heap.size (fun _ => True) v0_ r ∧ Below w.heap.size w w' := by
 have HR0 := A_ hr0
 have HC0 := A_ hc0
 clear hr0 hc0
 have HB := A_ (Below.refl w.heap.size w)
 have H := h
 unfold Z43.f at H
 clear h
 obtain ⟨t595, A2, H⟩ := bi_ H
 by_cases c3 : t595 = true
 ·subst c3
  rw [if_pos rfl] at H
  have c4 := cp_ H
  replace H := ca_ H
  have c4b0 := eq_true c4
  have c4b1 := oC_ c4
  clear c4
  have c5 := cp_ H
  replace H := ca_ H
  have c5b0 := eq_true c5
  have c5b1 := oC_ c5
  clear c5
  obtain ⟨y596, hy596⟩ : ∃ y_ : List Bool, y_ = (List.replicate ((l0.length : Int) : Int).toNat false) := ⟨_, rfl⟩
  replace H : (Z43.l0 k l0 y596 (([] : List (List Int))) (l0.length : Int) 0) = some r := by first | (rw [hy596]; exact H) | exact H
  have Ny596 := A_ hy596
  clear hy596
  obtain ⟨y599, hy599⟩ : ∃ y_ : List (List Int), y_ = (([] : List (List Int))) := ⟨_, rfl⟩
  replace H : (Z43.l0 k l0 y596 y599 (l0.length : Int) 0) = some r := by first | (rw [hy599]; exact H) | exact H
  have Ny599 := A_ hy599
  clear hy599
  have H' := A_ H
  clear H
  go_enter Tryz.func89, Tryz.ntmps89
  go_wp2_with (first | ((with_reducible refine gA_ (f := 98) rfl ?_); refine gL_ (some 9) Tryz.func98 #[.slice A0 l0.length c0] rfl qa_ ?_; (with_reducible refine (Z61.calls k _ _ l0 true _ (cc_ HR0) HC0.out A2.out).mono ?_); rintro e w6 ⟨rfl, hb⟩; refine ⟨_, rfl, ?_⟩; replace HB := b1_ hb; clear hb) | ((with_reducible refine gB_ (N := 13) rfl ?_); refine Kd.R_make Kd.bool _ 4 rfl (N := 13) rfl 92 _ _ rfl (l0.length : Int) rfl rfl Tryz.underlying92 (.bool false) 1 info4 rfl (by decide) (by omega) false (ok := fun _ => True) (okp := fun _ => True) rfl (fun _ hk => hk) trivial (oB_ qe_) (Nat.le_trans (Nat.mul_le_mul_right _ (oB_ qe_ : (l0.length : Int).toNat ≤ 281474976710656)) (by omega)) (Below.refl _ _) (nA_ _) ?_; intro v597 w7 ho8 hb hg_ hnew_; clear hg_ hnew_; (first | rw [← Ny596.out] at ho8 | (simp only [Int.reduceToNat] at ho8; rw [← Ny596.out] at ho8)); have HO598 := rl_ w ho8; replace HB := b1_ hb; clear hb ho8) | ((with_reducible refine gB_ (N := 14) rfl ?_); refine Kd.S_lit (Kd.slice 3 (Kd.int .i64)) _ 27 ?hg (N := 14) ?hd (xs := ([] : List (List Int))) (inner := []) (ok := fun _ => True) (okp := fun _ => True) ?hr ?hp (fun _ hk => hk) trivial (Below.refl _ _) (nA_ _) (by simp) ?_; (case hd => rfl); (case hg => rfl); (case hr => first | (go_simp; done) | (go_simp; rfl)); (case hp => exact (Reps.none _ _)); intro v600 w9 ho10 hb hg_ hnew_; clear hg_ hnew_; (first | rw [← Ny599.out] at ho10 | (simp only [Int.reduceToNat] at ho10; rw [← Ny599.out] at ho10)); replace HO598 := rb_ HO598 hb; have HO601 := A_ (Kd.S_lower ho10 (bF_ hB_)); replace HB := b1_ hb; clear hb ho10))
  go_loopg [4, 17] k (fun kq v4 v17 w' => ∃ (x3_1 : List Bool) (x4_1 : List (List Int)) (x17_1 : Int), v17 = .int .i64 x17_1 ∧ Aside0 (Z43.l0 kq l0 x3_1 x4_1 (l0.length : Int) x17_1 = some r) ∧ Aside0 (kq ≤ k) ∧ Aside0 (Kd.R Kd.bool 4 w' w.heap.size (fun _ => True) v597 x3_1) ∧ Aside0 (Kd.S (Kd.slice 3 (Kd.int .i64)) 27 w' w.heap.size (fun _ => True) v4 x4_1) ∧ Aside0 (Below w.heap.size w w'))
  case atStart => exact ⟨(y596), (y599), (0), qc_, H', ⟨nA_ _⟩, ⟨(rr_ HO598)⟩, ⟨(ss_ HO601)⟩, ⟨hB_⟩⟩
  case round =>
   clear H'
   obtain ⟨x3_1, x4_1, x17_1, rfl, HA, HK1, HO_3, HO_4, HB⟩ := hrel
   cases gk with
   | zero => exact absurd HA.out (by simp [Z43.l0])
   | succ k1 =>
    have H := HA.out
    clear HA
    simp only [Z43.l0] at H
    by_cases c11 : x17_1 < (l0.length : Int)
    ·rw [if_pos c11] at H
     have c11b0 := oC_ c11
     clear c11
     have c12 := cp_ H
     replace H := ca_ H
     have c12b0 := oC_ c12
     clear c12
     have c13 := cp_ H
     replace H := ca_ H
     have c13b0 := oC_ c13
     clear c13
     obtain ⟨bq14, hbq14⟩ : ∃ b_ : Bool, b_ = (rdOf false x3_1 x17_1) := ⟨_, rfl⟩
     replace H : (if bq14 = true then (Z43.l0 k1 l0 x3_1 x4_1 (l0.length : Int) (wrap64 (x17_1 + 1))) else (Z43.l1 k1 l0 x3_1 x4_1 (([] : List Int)) x17_1 (l0.length : Int) x17_1)) = some r := by rw [← hbq14] at H; exact H
     have Nbq14 := A_ hbq14
     clear hbq14
     by_cases c15 : bq14 = true
     ·subst c15
      rw [if_pos rfl] at H
      have H' := A_ H
      clear H
      obtain ⟨Ao16, co16, eo16⟩ := Kd.R_slice HO_3.out
      subst eo16
      have p602 : 0 ≤ (x17_1 : Int) := oB_ qe_
      have q602 : x17_1 < (x3_1.length : Int) := oB_ qe_
      obtain ⟨ad602, e602, hx602_0⟩ := Kd.at_bool (Kd.R_reads' HO_3.out).2.2 x17_1 p602 q602
      (try rw [← Nbq14.out] at hx602_0)
      cases e602
      replace p602 := eq_true p602
      replace q602 := eq_true q602
      go_wp2
      go_roundg k1
      case measure => have := HK1.out; omega
      case rel => exact ⟨(x3_1), (x4_1), (wrap64 (x17_1 + 1)), qc_, H', ⟨by have := HK1.out; omega⟩, ⟨(rr_ HO_3)⟩, ⟨(ss_ HO_4)⟩, ⟨hB_⟩⟩
     ·replace c15 := Bool.eq_false_iff.mpr c15
      subst c15
      have H1 : (Z43.l1 k1 l0 x3_1 x4_1 (([] : List Int)) x17_1 (l0.length : Int) x17_1) = some r := by rw [if_neg (show ¬ (false = true) by decide)] at H; exact H
      clear H
      have H := H1
      clear H1
      obtain ⟨y603, hy603⟩ : ∃ y_ : List Int, y_ = (([] : List Int)) := ⟨_, rfl⟩
      replace H : (Z43.l1 k1 l0 x3_1 x4_1 y603 x17_1 (l0.length : Int) x17_1) = some r := by first | (rw [hy603]; exact H) | exact H
      have Ny603 := A_ hy603
      clear hy603
      have H' := A_ H
      clear H
      obtain ⟨Ao17, co17, eo17⟩ := Kd.R_slice HO_3.out
      subst eo17
      have p602 : 0 ≤ (x17_1 : Int) := oB_ qe_
      have q602 : x17_1 < (x3_1.length : Int) := oB_ qe_
      obtain ⟨ad602, e602, hx602_0⟩ := Kd.at_bool (Kd.R_reads' HO_3.out).2.2 x17_1 p602 q602
      (try rw [← Nbq14.out] at hx602_0)
      cases e602
      obtain ⟨g602, rfl⟩ : ∃ g_, ad602 = (⟨g_, 0, none⟩ : Addr) := Kd.R_head HO_3.out
      (try simp only [add_plain] at hx602_0)
      replace p602 := eq_true p602
      replace q602 := eq_true q602
      go_wp2_with (first | ((with_reducible refine gB_ (N := 24) rfl ?_); refine Kd.R_lit (Kd.int .i64) _ 3 ?hg (N := 24) ?hd (xs := ([] : List Int)) (inner := []) (ok := fun _ => True) (okp := fun _ => True) ?hr ?hp (fun _ hk => hk) trivial (Below.refl _ _) (nA_ _) (by simp) ?_; (case hd => rfl); (case hg => rfl); (case hr => first | (go_simp; done) | (go_simp; rfl)); (case hp => exact (Reps.none _ _)); intro v604 w18 ho19 hb hg_ hnew_; clear hg_ hnew_; (first | rw [← Ny603.out] at ho19 | (simp only [Int.reduceToNat] at ho19; rw [← Ny603.out] at ho19)); replace HO_3 := rb_ HO_3 hb; replace HO_4 := A_ (Kd.S_elder' (ss_ HO_4) (Kd.R_base ho19) hb); have HO605 := rl_ w ho19; replace HB := b1_ hb; clear hb ho19))
      go_loopg [6, 7] k1 (fun kq v6 v7 w' => ∃ (x3_2 : List Bool) (x6_2 : List Int) (x7_2 : Int), v7 = .int .i64 x7_2 ∧ Aside0 (Z43.l1 kq l0 x3_2 x4_1 x6_2 x7_2 (l0.length : Int) x17_1 = some r) ∧ Aside0 (kq ≤ k1) ∧ Aside0 (Kd.R Kd.bool 4 w' w.heap.size (fun _ => True) (.slice (some (⟨g602, 0, none⟩ : Addr)) x3_1.length co17) x3_2) ∧ Aside0 (Kd.S (Kd.slice 3 (Kd.int .i64)) 27 w' w.heap.size (fun k_ => some k_ ≠ (v6 : Value).ownBlock) u4 x4_1) ∧ Aside0 (Kd.R (Kd.int .i64) 3 w' w.heap.size (fun _ => True) v6 x6_2) ∧ Aside0 (Below w.heap.size w w'))
      case atStart => exact ⟨(x3_1), (y603), (x17_1), qc_, H', ⟨nA_ _⟩, ⟨(rr_ HO_3)⟩, ⟨(sw_ (Kd.S_mono HO_4.out (fun _ hk => hk.2)))⟩, ⟨(rr_ HO605)⟩, ⟨hB_⟩⟩
      case round =>
       clear H'
       obtain ⟨x3_2, x6_2, x7_2, rfl, HA, HK2, HO_3, HO_4, HO_6, HB⟩ := hrel
       have hl3_2 := (Kd.R_reads' HO_3.out).1
       rw [hl3_2] at HO_3
       (try simp only [hl3_2])
       (try simp only [hl3_2] at HO_4)
       (try simp only [hl3_2] at HO_6)
       cases gk with
       | zero => exact absurd HA.out (by simp [Z43.l1])
       | succ k2 =>
        have H := HA.out
        clear HA
        simp only [Z43.l1] at H
        have c20 := cp_ H
        replace H := ca_ H
        have c20b0 := oC_ c20
        clear c20
        have c21 := cp_ H
        replace H := ca_ H
        have c21b0 := oC_ c21
        clear c21
        obtain ⟨bq22, hbq22⟩ : ∃ b_ : Bool, b_ = (rdOf false x3_2 x7_2) := ⟨_, rfl⟩
        replace H : (if bq22 = true then (if x4_1.length < 5864062014805 then (Z43.l0 k2 l0 x3_2 (x4_1 ++ [x6_2]) (l0.length : Int) (wrap64 (x17_1 + 1))) else (none)) else (if x6_2.length < 17592186044416 then (if x7_2 < (l0.length : Int) then (Z43.l1 k2 l0 (x3_2.set (x7_2 : Int).toNat true) x4_1 (x6_2 ++ [x7_2]) (rd l0 x7_2) (l0.length : Int) x17_1) else (none)) else (none))) = some r := by rw [← hbq22] at H; exact H
        have Nbq22 := A_ hbq22
        clear hbq22
        by_cases c23 : bq22 = true
        ·subst c23
         rw [if_pos rfl] at H
         have c24 := cp_ H
         replace H := ca_ H
         have LMc24 := A_ c24
         clear c24
         obtain ⟨y607, hy607⟩ : ∃ y_ : List (List Int), y_ = (x4_1 ++ [x6_2]) := ⟨_, rfl⟩
         replace H : (Z43.l0 k2 l0 x3_2 y607 (l0.length : Int) (wrap64 (x17_1 + 1))) = some r := by first | (rw [hy607]; exact H) | exact H
         have Ny607 := A_ hy607
         clear hy607
         have H' := A_ H
         clear H
         have p606 : 0 ≤ (x7_2 : Int) := oB_ qe_
         have q606 : x7_2 < (x3_2.length : Int) := oB_ qe_
         obtain ⟨ad606, e606, hx606_0⟩ := Kd.at_bool (Kd.R_reads' HO_3.out).2.2 x7_2 p606 q606
         (try rw [← Nbq14.out] at hx606_0)
         (try rw [← Nbq22.out] at hx606_0)
         obtain rfl : (⟨g602, 0, none⟩ : Addr) = ad606 := (by injection e606)
         (try simp only [add_plain] at hx606_0)
         replace p606 := eq_true p606
         replace q606 := eq_true q606
         obtain ⟨Ao26, co26, eo26⟩ := Kd.R_slice HO_6.out
         subst eo26
         go_wp2_with (first | ((with_reducible refine gate_builtin (b := .append) (xs := #[.tmp 42, .tmp 44]) rfl ?_); at_builtin; refine Kd.S_append (Kd.slice 3 (Kd.int .i64)) (w0 := w) w.heap.size rfl (.tmp 42) (.tmp 44) 22 27 (.slice none 0 0) 24 rfl Tryz.underlying22 info27 rfl (by decide) (by omega) u4 x4_1 x6_2 [.slice Ao26 x6_2.length co26] (fun _ => True) (fun k_ => some k_ = (.slice Ao26 x6_2.length co26 : Value).ownBlock) rfl rfl ?aP (fun k_ hk_ => ((Kd.R_mono (ok' := fun k_ => ((fun _ => True)) k_ ∧ some k_ ≠ (u4 : Value).ownBlock) (Kd.R_apart' (HO_6.out) (Kd.S_typed HO_4.out) (by decide)) (fun k_ hk => ⟨trivial, hk.2⟩))).1 k_ hk_.symm) ?aF ?aO ?aB ?aS ?aL ?_; (case aP => exact Kd.M_row (Kd.R_mono (Kd.R_tight rfl (Kd.R_mono (ok' := fun k_ => ((fun _ => True)) k_ ∧ some k_ ≠ (u4 : Value).ownBlock) (Kd.R_apart' (HO_6.out) (Kd.S_typed HO_4.out) (by decide)) (fun k_ hk => ⟨trivial, hk.2⟩))) (fun _ h_ => h_))); (case aB => exact hB_); (case aF => exact (fun _ _ => trivial)); (case aO => exact (sw_ (Kd.S_mono HO_4.out (fun k_ hk => ⟨trivial, fun e_ => hk e_⟩)))); (case aS => exact (bF_ hB_)); (case aL => have := LMc24.out; omega); intro v608 w25 ho hb hg hat; rw [← Ny607.out] at ho; replace HO_3 := A_ (Kd.R_over' (rr_ HO_3) (Kd.S_typed (ss_ HO_4)) (by decide) hg); replace HB := A_ hb; have HO609 := A_ ho; clear HO_4 HO_6; clear ho hb hg hat))
         (try simp only [← hl3_2])
         go_roundg k2
         case measure => have := HK1.out; have := HK2.out; omega
         case rel => exact ⟨(x3_2), (y607), (wrap64 (x17_1 + 1)), qc_, H', ⟨by have := HK1.out; have := HK2.out; omega⟩, ⟨by (try simp only [hl3_2]); (with_reducible repeat (first | apply rA_ | apply rB_ | apply rC_)); exact HO_3.out⟩, ⟨by (try simp only [hl3_2]); (with_reducible repeat (first | apply Kd.S_alloc | apply Kd.S_drewN | apply Kd.S_drew)); exact HO609.out⟩, ⟨hB_⟩⟩
        ·replace c23 := Bool.eq_false_iff.mpr c23
         subst c23
         have H1 : (if x6_2.length < 17592186044416 then (if x7_2 < (l0.length : Int) then (Z43.l1 k2 l0 (x3_2.set (x7_2 : Int).toNat true) x4_1 (x6_2 ++ [x7_2]) (rd l0 x7_2) (l0.length : Int) x17_1) else (none)) else (none)) = some r := by rw [if_neg (show ¬ (false = true) by decide)] at H; exact H
         clear H
         have H := H1
         clear H1
         obtain ⟨y610, hy610⟩ : ∃ y_ : List Bool, y_ = (x3_2.set (x7_2 : Int).toNat true) := ⟨_, rfl⟩
         replace H : (if x6_2.length < 17592186044416 then (if x7_2 < (l0.length : Int) then (Z43.l1 k2 l0 y610 x4_1 (x6_2 ++ [x7_2]) (rd l0 x7_2) (l0.length : Int) x17_1) else (none)) else (none)) = some r := by first | (rw [hy610]; exact H) | exact H
         have Ny610 := A_ hy610
         clear hy610
         have c28 := cp_ H
         replace H := ca_ H
         have LMc28 := A_ c28
         clear c28
         obtain ⟨y611, hy611⟩ : ∃ y_ : List Int, y_ = (x6_2 ++ [x7_2]) := ⟨_, rfl⟩
         replace H : (if x7_2 < (l0.length : Int) then (Z43.l1 k2 l0 y610 x4_1 y611 (rd l0 x7_2) (l0.length : Int) x17_1) else (none)) = some r := by first | (rw [hy611]; exact H) | exact H
         have Ny611 := A_ hy611
         clear hy611
         have c29 := cp_ H
         replace H := ca_ H
         have c29b0 := oC_ c29
         clear c29
         have H' := A_ H
         clear H
         have p606 : 0 ≤ (x7_2 : Int) := oB_ qe_
         have q606 : x7_2 < (x3_2.length : Int) := oB_ qe_
         obtain ⟨ad606, e606, hx606_0⟩ := Kd.at_bool (Kd.R_reads' HO_3.out).2.2 x7_2 p606 q606
         (try rw [← Nbq14.out] at hx606_0)
         (try rw [← Nbq22.out] at hx606_0)
         obtain rfl : (⟨g602, 0, none⟩ : Addr) = ad606 := (by injection e606)
         (try simp only [add_plain] at hx606_0)
         replace p606 := eq_true p606
         replace q606 := eq_true q606
         have p27 : 0 ≤ (x7_2 : Int) := oB_ qe_
         have q27 : (x7_2 : Int) < ((x3_2.length : Int) : Int) := oB_ qe_
         obtain ⟨go27, co27, eo27, gb27, gl27, cl27, HG27⟩ := Kd.R_form HO_3.out (by omega)
         (first | cases eo27 | (injection eo27 with ea_ en_ ec_; (first | subst ea_ | (injection ea_ with ea_; subst ea_)); subst ec_; clear en_))
         have GB27 := A_ gb27
         have GG27 := A_ HG27
         clear gb27 gl27 HG27
         (first | simp only [add_plain] at hx602_0 | skip)
         (first | simp only [add_plain] at hx606_0 | skip)
         obtain ⟨hx27_0, hf27_0⟩ := Kd.R_celln false HO_3.out (x7_2 : Int) p27 q27
         replace p27 := eq_true p27
         replace q27 := eq_true q27
         have HP30 := Kd.R_putg HO_3.out (x7_2 : Int) true
         go_wp2_with (first | ((with_reducible refine gate_store (t := 4) (p := 37) rfl ?_); refine store_event (t := 4) (p := 37) (v := ?vo_w31) (w1 := (wr.setCell ⟨g602, (x7_2 : Int).toNat, none⟩ (.bool true))) ?hg ?ho ?hn ?hr ?_; (case ho => rfl); (case hg => rfl); (case hn => rfl); (case hr => first | (go_simp; done) | (go_simp; rfl)); intro w31 hw; have hg : wr.grownBy w31 (some g602) := (by rw [hw]; exact HP30.2); have hp_ : Kd.R Kd.bool 4 w31 w.heap.size (fun _ => True) (.slice (some ⟨g602, 0, none⟩) x3_2.length co17) y610 := (by rw [hw, Ny610.out]; exact HP30.1); clear HP30; replace HO_4 := A_ (Kd.S_over' (v := (.slice (some ⟨g602, 0, none⟩) x3_2.length co17)) (ss_ HO_4) (Kd.R_typed HO_3.out) (by decide) hg); replace HO_6 := A_ (Kd.R_over' (v := (.slice (some ⟨g602, 0, none⟩) x3_2.length co17)) (rr_ HO_6) (Kd.R_typed HO_3.out) (by decide) hg); replace HO_3 := A_ (hp_); replace HB := A_ ((by rw [hw]; exact bD_ (HB.out) GB27.out : Below w.heap.size w w31)); clear hg hw hp_) | ((with_reducible refine gate_builtin (b := .append) (xs := #[.tmp 38, .tmp 40]) rfl ?_); at_builtin; refine Kd.R_append (Kd.int .i64) (w0 := w) w.heap.size rfl (.tmp 38) (.tmp 40) 27 3 (.int .i64 0) 8 rfl Tryz.underlying27 info3 rfl (by decide) (by omega) u6 x6_2 x7_2 [.int .i64 x7_2] (fun _ => True) (fun _ => False) rfl rfl ?aP (fun _ hk => hk.elim) ?aF ?aO ?aB ?aS ?aL ?_; (case aP => exact rfl); (case aB => exact hB_); (case aF => exact (fun _ _ => trivial)); (case aO => exact (rr_ HO_6)); (case aS => exact (bF_ hB_)); (case aL => have := LMc28.out; omega); intro v612 w32 ho hb hg hat; rw [← Ny611.out] at ho; replace HO_3 := A_ (Kd.R_over' (rr_ HO_3) (Kd.R_typed (rr_ HO_6)) (by decide) hg); replace HO_4 := A_ (Kd.S_after (ok := (fun _ => True)) (sw_ (Kd.S_mono HO_4.out (fun _ hk => ⟨trivial, hk⟩))) hg hat); replace HB := A_ hb; have HO613 := A_ ho; clear HO_6; clear ho hb hg hat; have p614 : 0 ≤ (x7_2 : Int) := oB_ qe_; have q614 : x7_2 < (l0.length : Int) := oB_ qe_; obtain ⟨ad614, e614, hx614_0⟩ := Kd.at_int HR0.out x7_2 p614 q614; cases e614; replace hx614_0 := (HB.out.cell (World.block_lt_of_cell? w _ hx614_0)).trans hx614_0; replace p614 := eq_true p614; replace q614 := eq_true q614))
         (try simp only [← hl3_2])
         go_roundg k2
         case measure => have := HK1.out; have := HK2.out; omega
         case rel => exact ⟨(y610), (y611), (rd l0 x7_2), qc_, H', ⟨by have := HK1.out; have := HK2.out; omega⟩, ⟨by (try simp only [hl3_2]); (with_reducible repeat (first | apply rA_ | apply rB_ | apply rC_)); exact HO_3.out⟩, ⟨by (try simp only [hl3_2]); (with_reducible repeat (first | apply Kd.S_alloc | apply Kd.S_drewN | apply Kd.S_drew)); exact Kd.S_mono HO_4.out (fun _ hk => hk.2)⟩, ⟨by (try simp only [hl3_2]); (with_reducible repeat (first | apply rA_ | apply rB_ | apply rC_)); exact HO613.out⟩, ⟨hB_⟩⟩
    ·rw [if_neg c11] at H
     have c11b0 := oD_ c11
     clear c11
     obtain rfl := Option.some.inj H
     go_wp2
     go_ret
     exact ⟨_, qb_, (ss_ HO_4), hB_⟩
 ·replace c3 := Bool.eq_false_iff.mpr c3
  subst c3
  have H1 : (some ([] : List (List Int))) = some r := by rw [if_neg (show ¬ (false = true) by decide)] at H; exact H
  clear H
  have H := H1
  clear H1
  obtain rfl := Option.some.inj H
  go_enter Tryz.func89, Tryz.ntmps89
  go_wp2_with (first | ((with_reducible refine gA_ (f := 98) rfl ?_); refine gL_ (some 9) Tryz.func98 #[.slice A0 l0.length c0] rfl qa_ ?_; (with_reducible refine (Z61.calls k _ _ l0 false _ (cc_ HR0) HC0.out A2.out).mono ?_); rintro e w33 ⟨rfl, hb⟩; refine ⟨_, rfl, ?_⟩; replace HB := b1_ hb; clear hb))
  go_ret
  exact ⟨_, qb_, by first | exact Kd.S_nil _ _ _ _ _ | exact Kd.N_nil _ _ _ _ _ | exact Kd.V_nil _ _ _ _ _ | exact Kd.Q_nil _ _ _ _ _ | exact Kd.R_nil _ _ _ _ _, hB_⟩
end Go.Proofs.YtoijcallajegfaaGreat.A
end
section
namespace Go.Proofs.YtoijcallajegfaaGreat.A
open Go.RowKit Go.Proofs.YtoijcallajegfaaGreatW.PrintWords Go.Proofs.YtoijcallajegfaaGreatW.PrintLast Go.Proofs.YtoijcallajegfaaGreatW.PrintMore
attribute [local go_sem] max2_int min2_int max_two min_two max_three min_three max_four min_four
set_option linter.unusedVariables false
set_option linter.unusedSimpArgs false
mutual
def Z45.j0 : Nat → List Int → List Int → Bool → Option (List Int)
 | 0, _, _, _ => none
 | k + 1, x0, x1, x22 => if x22 = true then (some ([] : List Int)) else (if 0 ≤ (x0.length : Int) then (if ((x0.length : Int) : Int).toNat ≤ 35184372088832 then (Z45.l0 k x1 (List.replicate ((x0.length : Int) : Int).toNat 0) x0 (x0.length : Int) 0) else (none)) else (none))
def Z45.l0 : Nat → List Int → List Int → List Int → Int → Int → Option (List Int)
 | 0, _, _, _, _, _ => none
 | k + 1, x1, x5, x26, x27, x28 => if x28 < x27 then (if 0 ≤ x28 then (if x28 < (x26.length : Int) then (if 0 ≤ (rd x26 x28) then (if (rd x26 x28) < (x1.length : Int) then (if x28 < (x5.length : Int) then (Z45.l0 k x1 (x5.set (x28 : Int).toNat (rd x1 (rd x26 x28))) x26 x27 (wrap64 (x28 + 1))) else (none)) else (none)) else (none)) else (none)) else (none)) else (some x5)
end
def Z45.f (k : Nat) (l0 : List Int) (l1 : List Int) : Option (List Int) := (Z61.f k l0).bind fun t615 => (if t615 = true then ((Z61.f k l1).bind fun t616 => (if t616 = true then (Z45.j0 k l0 l1 ((l0.length : Int) != (l1.length : Int))) else (Z45.j0 k l0 l1 true))) else (Z45.j0 k l0 l1 true))
theorem Z45.mono_l : ∀ k, (∀ y0 y1 y2, LeO (Z45.j0 k y0 y1 y2) (Z45.j0 (k + 1) y0 y1 y2)) ∧ (∀ y0 y1 y2 y3 y4, LeO (Z45.l0 k y0 y1 y2 y3 y4) (Z45.l0 (k + 1) y0 y1 y2 y3 y4))
 | 0 => ⟨fun _ _ _ r h => by simp [Z45.j0] at h, fun _ _ _ _ _ r h => by simp [Z45.l0] at h⟩
 | k + 1 => by
  obtain ⟨ih0, ih1⟩ := Z45.mono_l k
  refine ⟨?_, ?_⟩
  ·intro y0 y1 y2
   unfold Z45.j0
   repeat' first|exact ih0 _ _ _|exact ih1 _ _ _ _ _|exact Z61.mono _ _|exact lo_|refine LeO.ite ?_ ?_|refine LeO.bind ?_ (fun _ => ?_)
  ·intro y0 y1 y2 y3 y4
   unfold Z45.l0
   repeat' first|exact ih0 _ _ _|exact ih1 _ _ _ _ _|exact Z61.mono _ _|exact lo_|refine LeO.ite ?_ ?_|refine LeO.bind ?_ (fun _ => ?_)
theorem Z45.mono : ∀ a0 a1 k, LeO (Z45.f k a0 a1) (Z45.f (k + 1) a0 a1) := by
 intro a0 a1 k
 obtain ⟨ih0, ih1⟩ := Z45.mono_l k
 unfold Z45.f
 repeat' first|exact ih0 _ _ _|exact ih1 _ _ _ _ _|exact Z61.mono _ _|exact lo_|refine LeO.ite ?_ ?_|refine LeO.bind ?_ (fun _ => ?_)
set_option maxHeartbeats 8000000 in
set_option maxRecDepth 100000 in
theorem Z45.calls (k : Nat) (A0 : Option Addr) (c0 : Nat) (l0 : List Int) (A1 : Option Addr) (c1 : Nat) (l1 : List Int) (r : List Int) (w : World) (hr0 : Kd.C (Kd.int .i64) w A0 l0.length l0) (hc0 : l0.length ≤ c0) (hr1 : Kd.C (Kd.int .i64) w A1 l1.length l1) (hc1 : l1.length ≤ c1) (h : Z45.f k l0 l1 = some r) :
  Calls Tryz.prog 109 #[.slice A0 l0.length c0, .slice A1 l1.length c1] w fun e w' => ∃ v0_ : Value, e = .returned (v0_) ∧ Kd.R (Kd.int .i64) 3 w' w.heap.size (fun _ => True) v0_ r ∧ Below w.heap.size w w' := by
 have HR0 := A_ hr0
 have HC0 := A_ hc0
 clear hr0 hc0
 have HR1 := A_ hr1
 have HC1 := A_ hc1
 clear hr1 hc1
 have HB := A_ (Below.refl w.heap.size w)
 have H := h
 unfold Z45.f at H
 clear h
 have HC3 := A_ H
 clear H
 go_enter Tryz.func109, Tryz.ntmps109
 go_upto_region 1 with (fail)
 go_cut [22] (fun v22 wc => ∃ (kq : Nat) (x22_2 : Bool), v22 = .bool x22_2 ∧ Aside0 (Z45.j0 kq l0 l1 x22_2 = some r) ∧ Aside0 (kq ≤ k) ∧ Aside0 (Below w.heap.size w wc))
 case first =>
  have H := HC3.out
  clear HC3
  obtain ⟨t615, A4, H⟩ := bi_ H
  by_cases c5 : t615 = true
  ·subst c5
   rw [if_pos rfl] at H
   obtain ⟨t616, A6, H⟩ := bi_ H
   by_cases c7 : t616 = true
   ·subst c7
    rw [if_pos rfl] at H
    have H' := A_ H
    clear H
    go_wp2_with (first | ((with_reducible refine gA_ (f := 98) rfl ?_); refine gL_ (some 9) Tryz.func98 #[.slice A0 l0.length c0] rfl qa_ ?_; (with_reducible refine (Z61.calls k _ _ l0 true _ (cb_ HR0) HC0.out A4.out).mono ?_); rintro e w8 ⟨rfl, hb⟩; refine ⟨_, rfl, ?_⟩; replace HB := b1_ hb; clear hb) | (go_at_call 98; (with_reducible refine (Z61.calls k _ _ l1 true _ (cb_ HR1) HC1.out A6.out).mono ?_); rintro e w9 ⟨rfl, hb⟩; replace HB := b1_ hb; clear hb))
    go_meet
    case rel => exact ⟨_, (((l0.length : Int) != (l1.length : Int))), qc_, H', ⟨qd_⟩, ⟨hB_⟩⟩
   ·replace c7 := Bool.eq_false_iff.mpr c7
    subst c7
    have H1 : (Z45.j0 k l0 l1 true) = some r := by rw [if_neg (show ¬ (false = true) by decide)] at H; exact H
    clear H
    have H := H1
    clear H1
    have H' := A_ H
    clear H
    go_wp2_with (first | ((with_reducible refine gA_ (f := 98) rfl ?_); refine gL_ (some 9) Tryz.func98 #[.slice A0 l0.length c0] rfl qa_ ?_; (with_reducible refine (Z61.calls k _ _ l0 true _ (cb_ HR0) HC0.out A4.out).mono ?_); rintro e w10 ⟨rfl, hb⟩; refine ⟨_, rfl, ?_⟩; replace HB := b1_ hb; clear hb) | (go_at_call 98; (with_reducible refine (Z61.calls k _ _ l1 false _ (cb_ HR1) HC1.out A6.out).mono ?_); rintro e w11 ⟨rfl, hb⟩; replace HB := b1_ hb; clear hb))
    go_meet
    case rel => exact ⟨_, (true), qc_, H', ⟨qd_⟩, ⟨hB_⟩⟩
  ·replace c5 := Bool.eq_false_iff.mpr c5
   subst c5
   have H1 : (Z45.j0 k l0 l1 true) = some r := by rw [if_neg (show ¬ (false = true) by decide)] at H; exact H
   clear H
   have H := H1
   clear H1
   have H' := A_ H
   clear H
   go_wp2_with (first | ((with_reducible refine gA_ (f := 98) rfl ?_); refine gL_ (some 9) Tryz.func98 #[.slice A0 l0.length c0] rfl qa_ ?_; (with_reducible refine (Z61.calls k _ _ l0 false _ (cb_ HR0) HC0.out A4.out).mono ?_); rintro e w12 ⟨rfl, hb⟩; refine ⟨_, rfl, ?_⟩; replace HB := b1_ hb; clear hb))
   go_meet
   case rel => exact ⟨_, (true), qc_, H', ⟨qd_⟩, ⟨hB_⟩⟩
 case rest =>
  clear HC3
  obtain ⟨kq, x22_2, rfl, HA, HJ2, HB⟩ := hcut
  cases kq with
  | zero => exact absurd HA.out (by simp [Z45.j0])
  | succ kj2 =>
   have H := HA.out
   clear HA
   simp only [Z45.j0] at H
   by_cases c13 : x22_2 = true
   ·subst c13
    rw [if_pos rfl] at H
    obtain rfl := Option.some.inj H
    go_wp2
    go_ret
    exact ⟨_, qb_, by first | exact Kd.R_nil _ _ _ _ _ | exact Kd.N_nil _ _ _ _ _ | exact Kd.V_nil _ _ _ _ _ | exact Kd.Q_nil _ _ _ _ _ | exact Kd.S_nil _ _ _ _ _, hB_⟩
   ·replace c13 := Bool.eq_false_iff.mpr c13
    subst c13
    have H1 : (if 0 ≤ (l0.length : Int) then (if ((l0.length : Int) : Int).toNat ≤ 35184372088832 then (Z45.l0 kj2 l1 (List.replicate ((l0.length : Int) : Int).toNat 0) l0 (l0.length : Int) 0) else (none)) else (none)) = some r := by rw [if_neg (show ¬ (false = true) by decide)] at H; exact H
    clear H
    have H := H1
    clear H1
    have c14 := cp_ H
    replace H := ca_ H
    have c14b0 := eq_true c14
    have c14b1 := oC_ c14
    clear c14
    have c15 := cp_ H
    replace H := ca_ H
    have c15b0 := eq_true c15
    have c15b1 := oC_ c15
    clear c15
    obtain ⟨y617, hy617⟩ : ∃ y_ : List Int, y_ = (List.replicate ((l0.length : Int) : Int).toNat 0) := ⟨_, rfl⟩
    replace H : (Z45.l0 kj2 l1 y617 l0 (l0.length : Int) 0) = some r := by first | (rw [hy617]; exact H) | exact H
    have Ny617 := A_ hy617
    clear hy617
    have H' := A_ H
    clear H
    go_wp2_with (first | ((with_reducible refine gB_ (N := 25) rfl ?_); (try (refine gate_guard (by rfl) ?_; dsimp only)); refine Kd.R_make (Kd.int .i64) _ 3 rfl (N := 25) rfl 27 _ _ rfl (l0.length : Int) rfl rfl Tryz.underlying27 (.int .i64 0) 8 info3 rfl (by decide) (by omega) 0 (ok := fun _ => True) (okp := fun _ => True) rfl (fun _ hk => hk) trivial (oB_ qe_) (Nat.le_trans (Nat.mul_le_mul_right _ (oB_ qe_ : (l0.length : Int).toNat ≤ 35184372088832)) (by omega)) (Below.refl _ _) (nA_ _) ?_; intro v618 w16 ho17 hb hg_ hnew_; clear hg_ hnew_; (first | rw [← Ny617.out] at ho17 | (simp only [Int.reduceToNat] at ho17; rw [← Ny617.out] at ho17)); have HO619 := rl_ w ho17; replace HB := b1_ hb; clear hb ho17))
    go_loopg [28] kj2 (fun kq v28 w' => ∃ (x5_2 : List Int) (x28_2 : Int), v28 = .int .i64 x28_2 ∧ Aside0 (Z45.l0 kq l1 x5_2 l0 (l0.length : Int) x28_2 = some r) ∧ Aside0 (kq ≤ kj2) ∧ Aside0 (Kd.R (Kd.int .i64) 3 w' w.heap.size (fun _ => True) v618 x5_2) ∧ Aside0 (Below w.heap.size w w'))
    case atStart => exact ⟨(y617), (0), qc_, H', ⟨nA_ _⟩, ⟨(rr_ HO619)⟩, ⟨hB_⟩⟩
    case round =>
     clear H'
     obtain ⟨x5_2, x28_2, rfl, HA, HK2, HO_5, HB⟩ := hrel
     cases gk with
     | zero => exact absurd HA.out (by simp [Z45.l0])
     | succ k2 =>
      have H := HA.out
      clear HA
      simp only [Z45.l0] at H
      by_cases c18 : x28_2 < (l0.length : Int)
      ·rw [if_pos c18] at H
       have c18b0 := oC_ c18
       clear c18
       have c19 := cp_ H
       replace H := ca_ H
       have c19b0 := oC_ c19
       clear c19
       have c20 := cp_ H
       replace H := ca_ H
       have c20b0 := oC_ c20
       clear c20
       have c21 := cp_ H
       replace H := ca_ H
       have c21b0 := oC_ c21
       clear c21
       have c22 := cp_ H
       replace H := ca_ H
       have c22b0 := oC_ c22
       clear c22
       have c23 := cp_ H
       replace H := ca_ H
       have c23b0 := oC_ c23
       clear c23
       obtain ⟨y622, hy622⟩ : ∃ y_ : List Int, y_ = (x5_2.set (x28_2 : Int).toNat (rd l1 (rd l0 x28_2))) := ⟨_, rfl⟩
       replace H : (Z45.l0 k2 l1 y622 l0 (l0.length : Int) (wrap64 (x28_2 + 1))) = some r := by first | (rw [hy622]; exact H) | exact H
       have Ny622 := A_ hy622
       clear hy622
       have H' := A_ H
       clear H
       have p620 : 0 ≤ (x28_2 : Int) := oB_ qe_
       have q620 : x28_2 < (l0.length : Int) := oB_ qe_
       obtain ⟨ad620, e620, hx620_0⟩ := Kd.at_int HR0.out x28_2 p620 q620
       cases e620
       replace hx620_0 := (HB.out.cell (World.block_lt_of_cell? w _ hx620_0)).trans hx620_0
       replace p620 := eq_true p620
       replace q620 := eq_true q620
       have p621 : 0 ≤ ((rd l0 x28_2) : Int) := oB_ qe_
       have q621 : (rd l0 x28_2) < (l1.length : Int) := oB_ qe_
       obtain ⟨ad621, e621, hx621_0⟩ := Kd.at_int HR1.out (rd l0 x28_2) p621 q621
       cases e621
       replace hx621_0 := (HB.out.cell (World.block_lt_of_cell? w _ hx621_0)).trans hx621_0
       replace p621 := eq_true p621
       replace q621 := eq_true q621
       have p24 : 0 ≤ (x28_2 : Int) := oB_ qe_
       have q24 : (x28_2 : Int) < ((x5_2.length : Int) : Int) := oB_ qe_
       obtain ⟨go24, co24, eo24, gb24, gl24, cl24, HG24⟩ := Kd.R_form HO_5.out (by omega)
       (first | cases eo24 | (injection eo24 with ea_ en_ ec_; (first | subst ea_ | (injection ea_ with ea_; subst ea_)); subst ec_; clear en_))
       have GB24 := A_ gb24
       have GG24 := A_ HG24
       clear gb24 gl24 HG24
       obtain ⟨hx24_0, hf24_0⟩ := Kd.R_celln 0 HO_5.out (x28_2 : Int) p24 q24
       replace p24 := eq_true p24
       replace q24 := eq_true q24
       have HP25 := Kd.R_putg HO_5.out (x28_2 : Int) (rd l1 (rd l0 x28_2))
       go_wp2_with (first | ((with_reducible refine gate_store (t := 3) (p := 39) rfl ?_); refine store_event (t := 3) (p := 39) (v := ?vo_w26) (w1 := (wr.setCell ⟨go24, (x28_2 : Int).toNat, none⟩ (.int .i64 (rd l1 (rd l0 x28_2))))) ?hg ?ho ?hn ?hr ?_; (case ho => rfl); (case hg => rfl); (case hn => rfl); (case hr => first | (go_simp; done) | (go_simp; rfl)); intro w26 hw; have hg : wr.grownBy w26 (some go24) := (by rw [hw]; exact HP25.2); have hp_ : Kd.R (Kd.int .i64) 3 w26 w.heap.size (fun _ => True) (.slice (some ⟨go24, 0, none⟩) x5_2.length co24) y622 := (by rw [hw, Ny622.out]; exact HP25.1); clear HP25; replace HO_5 := A_ (hp_); replace HB := A_ ((by rw [hw]; exact bD_ (HB.out) GB24.out : Below w.heap.size w w26)); clear hg hw hp_))
       go_roundg k2
       case measure => have := HJ2.out; have := HK2.out; omega
       case rel => exact ⟨(y622), (wrap64 (x28_2 + 1)), qc_, H', ⟨by have := HJ2.out; have := HK2.out; omega⟩, ⟨(rr_ HO_5)⟩, ⟨hB_⟩⟩
      ·rw [if_neg c18] at H
       have c18b0 := oD_ c18
       clear c18
       obtain rfl := Option.some.inj H
       go_wp2
       go_ret
       exact ⟨_, qb_, (rr_ HO_5), hB_⟩
end Go.Proofs.YtoijcallajegfaaGreat.A
end
section
namespace Go.Proofs.YtoijcallajegfaaGreat.A
open Go.RowKit Go.Proofs.YtoijcallajegfaaGreatW.PrintWords Go.Proofs.YtoijcallajegfaaGreatW.PrintLast Go.Proofs.YtoijcallajegfaaGreatW.PrintMore
attribute [local go_sem] max2_int min2_int max_two min_two max_three min_three max_four min_four
set_option linter.unusedVariables false
set_option linter.unusedSimpArgs false
def Z42.f (k : Nat) (l0_0 : List Int) (l0_1 : List Int) : Option (List Int) := (Z29.f k l0_0 l0_1).bind fun t630 => (if t630 = true then ((Z45.f k l0_0 l0_1).bind fun t631 => ((Z16.f k l0_0).bind fun t634 => ((Z16.f k l0_1).bind fun t637 => ((Z45.f k t634 t637).bind fun t640 => ((Z45.f k t631 t640).bind fun t643 => (some t643)))))) else (some ([] : List Int)))
theorem Z42.mono : ∀ a0 a1 k, LeO (Z42.f k a0 a1) (Z42.f (k + 1) a0 a1) := by
 intro a0 a1 k
 unfold Z42.f
 repeat' first|exact Z16.mono _ _|exact Z29.mono _ _ _|exact Z45.mono _ _ _|exact lo_|refine LeO.ite ?_ ?_|refine LeO.bind ?_ (fun _ => ?_)
def Z42.T3 : Bool × List (List Nat × List Nat) := (true, [([], []), ([0], [0]), ([], []), ([2], [2]), ([1, 3], [1, 3]), ([], []), ([5], [5]), ([6, 4], [6]), ([], []), ([8], [8]), ([9, 7], [9]), ([7, 10, 10], [7, 10]), ([4, 11, 11], [4, 11]), ([12, 12, 0, 1, 2, 3, 4, 5, 6, 7, 8, 9, 10, 11, 12], [12])])
def Z42.B3 : List Nat := [0, 1, 0, 4, 15, 0, 32, 127, 0, 256, 1023, 2047, 4095, 8191]
theorem Z42.tab3 : rtab .any (opsOf Tryz.f90 3) = Z42.T3 := by kernel_rfl
theorem Z42.bits3 : waitsOk Z42.T3.2 Z42.B3 = true := by kernel_rfl
set_option maxHeartbeats 8000000 in
set_option maxRecDepth 100000 in
theorem Z42.calls (k : Nat) (A0_0 : Option Addr) (c0_0 : Nat) (l0_0 : List Int) (A0_1 : Option Addr) (c0_1 : Nat) (l0_1 : List Int) (r : List Int) (w : World) (hr0_0 : Kd.C (Kd.int .i64) w A0_0 l0_0.length l0_0) (hc0_0 : l0_0.length ≤ c0_0) (hr0_1 : Kd.C (Kd.int .i64) w A0_1 l0_1.length l0_1) (hc0_1 : l0_1.length ≤ c0_1) (h : Z42.f k l0_0 l0_1 = some r) :
  Calls Tryz.prog 90 #[.agg #[.slice A0_0 l0_0.length c0_0, .slice A0_1 l0_1.length c0_1]] w fun e w' => ∃ v0_ : Value, e = .returned (v0_) ∧ Kd.R (Kd.int .i64) 3 w' w.heap.size (fun _ => True) v0_ r ∧ Below w.heap.size w w' := by
 have hu38 := Tryz.underlying38
 have HR0_0 := A_ hr0_0
 have HC0_0 := A_ hc0_0
 clear hr0_0 hc0_0
 have HR0_1 := A_ hr0_1
 have HC0_1 := A_ hc0_1
 clear hr0_1 hc0_1
 have HB := A_ (Below.refl w.heap.size w)
 have H := h
 unfold Z42.f at H
 clear h
 obtain ⟨t630, A2, H⟩ := bi_ H
 by_cases c3 : t630 = true
 ·subst c3
  rw [if_pos rfl] at H
  obtain ⟨t631, A4, H⟩ := bi_ H
  obtain ⟨t634, A5, H⟩ := bi_ H
  obtain ⟨t637, A6, H⟩ := bi_ H
  obtain ⟨t640, A7, H⟩ := bi_ H
  obtain ⟨t643, A8, H⟩ := bi_ H
  obtain rfl := Option.some.inj H
  go_enter Tryz.func90, Tryz.ntmps90
  try go_wp2_with (first | ((with_reducible refine gB_ (N := 1) rfl ?_); refine bx_ 1 #[.slice A0_0 l0_0.length c0_0, .slice A0_1 l0_1.length c0_1] 38 ?_; intro gb629 hg w9 hbox hb; have BK629 := A_ hbox; have GW629 := gw_ w hg; have GE629 := GW629; replace HB := b1_ hb; clear hb hbox hg; obtain ⟨hcz10_0, hcz10_1, hfz10_0, hfz10_1⟩ := c2_ BK629) | ((with_reducible refine gA_ (f := 88) rfl ?_); refine gL_ (some 4) Tryz.func88 #[.agg #[.slice A0_0 l0_0.length c0_0, .slice A0_1 l0_1.length c0_1]] rfl qa_ ?_; (with_reducible refine (Z29.calls k _ _ l0_0 _ _ l0_1 true _ (cb_ HR0_0) HC0_0.out (cb_ HR0_1) HC0_1.out A2.out).mono ?_); rintro e w11 ⟨rfl, hb⟩; refine ⟨_, rfl, ?_⟩; replace BK629 := bb_ BK629 hb; replace HB := b1_ hb; clear hb))
  replace BK629 := A_ (kB_ BK629.out)
  replace HB := A_ (bC_ HB.out)
  refine start_ (n := 14) (S := fun w' => w'.cell? ⟨gb629, 0, none⟩ = some (.slice A0_0 l0_0.length c0_0) ∧ w'.cell? ⟨gb629, 1, none⟩ = some (.slice A0_1 l0_1.length c0_1)) (ds := []) (bl_ 14 0) (by kernel_rfl) rfl (by kernel_rfl) ⟨cz0_ BK629, cz1_ BK629⟩ (fun hHeld => ?_); refine with_tabW Z42.tab3 Z42.bits3 (fun HT_ HW_ => ?_)
  generalize w11.drew = w12 at BK629 HB hHeld ⊢
  refine pu_ 0 (some 6) (bl_ 14 1) HT_ ?_
  refine pu_ 2 (some 8) (bl_ 14 5) HT_ ?_
  refine pu_ 5 (some 11) (bl_ 14 37) HT_ ?_
  refine pu_ 8 (some 14) (bl_ 14 293) HT_ ?_
  refine ta_ 1 (some 7) (bl_ 14 295) HT_ HW_ hHeld ?_
  refine ta_ 3 (some 9) (bl_ 14 303) HT_ HW_ hHeld ?_
  refine ta_ 6 (some 12) (bl_ 14 367) HT_ HW_ hHeld ?_
  refine ta_ 9 (some 15) (bl_ 14 879) HT_ HW_ hHeld ?_
  refine on_ 4 (some 10) (bl_ 14 895) HT_ (fun K hK => ?_)
  refine gO_ Tryz.func109 #[.slice A0_0 l0_0.length c0_0, .slice A0_1 l0_1.length c0_1] (by rfl) rfl rfl qa_ ?_
  with_reducible refine (Z45.calls k _ _ l0_0 _ _ l0_1 t631 _ (cb_ HR0_0) HC0_0.out (cb_ HR0_1) HC0_1.out A4.out).mono ?_
  rintro e w13 ⟨v632, rfl, ho0, hb⟩
  refine ⟨_, rfl, ?_⟩
  have HO633 := rl_ w ho0
  replace BK629 := bb_ BK629 hb
  replace HB := b1_ hb
  clear hb ho0
  refine hK.out _ _ ⟨cz0_ BK629, cz1_ BK629⟩ (fun hHeld => ?_)
  clear hK K
  refine no_ (some 10) ?_
  refine on_ 7 (some 13) (bl_ 14 1023) HT_ (fun K hK => ?_)
  refine gO_ Tryz.func110 #[.slice A0_0 l0_0.length c0_0] (by rfl) rfl rfl qa_ ?_
  with_reducible refine (Z16.calls k _ _ l0_0 t634 _ (cb_ HR0_0) HC0_0.out A5.out).mono ?_
  rintro e w14 ⟨v635, rfl, ho0, hb⟩
  refine ⟨_, rfl, ?_⟩
  have HO636 := A_ (rE_ (Kd.R_new' ho0 (Kd.R_lt (rr_ HO633))) (bF_ hB_))
  replace HO633 := A_ (Kd.R_elder' (rr_ HO633) (Kd.R_base ho0) hb)
  replace BK629 := bb_ BK629 hb
  replace HB := b1_ hb
  clear hb ho0
  refine hK.out _ _ ⟨cz0_ BK629, cz1_ BK629⟩ (fun hHeld => ?_)
  clear hK K
  refine no_ (some 13) ?_
  refine on_ 10 (some 16) (bl_ 14 2047) HT_ (fun K hK => ?_)
  refine gO_ Tryz.func110 #[.slice A0_1 l0_1.length c0_1] (by rfl) rfl rfl qa_ ?_
  with_reducible refine (Z16.calls k _ _ l0_1 t637 _ (cb_ HR0_1) HC0_1.out A6.out).mono ?_
  rintro e w15 ⟨v638, rfl, ho0, hb⟩
  refine ⟨_, rfl, ?_⟩
  have HO639 := A_ (rE_ (Kd.R_new' (Kd.R_new' ho0 (Kd.R_lt (rr_ HO633))) (Kd.R_lt (rr_ HO636))) (bF_ hB_))
  replace HO633 := A_ (Kd.R_elder' (rr_ HO633) (Kd.R_base ho0) hb)
  replace HO636 := A_ (Kd.R_elder' (rr_ HO636) (Kd.R_base ho0) hb)
  replace BK629 := bb_ BK629 hb
  replace HB := b1_ hb
  clear hb ho0
  obtain ⟨Ao16, co16, eo16⟩ := Kd.R_slice HO636.out
  (first | subst eo16 | (injection eo16 with f1_ f2_ f3_; have f4_ := f1_.symm; have f5_ := f3_.symm; clear f1_ f2_ f3_; subst f4_; subst f5_))
  obtain ⟨Ao17, co17, eo17⟩ := Kd.R_slice HO639.out
  (first | subst eo17 | (injection eo17 with f1_ f2_ f3_; have f4_ := f1_.symm; have f5_ := f3_.symm; clear f1_ f2_ f3_; subst f4_; subst f5_))
  refine hK.out _ _ ⟨cz0_ BK629, cz1_ BK629⟩ (fun hHeld => ?_)
  clear hK K
  refine no_ (some 16) ?_
  refine on_ 11 (some 17) (bl_ 14 4095) HT_ (fun K hK => ?_)
  refine gO_ Tryz.func109 #[.slice Ao16 t634.length co16, .slice Ao17 t637.length co17] (by rfl) rfl rfl qa_ ?_
  with_reducible refine (Z45.calls k _ _ t634 _ _ t637 t640 _ (cr_ HO636) ((Kd.R_reads' HO636.out).2.1) (cr_ HO639) ((Kd.R_reads' HO639.out).2.1) A7.out).mono ?_
  rintro e w18 ⟨v641, rfl, ho0, hb⟩
  refine ⟨_, rfl, ?_⟩
  have HO642 := A_ (rE_ (Kd.R_new' (Kd.R_new' (Kd.R_new' ho0 (Kd.R_lt (rr_ HO633))) (Kd.R_lt (rr_ HO636))) (Kd.R_lt (rr_ HO639))) (bF_ hB_))
  replace HO633 := A_ (Kd.R_elder' (rr_ HO633) (Kd.R_base ho0) hb)
  replace HO636 := A_ (Kd.R_elder' (rr_ HO636) (Kd.R_base ho0) hb)
  replace HO639 := A_ (Kd.R_elder' (rr_ HO639) (Kd.R_base ho0) hb)
  replace BK629 := bb_ BK629 hb
  replace HB := b1_ hb
  clear hb ho0
  obtain ⟨Ao19, co19, eo19⟩ := Kd.R_slice HO633.out
  (first | subst eo19 | (injection eo19 with f1_ f2_ f3_; have f4_ := f1_.symm; have f5_ := f3_.symm; clear f1_ f2_ f3_; subst f4_; subst f5_))
  obtain ⟨Ao20, co20, eo20⟩ := Kd.R_slice HO642.out
  (first | subst eo20 | (injection eo20 with f1_ f2_ f3_; have f4_ := f1_.symm; have f5_ := f3_.symm; clear f1_ f2_ f3_; subst f4_; subst f5_))
  refine hK.out _ _ ⟨cz0_ BK629, cz1_ BK629⟩ (fun hHeld => ?_)
  clear hK K
  refine no_ (some 17) ?_
  refine on_ 12 (some 18) (bl_ 14 8191) HT_ (fun K hK => ?_)
  refine gO_ Tryz.func109 #[.slice Ao19 t631.length co19, .slice Ao20 t640.length co20] (by rfl) rfl rfl qa_ ?_
  with_reducible refine (Z45.calls k _ _ t631 _ _ t640 t643 _ (cr_ HO633) ((Kd.R_reads' HO633.out).2.1) (cr_ HO642) ((Kd.R_reads' HO642.out).2.1) A8.out).mono ?_
  rintro e w21 ⟨v644, rfl, ho0, hb⟩
  refine ⟨_, rfl, ?_⟩
  have HO645 := A_ (rE_ (Kd.R_new' (Kd.R_new' (Kd.R_new' (Kd.R_new' ho0 (Kd.R_lt (rr_ HO633))) (Kd.R_lt (rr_ HO636))) (Kd.R_lt (rr_ HO639))) (Kd.R_lt (rr_ HO642))) (bF_ hB_))
  replace HO633 := A_ (Kd.R_elder' (rr_ HO633) (Kd.R_base ho0) hb)
  replace HO636 := A_ (Kd.R_elder' (rr_ HO636) (Kd.R_base ho0) hb)
  replace HO639 := A_ (Kd.R_elder' (rr_ HO639) (Kd.R_base ho0) hb)
  replace HO642 := A_ (Kd.R_elder' (rr_ HO642) (Kd.R_base ho0) hb)
  replace BK629 := bb_ BK629 hb
  replace HB := b1_ hb
  clear hb ho0
  refine hK.out _ _ ⟨cz0_ BK629, cz1_ BK629⟩ (fun hHeld => ?_)
  clear hK K
  refine no_ (some 18) ?_
  refine pu_ 13 (some 2) (bl_ 14 16383) HT_ ?_
  refine done_ (done_of HT_.out (by kernel_rfl)) ?_
  try go_wp2
  go_ret
  exact ⟨_, qb_, (rw_ (Kd.R_mono HO645.out (fun _ hk => trivial))), hB_⟩
 ·replace c3 := Bool.eq_false_iff.mpr c3
  subst c3
  have H1 : (some ([] : List Int)) = some r := by rw [if_neg (show ¬ (false = true) by decide)] at H; exact H
  clear H
  have H := H1
  clear H1
  obtain rfl := Option.some.inj H
  go_enter Tryz.func90, Tryz.ntmps90
  go_wp2_with (first | ((with_reducible refine gB_ (N := 1) rfl ?_); refine bx_ 1 #[.slice A0_0 l0_0.length c0_0, .slice A0_1 l0_1.length c0_1] 38 ?_; intro gb629 hg w22 hbox hb; have BK629 := A_ hbox; have GW629 := gw_ w hg; have GE629 := GW629; replace HB := b1_ hb; clear hb hbox hg; obtain ⟨hcz23_0, hcz23_1, hfz23_0, hfz23_1⟩ := c2_ BK629) | ((with_reducible refine gA_ (f := 88) rfl ?_); refine gL_ (some 4) Tryz.func88 #[.agg #[.slice A0_0 l0_0.length c0_0, .slice A0_1 l0_1.length c0_1]] rfl qa_ ?_; (with_reducible refine (Z29.calls k _ _ l0_0 _ _ l0_1 false _ (cb_ HR0_0) HC0_0.out (cb_ HR0_1) HC0_1.out A2.out).mono ?_); rintro e w24 ⟨rfl, hb⟩; refine ⟨_, rfl, ?_⟩; replace BK629 := bb_ BK629 hb; replace HB := b1_ hb; clear hb))
  go_ret
  exact ⟨_, qb_, by first | exact Kd.R_nil _ _ _ _ _ | exact Kd.N_nil _ _ _ _ _ | exact Kd.V_nil _ _ _ _ _ | exact Kd.Q_nil _ _ _ _ _ | exact Kd.S_nil _ _ _ _ _, hB_⟩
def Z26.f (k : Nat) (l0_0 : List Int) (l0_1 : List Int) : Option ((List (List Int))) := (Z29.f k l0_0 l0_1).bind fun t647 => (if t647 = true then ((Z42.f k l0_0 l0_1).bind fun t648 => ((Z43.f k t648).bind fun t651 => (some t651))) else (some ([] : List (List Int))))
theorem Z26.mono : ∀ a0 a1 k, LeO (Z26.f k a0 a1) (Z26.f (k + 1) a0 a1) := by
 intro a0 a1 k
 unfold Z26.f
 repeat' first|exact Z42.mono _ _ _|exact Z43.mono _ _|exact Z29.mono _ _ _|exact lo_|refine LeO.ite ?_ ?_|refine LeO.bind ?_ (fun _ => ?_)
set_option maxHeartbeats 8000000 in
set_option maxRecDepth 100000 in
theorem Z26.calls (k : Nat) (A0_0 : Option Addr) (c0_0 : Nat) (l0_0 : List Int) (A0_1 : Option Addr) (c0_1 : Nat) (l0_1 : List Int) (r : List (List Int)) (w : World) (hr0_0 : Kd.C (Kd.int .i64) w A0_0 l0_0.length l0_0) (hc0_0 : l0_0.length ≤ c0_0) (hr0_1 : Kd.C (Kd.int .i64) w A0_1 l0_1.length l0_1) (hc0_1 : l0_1.length ≤ c0_1) (h : Z26.f k l0_0 l0_1 = some r) :
  Calls Tryz.prog 61 #[.agg #[.slice A0_0 l0_0.length c0_0, .slice A0_1 l0_1.length c0_1]] w fun e w' => ∃ v0_ : Value, e = .returned (v0_) ∧ Kd.S (Kd.slice 3 (Kd.int .i64)) 27 w' w.heap.size (fun _ => True) v0_ r ∧ Below w.heap.size w w' := by
 have hu38 := Tryz.underlying38
 have HR0_0 := A_ hr0_0
 have HC0_0 := A_ hc0_0
 clear hr0_0 hc0_0
 have HR0_1 := A_ hr0_1
 have HC0_1 := A_ hc0_1
 clear hr0_1 hc0_1
 have HB := A_ (Below.refl w.heap.size w)
 have H := h
 unfold Z26.f at H
 clear h
 obtain ⟨t647, A2, H⟩ := bi_ H
 by_cases c3 : t647 = true
 ·subst c3
  rw [if_pos rfl] at H
  obtain ⟨t648, A4, H⟩ := bi_ H
  obtain ⟨t651, A5, H⟩ := bi_ H
  obtain rfl := Option.some.inj H
  go_enter Tryz.func61, Tryz.ntmps61
  go_wp2_with (first | ((with_reducible refine gB_ (N := 1) rfl ?_); refine bx_ 1 #[.slice A0_0 l0_0.length c0_0, .slice A0_1 l0_1.length c0_1] 38 ?_; intro gb646 hg w6 hbox hb; have BK646 := A_ hbox; have GW646 := gw_ w hg; have GE646 := GW646; replace HB := b1_ hb; clear hb hbox hg; obtain ⟨hcz7_0, hcz7_1, hfz7_0, hfz7_1⟩ := c2_ BK646) | ((with_reducible refine gA_ (f := 88) rfl ?_); refine gL_ (some 4) Tryz.func88 #[.agg #[.slice A0_0 l0_0.length c0_0, .slice A0_1 l0_1.length c0_1]] rfl qa_ ?_; (with_reducible refine (Z29.calls k _ _ l0_0 _ _ l0_1 true _ (cb_ HR0_0) HC0_0.out (cb_ HR0_1) HC0_1.out A2.out).mono ?_); rintro e w8 ⟨rfl, hb⟩; refine ⟨_, rfl, ?_⟩; replace BK646 := bb_ BK646 hb; replace HB := b1_ hb; clear hb; obtain ⟨hcz9_0, hcz9_1, hfz9_0, hfz9_1⟩ := c2_ BK646) | ((with_reducible refine gA_ (f := 90) rfl ?_); refine gL_ (some 7) Tryz.func90 #[.agg #[.slice A0_0 l0_0.length c0_0, .slice A0_1 l0_1.length c0_1]] rfl qa_ ?_; (with_reducible refine (Z42.calls k _ _ l0_0 _ _ l0_1 t648 _ (cb_ HR0_0) HC0_0.out (cb_ HR0_1) HC0_1.out A4.out).mono ?_); rintro e w10 ⟨v649, rfl, ho0, hb⟩; refine ⟨_, rfl, ?_⟩; have HO650 := rl_ w ho0; replace BK646 := bb_ BK646 hb; replace HB := b1_ hb; clear hb ho0; obtain ⟨Ao11, co11, eo11⟩ := Kd.R_slice HO650.out; subst eo11) | ((with_reducible refine gA_ (f := 89) rfl ?_); refine gL_ (some 8) Tryz.func89 #[.slice Ao11 t648.length co11] rfl qa_ ?_; (with_reducible refine (Z43.calls k _ _ t648 t651 _ (cr_ HO650) ((Kd.R_reads' HO650.out).2.1) A5.out).mono ?_); rintro e w12 ⟨v652, rfl, ho0, hb⟩; refine ⟨_, rfl, ?_⟩; have HO653 := A_ (Kd.S_lower (Kd.S_new' ho0 (Kd.R_lt (rr_ HO650))) (bF_ hB_)); replace HO650 := rb_ HO650 hb; replace BK646 := bb_ BK646 hb; replace HB := b1_ hb; clear hb ho0))
  go_ret
  exact ⟨_, qb_, (sw_ (Kd.S_mono HO653.out (fun _ hk => trivial))), hB_⟩
 ·replace c3 := Bool.eq_false_iff.mpr c3
  subst c3
  have H1 : (some ([] : List (List Int))) = some r := by rw [if_neg (show ¬ (false = true) by decide)] at H; exact H
  clear H
  have H := H1
  clear H1
  obtain rfl := Option.some.inj H
  go_enter Tryz.func61, Tryz.ntmps61
  go_wp2_with (first | ((with_reducible refine gB_ (N := 1) rfl ?_); refine bx_ 1 #[.slice A0_0 l0_0.length c0_0, .slice A0_1 l0_1.length c0_1] 38 ?_; intro gb646 hg w13 hbox hb; have BK646 := A_ hbox; have GW646 := gw_ w hg; have GE646 := GW646; replace HB := b1_ hb; clear hb hbox hg; obtain ⟨hcz14_0, hcz14_1, hfz14_0, hfz14_1⟩ := c2_ BK646) | ((with_reducible refine gA_ (f := 88) rfl ?_); refine gL_ (some 4) Tryz.func88 #[.agg #[.slice A0_0 l0_0.length c0_0, .slice A0_1 l0_1.length c0_1]] rfl qa_ ?_; (with_reducible refine (Z29.calls k _ _ l0_0 _ _ l0_1 false _ (cb_ HR0_0) HC0_0.out (cb_ HR0_1) HC0_1.out A2.out).mono ?_); rintro e w15 ⟨rfl, hb⟩; refine ⟨_, rfl, ?_⟩; replace BK646 := bb_ BK646 hb; replace HB := b1_ hb; clear hb))
  go_ret
  exact ⟨_, qb_, by first | exact Kd.S_nil _ _ _ _ _ | exact Kd.N_nil _ _ _ _ _ | exact Kd.V_nil _ _ _ _ _ | exact Kd.Q_nil _ _ _ _ _ | exact Kd.R_nil _ _ _ _ _, hB_⟩
end Go.Proofs.YtoijcallajegfaaGreat.A
end
section
/- Plain mathematics: lists that fall, and the lengths of cycles. No conditions. -/
namespace Go.Proofs.YtoijcallajegfaaGreat.M
set_option linter.unusedVariables false
set_option linter.unusedSimpArgs false
def insD (x : Nat) : List Nat → List Nat
 | [] => [x]
 | y :: l => if y < x then x :: y :: l else y :: insD x l
def sortD (l : List Nat) : List Nat := l.foldl (fun a x => insD x a) []
def Fall (l : List Nat) : Prop := l.Pairwise (fun a b => b ≤ a)
theorem insD_perm (x : Nat) (l : List Nat) : (insD x l).Perm (x :: l) := by
 induction l with
 | nil => exact List.Perm.refl _
 | cons y l ih =>
  unfold insD
  split
  ·exact List.Perm.refl _
  ·exact (List.Perm.cons y ih).trans (List.Perm.swap x y l)
theorem insD_fall {x : Nat} {l : List Nat} (h : Fall l) : Fall (insD x l) := by
 induction l with
 | nil => exact List.pairwise_singleton _ _
 | cons y l ih =>
  obtain ⟨h1, h2⟩ := List.pairwise_cons.mp h
  unfold insD
  split
  ·rename_i hy
   refine List.pairwise_cons.mpr ⟨fun b hb => ?_, h⟩
   rcases List.mem_cons.mp hb with rfl | hb
   ·omega
   ·have := h1 b hb
    omega
  ·rename_i hy
   refine List.pairwise_cons.mpr ⟨fun b hb => ?_, ih h2⟩
   rcases List.mem_cons.mp ((insD_perm x l).mem_iff.mp hb) with rfl | hb
   ·omega
   ·exact h1 b hb
theorem sortD_aux : ∀ (l a : List Nat), Fall a → Fall (l.foldl (fun a x => insD x a) a) ∧ (l.foldl (fun a x => insD x a) a).Perm (a ++ l) := by
 intro l
 induction l with
 | nil => intro a h; exact ⟨h, by simp⟩
 | cons x l ih =>
  intro a h
  obtain ⟨h1, h2⟩ := ih (insD x a) (insD_fall h)
  refine ⟨h1, h2.trans ?_⟩
  exact ((insD_perm x a).append_right l).trans (List.perm_middle (l₁ := a) (a := x) (l₂ := l)).symm
theorem sortD_fall (l : List Nat) : Fall (sortD l) := (sortD_aux l [] List.Pairwise.nil).1
theorem sortD_perm (l : List Nat) : (sortD l).Perm l := (sortD_aux l [] List.Pairwise.nil).2
theorem fall_uniq : ∀ {a b : List Nat}, Fall a → Fall b → a.Perm b → a = b := by
 intro a
 induction a with
 | nil => intro b _ _ h; exact (List.nil_perm.mp h).symm
 | cons x a ih =>
  intro b ha hb h
  cases b with
  | nil => exact absurd (List.perm_nil.mp h) (by simp)
  | cons y b =>
   obtain ⟨a1, a2⟩ := List.pairwise_cons.mp ha
   obtain ⟨b1, b2⟩ := List.pairwise_cons.mp hb
   have e : x = y := by
    have h1 : x ∈ y :: b := h.mem_iff.mp (by simp)
    have h2 : y ∈ x :: a := h.mem_iff.mpr (by simp)
    rcases List.mem_cons.mp h1 with e | h1
    ·exact e
    ·rcases List.mem_cons.mp h2 with e | h2
     ·exact e.symm
     ·have := b1 x h1
      have := a1 y h2
      omega
   subst e
   rw [ih a2 b2 (List.Perm.cons_inv h)]
theorem sortD_len (l : List Nat) : (sortD l).length = l.length := (sortD_perm l).length_eq
theorem insD_len (x : Nat) (l : List Nat) : (insD x l).length = l.length + 1 := by rw [(insD_perm x l).length_eq]; rfl
theorem insD_at {x : Nat} : ∀ {a : List Nat}, Fall a → ∀ k, k ≤ a.length → (∀ y ∈ a.drop k, y < x) → (k = 0 ∨ x ≤ g a (k - 1)) → insD x a = a.take k ++ x :: a.drop k := by
 intro a
 induction a with
 | nil => intro _ k hk _ _; simp [insD]
 | cons y a ih =>
  intro h k hk h1 h2
  obtain ⟨a1, a2⟩ := List.pairwise_cons.mp h
  cases k with
  | zero =>
   have : y < x := h1 y (by simp)
   simp [insD, this]
  | succ k =>
   have hy : x ≤ y := by
    rcases h2 with h2 | h2
    ·omega
    ·cases k with
     | zero => exact h2
     | succ k =>
      have e : g (y :: a) (k + 1 + 1 - 1) = g a k := rfl
      rw [e] at h2
      have hk' : k < a.length := by simp at hk; omega
      have := a1 (g a k) (g_mem hk')
      omega
   have hny : ¬ y < x := by omega
   simp only [insD, hny, if_false, List.take_succ_cons, List.drop_succ_cons, List.cons_append]
   rw [ih a2 k (by simpa using hk) (fun z hz => h1 z (by simpa using hz)) ?_]
   rcases h2 with h2 | h2
   ·omega
   ·cases k with
    | zero => exact .inl rfl
    | succ k => exact .inr h2
end Go.Proofs.YtoijcallajegfaaGreat.M
end
section
namespace Go.Proofs.YtoijcallajegfaaGreat.A
open Go.RowKit Go.Proofs.YtoijcallajegfaaGreatW.PrintWords Go.Proofs.YtoijcallajegfaaGreatW.PrintLast Go.Proofs.YtoijcallajegfaaGreatW.PrintMore
attribute [local go_sem] max2_int min2_int max_two min_two max_three min_three max_four min_four
set_option linter.unusedVariables false
set_option linter.unusedSimpArgs false
def Z0.f (l0 : List Int) : Option (List Int) := if (∀ x ∈ l0, 0 ≤ x ∧ x ≤ 4611686018427387904) ∧ l0.length < 4611686018427387904 then some ((M.sortD (l0.map Int.toNat)).map fun (n : Nat) => (n : Int)) else none
theorem Z0.closure (x y : Int) (W : World) : Calls Tryz.prog 63 #[.int .i64 x, .int .i64 y] W fun e w' => e = .returned (.int .i64 (wrap64 (y - x))) ∧ ∃ q os', w' = Go.Sort.grow (W.drewN q) os' := by
 go_enter Tryz.func63, Tryz.ntmps63
 go_wp2
 go_ret
 exact ⟨by first | rfl | (rw [i64_w]), 0, #[], by rw [Go.Sort.grow_empty]; rfl⟩
theorem Z0.ord : M.Ord3 (fun x : Int => 0 ≤ x ∧ x ≤ 4611686018427387904) (fun x y => wrap64 (y - x)) where
 irr x hx := by unfold wrap64; omega
 tr x y z hx hy hz h1 h2 := by unfold wrap64 at *; omega
 nt x y z hx hy hz h1 h2 := by unfold wrap64 at *; omega
set_option maxHeartbeats 8000000 in
set_option maxRecDepth 100000 in
theorem Z0.calls (P0_ : Nat → Prop) (u9000_ : Value) (l0 : List Int) (r : List Int) (w0 w : World) (hB : Below w0.heap.size w0 w) (ho0 : Kd.R (Kd.int .i64) 3 w w0.heap.size P0_ u9000_ l0) (h : Z0.f l0 = some r) :
  Calls Tryz.prog 62 #[u9000_, .func (.func 63) #[] #[]] w fun e w' => e = .returned (.tuple #[]) ∧ Kd.R (Kd.int .i64) 3 w' w0.heap.size (fun k_ => (P0_ k_ ∨ w.heap.size ≤ k_)) u9000_ r ∧ Below w0.heap.size w0 w' ∧ Kept w w' (fun k_ => P0_ k_) := by
 unfold Z0.f at h
 split at h
 ·rename_i hq
  obtain rfl := Option.some.inj h
  have key := M.sortN1 (d := Kd.int .i64) (Q := fun x : Int => 0 ≤ x ∧ x ≤ 4611686018427387904) (cf := fun x y => wrap64 (y - x)) Tryz.sortA62 Tryz.sortB62 rfl Z0.ord 63 (enters_of Tryz.func63 (by kernel_rfl) rfl)
   (fun W x y cx cy _ _ hx hy => by
    have e1 : cx = .int .i64 x := (List.cons.inj hx).1
    have e2 : cy = .int .i64 y := (List.cons.inj hy).1
    subst e1 e2
    exact Z0.closure x y W) ho0 hq.1 hq.2
  refine key.mono ?_
  rintro e w' ⟨rfl, xs', hp, hs, hR, hK, hB2⟩
  have hx : xs' = (M.sortD (l0.map Int.toNat)).map fun (n : Nat) => (n : Int) := by
   have hnn : ∀ x ∈ xs', 0 ≤ x ∧ x ≤ 4611686018427387904 := fun x hx => hq.1 x (hp.mem_iff.1 hx)
   have h1 : xs' = (xs'.map Int.toNat).map fun (n : Nat) => (n : Int) := by
    rw [List.map_map]
    conv => lhs; rw [← List.map_id xs']
    apply List.map_congr_left
    intro x hx
    have := hnn x hx
    simp only [id, Function.comp]
    omega
   have h2 : M.Fall (xs'.map Int.toNat) := by
    unfold M.Fall
    rw [List.pairwise_map]
    refine hs.imp_of_mem ?_
    intro a b ha hb hab
    have := hnn a ha
    have := hnn b hb
    have hab' : ¬ wrap64 (a - b) < 0 := hab
    unfold wrap64 at hab'
    clear hab
    omega
   have h3 : xs'.map Int.toNat = M.sortD (l0.map Int.toNat) := M.fall_uniq h2 (M.sortD_fall _) ((hp.map _).trans (M.sortD_perm _).symm)
   rw [← h3]
   exact h1
  rw [← hx]
  exact ⟨rfl, Kd.R_mono hR (fun _ hk => .inl hk), hB.trans hB2, ⟨hK.1, fun i hi hn => hK.2 i hi (fun e_ => hn (ho0.1 i e_.symm))⟩⟩
 ·cases h
def Z41.l0 : Nat → List Int → List (List Int) → Int → Int → Option (List Int)
 | 0, _, _, _, _ => none
 | k + 1, x3, x8, x9, x10 => if x10 < x9 then (if 0 ≤ x10 then (if x10 < (x8.length : Int) then (if x3.length < 17592186044416 then (Z41.l0 k (x3 ++ [((rd_L1 x8 x10).length : Int)]) x8 x9 (wrap64 (x10 + 1))) else (none)) else (none)) else (none)) else ((Z0.f x3).bind fun t665 => (some t665))
def Z41.f (k : Nat) (l0_0 : List Int) (l0_1 : List Int) : Option (List Int) := (Z26.f k l0_0 l0_1).bind fun t658 => (Z41.l0 k (([] : List Int)) t658 (t658.length : Int) 0)
theorem Z41.mono_l : ∀ k, (∀ y0 y1 y2 y3, LeO (Z41.l0 k y0 y1 y2 y3) (Z41.l0 (k + 1) y0 y1 y2 y3))
 | 0 => fun _ _ _ _ r h => by simp [Z41.l0] at h
 | k + 1 => by
  have ih0 := Z41.mono_l k
  ·intro y0 y1 y2 y3
   unfold Z41.l0
   repeat' first|exact ih0 _ _ _ _|exact Z26.mono _ _ _|exact lo_|refine LeO.ite ?_ ?_|refine LeO.bind ?_ (fun _ => ?_)
theorem Z41.mono : ∀ a0 a1 k, LeO (Z41.f k a0 a1) (Z41.f (k + 1) a0 a1) := by
 intro a0 a1 k
 have ih0 := Z41.mono_l k
 unfold Z41.f
 repeat' first|exact ih0 _ _ _ _|exact Z26.mono _ _ _|exact lo_|refine LeO.ite ?_ ?_|refine LeO.bind ?_ (fun _ => ?_)
set_option maxHeartbeats 8000000 in
set_option maxRecDepth 100000 in
theorem Z41.calls (k : Nat) (A0_0 : Option Addr) (c0_0 : Nat) (l0_0 : List Int) (A0_1 : Option Addr) (c0_1 : Nat) (l0_1 : List Int) (r : List Int) (w : World) (hr0_0 : Kd.C (Kd.int .i64) w A0_0 l0_0.length l0_0) (hc0_0 : l0_0.length ≤ c0_0) (hr0_1 : Kd.C (Kd.int .i64) w A0_1 l0_1.length l0_1) (hc0_1 : l0_1.length ≤ c0_1) (h : Z41.f k l0_0 l0_1 = some r) :
  Calls Tryz.prog 40 #[.agg #[.slice A0_0 l0_0.length c0_0, .slice A0_1 l0_1.length c0_1]] w fun e w' => ∃ v0_ : Value, e = .returned (v0_) ∧ Kd.R (Kd.int .i64) 3 w' w.heap.size (fun _ => True) v0_ r ∧ Below w.heap.size w w' := by
 have hu38 := Tryz.underlying38
 have HR0_0 := A_ hr0_0
 have HC0_0 := A_ hc0_0
 clear hr0_0 hc0_0
 have HR0_1 := A_ hr0_1
 have HC0_1 := A_ hc0_1
 clear hr0_1 hc0_1
 have HB := A_ (Below.refl w.heap.size w)
 have H := h
 unfold Z41.f at H
 clear h
 obtain ⟨y655, hy655⟩ : ∃ y_ : List Int, y_ = (([] : List Int)) := ⟨_, rfl⟩
 replace H : ((Z26.f k l0_0 l0_1).bind fun t658 => (Z41.l0 k y655 t658 (t658.length : Int) 0)) = some r := by first | (rw [hy655]; exact H) | exact H
 have Ny655 := A_ hy655
 clear hy655
 obtain ⟨t658, A2, H⟩ := bi_ H
 have H' := A_ H
 clear H
 go_enter Tryz.func40, Tryz.ntmps40
 go_wp2_with (first | ((with_reducible refine gB_ (N := 1) rfl ?_); refine bx_ 1 #[.slice A0_0 l0_0.length c0_0, .slice A0_1 l0_1.length c0_1] 38 ?_; intro gb654 hg w3 hbox hb; have BK654 := A_ hbox; have GW654 := gw_ w hg; have GE654 := GW654; replace HB := b1_ hb; clear hb hbox hg) | ((with_reducible refine gB_ (N := 6) rfl ?_); refine Kd.R_lit (Kd.int .i64) _ 3 ?hg (N := 6) ?hd (xs := ([] : List Int)) (inner := []) (ok := fun _ => True) (okp := fun _ => True) ?hr ?hp (fun _ hk => hk) trivial (Below.refl _ _) (nA_ _) (by simp) ?_; (case hd => rfl); (case hg => rfl); (case hr => first | (go_simp; done) | (go_simp; rfl)); (case hp => exact (Reps.none _ _)); intro v656 w4 ho5 hb hg_ hnew_; clear hg_ hnew_; (first | rw [← Ny655.out] at ho5 | (simp only [Int.reduceToNat] at ho5; rw [← Ny655.out] at ho5)); have HO657 := rl_ w ho5; replace BK654 := bb_ BK654 hb; replace HB := b1_ hb; clear hb ho5; obtain ⟨hcz6_0, hcz6_1, hfz6_0, hfz6_1⟩ := c2_ BK654) | ((with_reducible refine gA_ (f := 61) rfl ?_); refine gL_ (some 8) Tryz.func61 #[.agg #[.slice A0_0 l0_0.length c0_0, .slice A0_1 l0_1.length c0_1]] rfl qa_ ?_; (with_reducible refine (Z26.calls k _ _ l0_0 _ _ l0_1 t658 _ (cb_ HR0_0) HC0_0.out (cb_ HR0_1) HC0_1.out A2.out).mono ?_); rintro e w7 ⟨v659, rfl, ho0, hb⟩; refine ⟨_, rfl, ?_⟩; have HO660 := A_ (Kd.S_lower (Kd.S_new' ho0 (Kd.R_lt (rr_ HO657))) (bF_ hB_)); replace HO657 := rb_ HO657 hb; replace BK654 := bb_ BK654 hb; replace HB := b1_ hb; clear hb ho0; obtain ⟨Ao8, co8, eo8⟩ := Kd.S_slice HO660.out; subst eo8))
 go_loopg [3, 10] k (fun kq v3 v10 w' => ∃ (x3_1 : List Int) (x10_1 : Int), v10 = .int .i64 x10_1 ∧ Aside0 (Z41.l0 kq x3_1 t658 (t658.length : Int) x10_1 = some r) ∧ Aside0 (kq ≤ k) ∧ Aside0 (Kd.R (Kd.int .i64) 3 w' w.heap.size (fun _ => True) v3 x3_1) ∧ Aside0 (Kd.S (Kd.slice 3 (Kd.int .i64)) 27 w' w.heap.size (fun k_ => some k_ ≠ (v3 : Value).ownBlock) (.slice Ao8 t658.length co8) t658) ∧ Aside0 (w'.heap[gb654]? = some (.cells #[(.slice A0_0 l0_0.length c0_0), (.slice A0_1 l0_1.length c0_1)] 38 (0, 0))) ∧ Aside0 (Below w.heap.size w w'))
 case atStart => exact ⟨(y655), (0), qc_, H', ⟨nA_ _⟩, ⟨(rr_ HO657)⟩, ⟨(sw_ (Kd.S_mono HO660.out (fun _ hk => hk.2)))⟩, ⟨(kk_ BK654)⟩, ⟨hB_⟩⟩
 case round =>
  clear H'
  obtain ⟨x3_1, x10_1, rfl, HA, HK1, HO_3, HO_8, BK654, HB⟩ := hrel
  cases gk with
  | zero => exact absurd HA.out (by simp [Z41.l0])
  | succ k1 =>
   have H := HA.out
   clear HA
   simp only [Z41.l0] at H
   by_cases c9 : x10_1 < (t658.length : Int)
   ·rw [if_pos c9] at H
    have c9b0 := oC_ c9
    clear c9
    have c10 := cp_ H
    replace H := ca_ H
    have c10b0 := oC_ c10
    clear c10
    have c11 := cp_ H
    replace H := ca_ H
    have c11b0 := oC_ c11
    clear c11
    have c12 := cp_ H
    replace H := ca_ H
    have LMc12 := A_ c12
    clear c12
    obtain ⟨y662, hy662⟩ : ∃ y_ : List Int, y_ = (x3_1 ++ [((rd_L1 t658 x10_1).length : Int)]) := ⟨_, rfl⟩
    replace H : (Z41.l0 k1 y662 t658 (t658.length : Int) (wrap64 (x10_1 + 1))) = some r := by first | (rw [hy662]; exact H) | exact H
    have Ny662 := A_ hy662
    clear hy662
    have H' := A_ H
    clear H
    have p661 : 0 ≤ (x10_1 : Int) := oB_ qe_
    have q661 : x10_1 < (t658.length : Int) := oB_ qe_
    obtain ⟨ad661, A661_0, c661_0, e661, hx661_0, hl661_0, hi661_0⟩ := at_L1 (Kd.S_reads' HO_8.out).2.2 x10_1 p661 q661
    cases e661
    obtain ⟨ce661, hce661, hMe661, hcc661⟩ := Kd.S_get HO_8.out [] x10_1 p661 (by first | exact q661 | exact oB_ qe_ | (have e_ := (Kd.S_reads' HO_8.out).1; omega))
    obtain ⟨ve661_0, rfl, ge661_0⟩ := hMe661
    have hv661_0 := hcc661 0 _ rfl
    rw [Nat.add_zero, show ((Kd.slice 3 (Kd.int .i64))).sz = 1 from rfl, Nat.mul_one] at hv661_0
    replace hv661_0 := Option.some.inj (hv661_0.symm.trans hx661_0)
    rw [hv661_0] at ge661_0
    have HL661_0 := A_ (show Kd.R (Kd.int .i64) 3 _ _ _ _ (rd_L1 t658 x10_1) from ge661_0)
    clear hv661_0 ge661_0
    clear hcc661 hce661
    have HR661_0 := A_ hi661_0
    have HC661_0 := A_ hl661_0
    clear hi661_0 hl661_0
    replace p661 := eq_true p661
    replace q661 := eq_true q661
    go_wp2_with (first | ((with_reducible refine gate_builtin (b := .append) (xs := #[.tmp 14, .tmp 17]) rfl ?_); at_builtin; refine Kd.R_append (Kd.int .i64) (w0 := w) w.heap.size rfl (.tmp 14) (.tmp 17) 27 3 (.int .i64 0) 8 rfl Tryz.underlying27 info3 rfl (by decide) (by omega) u3 x3_1 ((rd_L1 t658 x10_1).length : Int) [.int .i64 ((rd_L1 t658 x10_1).length : Int)] (fun _ => True) (fun _ => False) rfl rfl ?aP (fun _ hk => hk.elim) ?aF ?aO ?aB ?aS ?aL ?_; (case aP => exact rfl); (case aB => exact hB_); (case aF => exact (fun _ _ => trivial)); (case aO => exact (rr_ HO_3)); (case aS => exact (bF_ hB_)); (case aL => have := LMc12.out; omega); intro v663 w13 ho hb hg hat; rw [← Ny662.out] at ho; replace HO_8 := A_ (Kd.S_after (ok := (fun _ => True)) (sw_ (Kd.S_mono HO_8.out (fun _ hk => ⟨trivial, hk⟩))) hg hat); replace BK654 := A_ (blk_grown (kk_ BK654) hg (Kd.R_ne HO_3.out BK654.out (by decide))); replace HL661_0 := A_ (Kd.R_after (ok := (fun k_ => some k_ ≠ (.slice (some ad661) t658.length co8 : Value).ownBlock)) (rw_ (Kd.R_mono HL661_0.out (fun _ hk => ⟨hk.2, hk.1⟩))) hg hat); replace HB := A_ hb; have HO664 := A_ ho; clear HO_3; clear ho hb hg hat))
    go_roundg k1
    case measure => have := HK1.out; omega
    case rel => exact ⟨(y662), (wrap64 (x10_1 + 1)), qc_, H', ⟨by have := HK1.out; omega⟩, ⟨(rr_ HO664)⟩, ⟨(sw_ (Kd.S_mono HO_8.out (fun _ hk => hk.2)))⟩, ⟨(kk_ BK654)⟩, ⟨hB_⟩⟩
   ·rw [if_neg c9] at H
    have c9b0 := oD_ c9
    clear c9
    obtain ⟨t665, A14, H⟩ := bi_ H
    obtain rfl := Option.some.inj H
    obtain ⟨Ao15, co15, eo15⟩ := Kd.R_slice HO_3.out
    subst eo15
    go_wp2_with (first | ((with_reducible refine gA_ (f := 62) rfl ?_); refine gL_ (some 21) Tryz.func62 #[.slice Ao15 x3_1.length co15, .func (.func 63) #[] #[]] rfl qa_ ?_; (with_reducible refine (Z0.calls (fun k_ => some k_ = (.slice Ao15 x3_1.length co15 : Value).ownBlock) (.slice Ao15 x3_1.length co15) x3_1 t665 w _ ?side1 ?side2 A14.out).mono ?_); (case side1 => repeat (first | (with_reducible first | exact HB.out | apply bA_ | apply bB_ | apply bC_ | refine bD_ ?_ GE654.out) | exact HB.out)); (case side2 => exact Kd.R_tight rfl HO_3.out); rintro e w16 ⟨rfl, hy0, hb, hkp⟩; refine ⟨_, rfl, ?_⟩; replace HO_8 := A_ (Kd.S_mono (ok' := fun k_ => some k_ ≠ (.slice Ao15 x3_1.length co15 : Value).ownBlock) (Kd.S_keptB (HO_8.out) hkp (fun k_ hk_ hs_ => (hk_) hs_)) (fun k_ hk_ => hk_.1)); replace BK654 := A_ (blk_kept (kk_ BK654) hkp (fun hs_ => (fun e_ => (Kd.R_ne HO_3.out BK654.out (by decide)) e_) hs_)); replace HO_3 := A_ (Kd.R_reok rfl hy0 (fun k_ e_ => HO_3.out.1 k_ e_)); replace HB := A_ hb; clear hb hkp hy0))
    go_ret
    exact ⟨_, qb_, (rr_ HO_3), hB_⟩
def Z28.l0 : Nat → List Int → List Int → Int → Int → Option (List Int)
 | 0, _, _, _, _ => none
 | k + 1, x3, x8, x9, x10 => if x10 < x9 then (if 0 ≤ x10 then (if x10 < (x8.length : Int) then (if (rd x8 x10) > 1 then (if x3.length < 17592186044416 then (Z28.l0 k (x3 ++ [wrap64 ((rd x8 x10) - 1)]) x8 x9 (wrap64 (x10 + 1))) else (none)) else (Z28.l0 k x3 x8 x9 (wrap64 (x10 + 1)))) else (none)) else (none)) else (some x3)
def Z28.f (k : Nat) (l0_0 : List Int) (l0_1 : List Int) : Option (List Int) := (Z41.f k l0_0 l0_1).bind fun t670 => (Z28.l0 k (([] : List Int)) t670 (t670.length : Int) 0)
theorem Z28.mono_l : ∀ k, (∀ y0 y1 y2 y3, LeO (Z28.l0 k y0 y1 y2 y3) (Z28.l0 (k + 1) y0 y1 y2 y3))
 | 0 => fun _ _ _ _ r h => by simp [Z28.l0] at h
 | k + 1 => by
  have ih0 := Z28.mono_l k
  ·intro y0 y1 y2 y3
   unfold Z28.l0
   repeat' first|exact ih0 _ _ _ _|exact Z41.mono _ _ _|exact lo_|refine LeO.ite ?_ ?_|refine LeO.bind ?_ (fun _ => ?_)
theorem Z28.mono : ∀ a0 a1 k, LeO (Z28.f k a0 a1) (Z28.f (k + 1) a0 a1) := by
 intro a0 a1 k
 have ih0 := Z28.mono_l k
 unfold Z28.f
 repeat' first|exact ih0 _ _ _ _|exact Z41.mono _ _ _|exact lo_|refine LeO.ite ?_ ?_|refine LeO.bind ?_ (fun _ => ?_)
set_option maxHeartbeats 8000000 in
set_option maxRecDepth 100000 in
theorem Z28.calls (k : Nat) (A0_0 : Option Addr) (c0_0 : Nat) (l0_0 : List Int) (A0_1 : Option Addr) (c0_1 : Nat) (l0_1 : List Int) (r : List Int) (w : World) (hr0_0 : Kd.C (Kd.int .i64) w A0_0 l0_0.length l0_0) (hc0_0 : l0_0.length ≤ c0_0) (hr0_1 : Kd.C (Kd.int .i64) w A0_1 l0_1.length l0_1) (hc0_1 : l0_1.length ≤ c0_1) (h : Z28.f k l0_0 l0_1 = some r) :
  Calls Tryz.prog 23 #[.agg #[.slice A0_0 l0_0.length c0_0, .slice A0_1 l0_1.length c0_1]] w fun e w' => ∃ v0_ : Value, e = .returned (v0_) ∧ Kd.R (Kd.int .i64) 3 w' w.heap.size (fun _ => True) v0_ r ∧ Below w.heap.size w w' := by
 have hu38 := Tryz.underlying38
 have HR0_0 := A_ hr0_0
 have HC0_0 := A_ hc0_0
 clear hr0_0 hc0_0
 have HR0_1 := A_ hr0_1
 have HC0_1 := A_ hc0_1
 clear hr0_1 hc0_1
 have HB := A_ (Below.refl w.heap.size w)
 have H := h
 unfold Z28.f at H
 clear h
 obtain ⟨y667, hy667⟩ : ∃ y_ : List Int, y_ = (([] : List Int)) := ⟨_, rfl⟩
 replace H : ((Z41.f k l0_0 l0_1).bind fun t670 => (Z28.l0 k y667 t670 (t670.length : Int) 0)) = some r := by first | (rw [hy667]; exact H) | exact H
 have Ny667 := A_ hy667
 clear hy667
 obtain ⟨t670, A2, H⟩ := bi_ H
 have H' := A_ H
 clear H
 go_enter Tryz.func23, Tryz.ntmps23
 go_wp2_with (first | ((with_reducible refine gB_ (N := 1) rfl ?_); refine bx_ 1 #[.slice A0_0 l0_0.length c0_0, .slice A0_1 l0_1.length c0_1] 38 ?_; intro gb666 hg w3 hbox hb; have BK666 := A_ hbox; have GW666 := gw_ w hg; have GE666 := GW666; replace HB := b1_ hb; clear hb hbox hg) | ((with_reducible refine gB_ (N := 6) rfl ?_); refine Kd.R_lit (Kd.int .i64) _ 3 ?hg (N := 6) ?hd (xs := ([] : List Int)) (inner := []) (ok := fun _ => True) (okp := fun _ => True) ?hr ?hp (fun _ hk => hk) trivial (Below.refl _ _) (nA_ _) (by simp) ?_; (case hd => rfl); (case hg => rfl); (case hr => first | (go_simp; done) | (go_simp; rfl)); (case hp => exact (Reps.none _ _)); intro v668 w4 ho5 hb hg_ hnew_; clear hg_ hnew_; (first | rw [← Ny667.out] at ho5 | (simp only [Int.reduceToNat] at ho5; rw [← Ny667.out] at ho5)); have HO669 := rl_ w ho5; replace BK666 := bb_ BK666 hb; replace HB := b1_ hb; clear hb ho5; obtain ⟨hcz6_0, hcz6_1, hfz6_0, hfz6_1⟩ := c2_ BK666) | ((with_reducible refine gA_ (f := 40) rfl ?_); refine gL_ (some 8) Tryz.func40 #[.agg #[.slice A0_0 l0_0.length c0_0, .slice A0_1 l0_1.length c0_1]] rfl qa_ ?_; (with_reducible refine (Z41.calls k _ _ l0_0 _ _ l0_1 t670 _ (cb_ HR0_0) HC0_0.out (cb_ HR0_1) HC0_1.out A2.out).mono ?_); rintro e w7 ⟨v671, rfl, ho0, hb⟩; refine ⟨_, rfl, ?_⟩; have HO672 := A_ (rE_ (Kd.R_new' ho0 (Kd.R_lt (rr_ HO669))) (bF_ hB_)); replace HO669 := A_ (Kd.R_elder' (rr_ HO669) (Kd.R_base ho0) hb); replace BK666 := bb_ BK666 hb; replace HB := b1_ hb; clear hb ho0; obtain ⟨Ao8, co8, eo8⟩ := Kd.R_slice HO672.out; subst eo8))
 go_loopg [3, 10] k (fun kq v3 v10 w' => ∃ (x3_1 : List Int) (x10_1 : Int), v10 = .int .i64 x10_1 ∧ Aside0 (Z28.l0 kq x3_1 t670 (t670.length : Int) x10_1 = some r) ∧ Aside0 (kq ≤ k) ∧ Aside0 (Kd.R (Kd.int .i64) 3 w' w.heap.size (fun k_ => some k_ ≠ ((.slice Ao8 t670.length co8) : Value).ownBlock) v3 x3_1) ∧ Aside0 (Kd.R (Kd.int .i64) 3 w' w.heap.size (fun k_ => some k_ ≠ (v3 : Value).ownBlock) (.slice Ao8 t670.length co8) t670) ∧ Aside0 (w'.heap[gb666]? = some (.cells #[(.slice A0_0 l0_0.length c0_0), (.slice A0_1 l0_1.length c0_1)] 38 (0, 0))) ∧ Aside0 (Below w.heap.size w w'))
 case atStart => exact ⟨(y667), (0), qc_, H', ⟨nA_ _⟩, ⟨(rw_ (Kd.R_mono HO669.out (fun _ hk => hk.2)))⟩, ⟨(rw_ (Kd.R_mono HO672.out (fun _ hk => hk.2)))⟩, ⟨(kk_ BK666)⟩, ⟨hB_⟩⟩
 case round =>
  clear H'
  obtain ⟨x3_1, x10_1, rfl, HA, HK1, HO_3, HO_8, BK666, HB⟩ := hrel
  cases gk with
  | zero => exact absurd HA.out (by simp [Z28.l0])
  | succ k1 =>
   have H := HA.out
   clear HA
   simp only [Z28.l0] at H
   by_cases c9 : x10_1 < (t670.length : Int)
   ·rw [if_pos c9] at H
    have c9b0 := oC_ c9
    clear c9
    have c10 := cp_ H
    replace H := ca_ H
    have c10b0 := oC_ c10
    clear c10
    have c11 := cp_ H
    replace H := ca_ H
    have c11b0 := oC_ c11
    clear c11
    by_cases c12 : (rd t670 x10_1) > 1
    ·rw [if_pos c12] at H
     have c12b0 : decide (1 < (rd t670 x10_1)) = true := oC_ c12
     clear c12
     have c13 := cp_ H
     replace H := ca_ H
     have LMc13 := A_ c13
     clear c13
     obtain ⟨y674, hy674⟩ : ∃ y_ : List Int, y_ = (x3_1 ++ [wrap64 ((rd t670 x10_1) - 1)]) := ⟨_, rfl⟩
     replace H : (Z28.l0 k1 y674 t670 (t670.length : Int) (wrap64 (x10_1 + 1))) = some r := by first | (rw [hy674]; exact H) | exact H
     have Ny674 := A_ hy674
     clear hy674
     have H' := A_ H
     clear H
     have p673 : 0 ≤ (x10_1 : Int) := oB_ qe_
     have q673 : x10_1 < (t670.length : Int) := oB_ qe_
     obtain ⟨ad673, e673, hx673_0⟩ := Kd.at_int (Kd.R_reads' HO_8.out).2.2 x10_1 p673 q673
     cases e673
     replace p673 := eq_true p673
     replace q673 := eq_true q673
     go_wp2_with (first | ((with_reducible refine gate_builtin (b := .append) (xs := #[.tmp 16, .tmp 19]) rfl ?_); at_builtin; refine Kd.R_append (Kd.int .i64) (w0 := w) w.heap.size rfl (.tmp 16) (.tmp 19) 27 3 (.int .i64 0) 8 rfl Tryz.underlying27 info3 rfl (by decide) (by omega) u3 x3_1 (wrap64 ((rd t670 x10_1) - 1)) [.int .i64 (wrap64 ((rd t670 x10_1) - 1))] (fun k_ => some k_ ≠ (.slice (some ad673) t670.length co8 : Value).ownBlock) (fun _ => False) rfl rfl ?aP (fun _ hk => hk.elim) ?aF ?aO ?aB ?aS ?aL ?_; (case aP => exact rfl); (case aB => exact hB_); (case aF => exact (fun k_ hk => Kd.fresh' (Kd.R_lt (rr_ HO_8)) k_ hk)); (case aO => exact (rr_ HO_3)); (case aS => exact (bF_ hB_)); (case aL => have := LMc13.out; omega); intro v675 w14 ho hb hg hat; rw [← Ny674.out] at ho; replace HO_8 := A_ (Kd.R_after (ok := (fun _ => True)) (rw_ (Kd.R_mono HO_8.out (fun _ hk => ⟨trivial, hk⟩))) hg hat); replace BK666 := A_ (blk_grown (kk_ BK666) hg (Kd.R_ne HO_3.out BK666.out (by decide))); replace HB := A_ hb; have HO676 := A_ ho; clear HO_3; clear ho hb hg hat))
     go_roundg k1
     case measure => have := HK1.out; omega
     case rel => exact ⟨(y674), (wrap64 (x10_1 + 1)), qc_, H', ⟨by have := HK1.out; omega⟩, ⟨(rr_ HO676)⟩, ⟨(rw_ (Kd.R_mono HO_8.out (fun _ hk => hk.2)))⟩, ⟨(kk_ BK666)⟩, ⟨hB_⟩⟩
    ·rw [if_neg c12] at H
     have c12b0 : decide (1 < (rd t670 x10_1)) = false := oD_ c12
     clear c12
     have H' := A_ H
     clear H
     have p673 : 0 ≤ (x10_1 : Int) := oB_ qe_
     have q673 : x10_1 < (t670.length : Int) := oB_ qe_
     obtain ⟨ad673, e673, hx673_0⟩ := Kd.at_int (Kd.R_reads' HO_8.out).2.2 x10_1 p673 q673
     cases e673
     replace p673 := eq_true p673
     replace q673 := eq_true q673
     go_wp2
     go_roundg k1
     case measure => have := HK1.out; omega
     case rel => exact ⟨(x3_1), (wrap64 (x10_1 + 1)), qc_, H', ⟨by have := HK1.out; omega⟩, ⟨(rr_ HO_3)⟩, ⟨(rr_ HO_8)⟩, ⟨(kk_ BK666)⟩, ⟨hB_⟩⟩
   ·rw [if_neg c9] at H
    have c9b0 := oD_ c9
    clear c9
    obtain rfl := Option.some.inj H
    go_wp2
    go_ret
    exact ⟨_, qb_, (rw_ (Kd.R_mono HO_3.out (fun _ hk => trivial))), hB_⟩
def Z21.l0 : Nat → List Int → List (S38) → List (S38) → Int → Int → Option ((List (S38)))
 | 0, _, _, _, _, _ => none
 | k + 1, x1, x5, x10, x11, x12 => if x12 < x11 then (if 0 ≤ x12 then (if x12 < (x10.length : Int) then ((Z28.f k ((rd_T38 x10 x12).f0) ((rd_T38 x10 x12).f1)).bind fun t746 => ((Z44.f k t746 x1).bind fun t749 => (if t749 = true then (if x5.length < 2932031007402 then (Z21.l0 k x1 (x5 ++ [(⟨(rd_T38 x10 x12).f0, (rd_T38 x10 x12).f1⟩ : S38)]) x10 x11 (wrap64 (x12 + 1))) else (none)) else (Z21.l0 k x1 x5 x10 x11 (wrap64 (x12 + 1)))))) else (none)) else (none)) else (some x5)
def Z21.f (k : Nat) (a0 : Int) (l1 : List Int) : Option ((List (S38))) := (Z10.f k a0).bind fun t741 => (Z21.l0 k l1 (([] : List (S38))) t741 (t741.length : Int) 0)
theorem Z21.mono_l : ∀ k, (∀ y0 y1 y2 y3 y4, LeO (Z21.l0 k y0 y1 y2 y3 y4) (Z21.l0 (k + 1) y0 y1 y2 y3 y4))
 | 0 => fun _ _ _ _ _ r h => by simp [Z21.l0] at h
 | k + 1 => by
  have ih0 := Z21.mono_l k
  ·intro y0 y1 y2 y3 y4
   unfold Z21.l0
   repeat' first|exact ih0 _ _ _ _ _|exact Z44.mono _ _ _|exact Z28.mono _ _ _|exact Z10.mono _ _|exact lo_|refine LeO.ite ?_ ?_|refine LeO.bind ?_ (fun _ => ?_)
theorem Z21.mono : ∀ a0 a1 k, LeO (Z21.f k a0 a1) (Z21.f (k + 1) a0 a1) := by
 intro a0 a1 k
 have ih0 := Z21.mono_l k
 unfold Z21.f
 repeat' first|exact ih0 _ _ _ _ _|exact Z44.mono _ _ _|exact Z28.mono _ _ _|exact Z10.mono _ _|exact lo_|refine LeO.ite ?_ ?_|refine LeO.bind ?_ (fun _ => ?_)
set_option maxHeartbeats 8000000 in
set_option maxRecDepth 100000 in
theorem Z21.calls (k : Nat) (a0 : Int) (A1 : Option Addr) (c1 : Nat) (l1 : List Int) (r : List (S38)) (w : World) (hr1 : Kd.C (Kd.int .i64) w A1 l1.length l1) (hc1 : l1.length ≤ c1) (h : Z21.f k a0 l1 = some r) :
  Calls Tryz.prog 12 #[.int .i64 a0, .slice A1 l1.length c1] w fun e w' => ∃ v0_ : Value, e = .returned (v0_) ∧ Kd.S k38 38 w' w.heap.size (fun _ => True) v0_ r ∧ Below w.heap.size w w' := by
 have hu38 := Tryz.underlying38
 have HR1 := A_ hr1
 have HC1 := A_ hc1
 clear hr1 hc1
 have HB := A_ (Below.refl w.heap.size w)
 have H := h
 unfold Z21.f at H
 clear h
 obtain ⟨y738, hy738⟩ : ∃ y_ : List (S38), y_ = (([] : List (S38))) := ⟨_, rfl⟩
 replace H : ((Z10.f k a0).bind fun t741 => (Z21.l0 k l1 y738 t741 (t741.length : Int) 0)) = some r := by first | (rw [hy738]; exact H) | exact H
 have Ny738 := A_ hy738
 clear hy738
 obtain ⟨t741, A3, H⟩ := bi_ H
 have H' := A_ H
 clear H
 go_enter Tryz.func12, Tryz.ntmps12
 go_wp2_with (first | ((with_reducible refine gB_ (N := 8) rfl ?_); refine Kd.S_lit k38 _ 38 ?hg (N := 8) ?hd (xs := ([] : List (S38))) (inner := []) (ok := (fun k_ => (w.heap.size ≤ k_))) (okp := (fun k_ => (w.heap.size ≤ k_))) ?hr ?hp (fun _ hk => hk) ((show ∀ k_, w.heap.size ≤ k_ → (fun k_ => (w.heap.size ≤ k_)) k_ from fun k_ hk => (Nat.le_trans (bF_ hB_) hk)) _ (nA_ _)) (Below.refl _ _) (nA_ _) (by simp) ?_; (case hd => rfl); (case hg => rfl); (case hr => first | (go_simp; done) | (go_simp; rfl)); (case hp => exact (Reps.none _ _)); intro v739 w4 ho5 hb hg_ hnew_; clear hg_ hnew_; (first | rw [← Ny738.out] at ho5 | (simp only [Int.reduceToNat] at ho5; rw [← Ny738.out] at ho5)); have HO740 := A_ (Kd.S_lower ho5 (bF_ hB_)); replace HB := b1_ hb; clear hb ho5) | ((with_reducible refine gA_ (f := 22) rfl ?_); refine gL_ (some 10) Tryz.func22 #[.int .i64 a0] rfl qa_ ?_; (with_reducible refine (Z10.calls k a0 t741 _ A3.out).mono ?_); rintro e w6 ⟨v742, rfl, ho0, hb⟩; refine ⟨_, rfl, ?_⟩; obtain ⟨f_, ho0⟩ := ho0; have HO743 := A_ (rE_ (Kd.R_mono (ok' := fun k_ => (w.heap.size ≤ k_) ∧ some k_ ≠ (v739 : Value).ownBlock) (Kd.R_bound ho0) (fun k_ hk_ => ⟨(Nat.le_trans (bF_ hB_) hk_.2.1), (Kd.fresh' (Kd.S_lt (ss_ HO740)) k_ hk_.2.1)⟩)) (bF_ hB_)); replace HO740 := A_ (M.TR.T_of_eq (f := f_) (n := 0) Ny738.out (Kd.S_elder' (ss_ HO740) (Kd.R_base ho0) hb)); replace HB := b1_ hb; clear hb ho0; obtain ⟨Ao7, co7, eo7⟩ := Kd.S_slice (d := k38) (show Kd.S k38 38 _ w.heap.size _ _ t741 from ⟨f_, HO743.out⟩); subst eo7))
 go_loopg [5, 12] k (fun kq v5 v12 w' => ∃ (x5_1 : List (S38)) (x12_1 : Int), v12 = .int .i64 x12_1 ∧ Aside0 (Z21.l0 kq l1 x5_1 t741 (t741.length : Int) x12_1 = some r) ∧ Aside0 (kq ≤ k) ∧ Aside0 (M.TR.T f_ k38 38 w' w.heap.size (fun k_ => (w.heap.size ≤ k_) ∧ some k_ ≠ ((.slice Ao7 t741.length co7) : Value).ownBlock) v5 x5_1 x12_1) ∧ Aside0 ((Kd.tag f_ k38).R 38 w' w.heap.size (fun k_ => (w.heap.size ≤ k_) ∧ some k_ ≠ (v5 : Value).ownBlock) (.slice Ao7 t741.length co7) t741.zipIdx) ∧ Aside0 (Below w.heap.size w w'))
 case atStart => exact ⟨(y738), (0), qc_, H', ⟨nA_ _⟩, ⟨by (with_reducible repeat (first | apply M.TR.T_alloc | apply M.TR.T_drewN | apply M.TR.T_drew)); exact HO740.out⟩, ⟨(rr_ HO743)⟩, ⟨hB_⟩⟩
 case round =>
  clear H'
  obtain ⟨x5_1, x12_1, rfl, HA, HK1, HO_5, HO_10, HB⟩ := hrel
  cases gk with
  | zero => exact absurd HA.out (by simp [Z21.l0])
  | succ k1 =>
   have H := HA.out
   clear HA
   simp only [Z21.l0] at H
   by_cases c8 : x12_1 < (t741.length : Int)
   ·rw [if_pos c8] at H
    have c8b0 := oC_ c8
    clear c8
    have c9 := cp_ H
    replace H := ca_ H
    have c9b0 := oC_ c9
    clear c9
    have c10 := cp_ H
    replace H := ca_ H
    have c10b0 := oC_ c10
    clear c10
    obtain ⟨t746, A11, H⟩ := bi_ H
    obtain ⟨t749, A12, H⟩ := bi_ H
    by_cases c13 : t749 = true
    ·subst c13
     rw [if_pos rfl] at H
     have c14 := cp_ H
     replace H := ca_ H
     have LMc14 := A_ c14
     clear c14
     obtain ⟨y750, hy750⟩ : ∃ y_ : List (S38), y_ = (x5_1 ++ [(⟨(rd_T38 t741 x12_1).f0, (rd_T38 t741 x12_1).f1⟩ : S38)]) := ⟨_, rfl⟩
     replace H : (Z21.l0 k1 l1 y750 t741 (t741.length : Int) (wrap64 (x12_1 + 1))) = some r := by first | (rw [hy750]; exact H) | exact H
     have Ny750 := A_ hy750
     clear hy750
     have H' := A_ H
     clear H
     have p744 : 0 ≤ (x12_1 : Int) := oB_ qe_
     have q744 : x12_1 < (t741.length : Int) := oB_ qe_
     obtain ⟨ad744, A744_0, c744_0, A744_1, c744_1, e744, hx744_0, hx744_1, hl744_0, hi744_0, hl744_1, hi744_1⟩ := at_T38 (Kd.S_reads' (d := k38) (show Kd.S k38 38 _ w.heap.size _ _ t741 from ⟨f_, HO_10.out⟩)).2.2 x12_1 p744 q744
     cases e744
     obtain ⟨gl0_, gl1_, gne_, gf0_, gf1_⟩ := M.TR.get_T HO_10.out x12_1 p744 q744 hx744_0 hx744_1
     have HL744_0 := A_ gl0_
     have HL744_1 := A_ gl1_
     have NE_ := A_ gne_
     have F0_ := A_ gf0_
     have F1_ := A_ gf1_
     have LW_ := A_ (M.TR.idx_up (d := Kd.tag f_ k38) HO_10.out p744 (by rw [List.length_zipIdx]; exact q744))
     clear gl0_ gl1_ gne_ gf0_ gf1_
     have HR744_0 := A_ hi744_0
     have HC744_0 := A_ hl744_0
     clear hi744_0 hl744_0
     have HR744_1 := A_ hi744_1
     have HC744_1 := A_ hl744_1
     clear hi744_1 hl744_1
     replace p744 := eq_true p744
     replace q744 := eq_true q744
     go_wp2_with (first | ((with_reducible refine gB_ (N := 7) rfl ?_); refine bx_ 7 #[.slice none 0 0, .slice none 0 0] 38 ?_; intro gb745 hg w15 hbox hb; replace HO_5 := A_ (M.TR.T_below (M.TR.T_elderB (by (with_reducible repeat (first | apply M.TR.T_alloc | apply M.TR.T_drewN | apply M.TR.T_drew)); exact HO_5.out) gb745 (Nat.le_of_eq hg.symm)) hb); replace HO_10 := A_ (rD_ (Kd.R_elderB (rr_ HO_10) gb745 (Nat.le_of_eq hg.symm)) hb); replace HL744_0 := A_ (rD_ (Kd.R_elderB (rr_ HL744_0) gb745 (Nat.le_of_eq hg.symm)) hb); replace HL744_1 := A_ (rD_ (Kd.R_elderB (rr_ HL744_1) gb745 (Nat.le_of_eq hg.symm)) hb); replace HR744_0 := A_ (cD_ (by repeat (first | (with_reducible exact HR744_0.out) | (with_reducible refine cA_ ?_ _) | (with_reducible refine cB_ ?_ _) | (with_reducible refine cC_ ?_) | exact HR744_0.out)) hb); replace HR744_1 := A_ (cD_ (by repeat (first | (with_reducible exact HR744_1.out) | (with_reducible refine cA_ ?_ _) | (with_reducible refine cB_ ?_ _) | (with_reducible refine cC_ ?_) | exact HR744_1.out)) hb); have BK745 := A_ hbox; have GW745 := gw_ w hg; have GE745 := GW745; replace HB := b1_ hb; clear hb hbox hg; obtain ⟨hcz16_0, hcz16_1, hfz16_0, hfz16_1⟩ := c2_ BK745) | ((with_reducible refine gA_ (f := 23) rfl ?_); refine gL_ (some 17) Tryz.func23 #[.agg #[.slice A744_0 ((rd_T38 t741 x12_1).f0).length c744_0, .slice A744_1 ((rd_T38 t741 x12_1).f1).length c744_1]] rfl qa_ ?_; (with_reducible refine (Z28.calls k1 _ _ ((rd_T38 t741 x12_1).f0) _ _ ((rd_T38 t741 x12_1).f1) t746 _ (cw_ ((Kd.R_reads' (rw_ (Kd.R_mono (Kd.R_far (p := ⟨gb745, 1, none⟩) (Kd.R_far (p := ⟨gb745, 0, none⟩) (Kd.R_mono HL744_0.out (fun k_ hk => (⟨hk, hk.2⟩ : _ ∧ k_ ≠ gb745))) (fun _ hk => hk.2) (.slice A744_0 ((rd_T38 t741 x12_1).f0).length c744_0)) (fun _ hk => hk.2) (.slice A744_1 ((rd_T38 t741 x12_1).f1).length c744_1)) (fun _ h_ => h_.1)))).2.2)) HC744_0.out (cw_ ((Kd.R_reads' (rw_ (Kd.R_mono (Kd.R_far (p := ⟨gb745, 1, none⟩) (Kd.R_far (p := ⟨gb745, 0, none⟩) (Kd.R_mono HL744_1.out (fun k_ hk => (⟨hk, hk.2⟩ : _ ∧ k_ ≠ gb745))) (fun _ hk => hk.2) (.slice A744_0 ((rd_T38 t741 x12_1).f0).length c744_0)) (fun _ hk => hk.2) (.slice A744_1 ((rd_T38 t741 x12_1).f1).length c744_1)) (fun _ h_ => h_.1)))).2.2)) HC744_1.out A11.out).mono ?_); rintro e w17 ⟨v747, rfl, ho0, hb⟩; refine ⟨_, rfl, ?_⟩; replace HO_5 := A_ (M.TR.T_elder' (by (with_reducible repeat (first | apply M.TR.T_alloc | apply M.TR.T_drewN | apply M.TR.T_drew)); exact (M.TR.T_mono (M.TR.T_far (p := ⟨gb745, 1, none⟩) (M.TR.T_far (p := ⟨gb745, 0, none⟩) (M.TR.T_mono HO_5.out (fun k_ hk => (⟨hk, hk.2⟩ : _ ∧ k_ ≠ gb745))) (fun _ hk => hk.2) (.slice A744_0 ((rd_T38 t741 x12_1).f0).length c744_0)) (fun _ hk => hk.2) (.slice A744_1 ((rd_T38 t741 x12_1).f1).length c744_1)) (fun _ h_ => h_.1))) (Kd.R_base ho0) hb); replace HO_10 := A_ (Kd.R_elder' (rw_ (Kd.R_mono (Kd.R_far (p := ⟨gb745, 1, none⟩) (Kd.R_far (p := ⟨gb745, 0, none⟩) (Kd.R_mono HO_10.out (fun k_ hk => (⟨hk, hk.2⟩ : _ ∧ k_ ≠ gb745))) (fun _ hk => hk.2) (.slice A744_0 ((rd_T38 t741 x12_1).f0).length c744_0)) (fun _ hk => hk.2) (.slice A744_1 ((rd_T38 t741 x12_1).f1).length c744_1)) (fun _ h_ => h_.1))) (Kd.R_base ho0) hb); have HO748 := A_ (rE_ (Kd.R_newM (M := fun k_ => (w.heap.size ≤ k_)) ho0 (bF_ hB_) (fun k_ h_ => h_)) (bF_ hB_)); replace HR744_0 := A_ (cD_ ((Kd.R_reads' (rw_ (Kd.R_mono (Kd.R_far (p := ⟨gb745, 1, none⟩) (Kd.R_far (p := ⟨gb745, 0, none⟩) (Kd.R_mono HL744_0.out (fun k_ hk => (⟨hk, hk.2⟩ : _ ∧ k_ ≠ gb745))) (fun _ hk => hk.2) (.slice A744_0 ((rd_T38 t741 x12_1).f0).length c744_0)) (fun _ hk => hk.2) (.slice A744_1 ((rd_T38 t741 x12_1).f1).length c744_1)) (fun _ h_ => h_.1)))).2.2) hb); replace HL744_0 := A_ (Kd.R_elder' (rw_ (Kd.R_mono (Kd.R_far (p := ⟨gb745, 1, none⟩) (Kd.R_far (p := ⟨gb745, 0, none⟩) (Kd.R_mono HL744_0.out (fun k_ hk => (⟨hk, hk.2⟩ : _ ∧ k_ ≠ gb745))) (fun _ hk => hk.2) (.slice A744_0 ((rd_T38 t741 x12_1).f0).length c744_0)) (fun _ hk => hk.2) (.slice A744_1 ((rd_T38 t741 x12_1).f1).length c744_1)) (fun _ h_ => h_.1))) (Kd.R_base ho0) hb); replace HR744_1 := A_ (cD_ ((Kd.R_reads' (rw_ (Kd.R_mono (Kd.R_far (p := ⟨gb745, 1, none⟩) (Kd.R_far (p := ⟨gb745, 0, none⟩) (Kd.R_mono HL744_1.out (fun k_ hk => (⟨hk, hk.2⟩ : _ ∧ k_ ≠ gb745))) (fun _ hk => hk.2) (.slice A744_0 ((rd_T38 t741 x12_1).f0).length c744_0)) (fun _ hk => hk.2) (.slice A744_1 ((rd_T38 t741 x12_1).f1).length c744_1)) (fun _ h_ => h_.1)))).2.2) hb); replace HL744_1 := A_ (Kd.R_elder' (rw_ (Kd.R_mono (Kd.R_far (p := ⟨gb745, 1, none⟩) (Kd.R_far (p := ⟨gb745, 0, none⟩) (Kd.R_mono HL744_1.out (fun k_ hk => (⟨hk, hk.2⟩ : _ ∧ k_ ≠ gb745))) (fun _ hk => hk.2) (.slice A744_0 ((rd_T38 t741 x12_1).f0).length c744_0)) (fun _ hk => hk.2) (.slice A744_1 ((rd_T38 t741 x12_1).f1).length c744_1)) (fun _ h_ => h_.1))) (Kd.R_base ho0) hb); replace BK745 := A_ (kE_ (g := gb745) (o := .cells #[.slice A744_0 ((rd_T38 t741 x12_1).f0).length c744_0, .slice A744_1 ((rd_T38 t741 x12_1).f1).length c744_1] 38 (0, 0)) qp_ hb); replace HB := b1_ hb; clear hb ho0; obtain ⟨Ao18, co18, eo18⟩ := Kd.R_slice HO748.out; subst eo18) | ((with_reducible refine gA_ (f := 28) rfl ?_); refine gL_ (some 19) Tryz.func28 #[.slice Ao18 t746.length co18, .slice A1 l1.length c1] rfl qa_ ?_; (with_reducible refine (Z44.calls k1 _ _ t746 _ _ l1 true _ (cr_ HO748) ((Kd.R_reads' HO748.out).2.1) (cb_ HR1) HC1.out A12.out).mono ?_); rintro e w' ⟨rfl, ⟨nd, rfl⟩⟩; refine ⟨_, rfl, ?_⟩; have hcz19_0 : w17.cell? ⟨gb745, 0, none⟩ = some (.slice A744_0 ((rd_T38 t741 x12_1).f0).length c744_0) := cz0_ BK745; have hcz19_1 : w17.cell? ⟨gb745, 1, none⟩ = some (.slice A744_1 ((rd_T38 t741 x12_1).f1).length c744_1) := cz1_ BK745; have hfz19_0 := kD_ BK745.out 0; have hfz19_1 := kD_ BK745.out 1) | ((with_reducible refine gate_builtin (b := .append) (xs := #[.tmp 20, .tmp 22]) rfl ?_); at_builtin; refine M.TR.T_append (f := f_) k38 (w0 := w) w.heap.size rfl (.tmp 20) (.tmp 22) 28 38 (.agg #[(.slice none 0 0), (.slice none 0 0)]) 48 rfl Tryz.underlying28 info38 rfl (by decide) (by omega) u5 x5_1 (⟨(rd_T38 t741 x12_1).f0, (rd_T38 t741 x12_1).f1⟩ : S38) [.slice A744_0 ((rd_T38 t741 x12_1).f0).length c744_0, .slice A744_1 ((rd_T38 t741 x12_1).f1).length c744_1] (fun k_ => (w.heap.size ≤ k_) ∧ some k_ ≠ (.slice (some ad744) t741.length co7 : Value).ownBlock ∧ some k_ ≠ (.slice Ao18 t746.length co18 : Value).ownBlock ∧ k_ ≠ gb745) (fun k_ => some k_ = (.slice A744_0 ((rd_T38 t741 x12_1).f0).length c744_0 : Value).ownBlock ∨ some k_ = (.slice A744_1 ((rd_T38 t741 x12_1).f1).length c744_1 : Value).ownBlock) rfl rfl (of_eq_true p744) ?aP ?aK ?aF ?aO ?aB ?aS ?aL ?_; (case aP => exact k38_mkM _ _ _ (⟨(rd_T38 t741 x12_1).f0, (rd_T38 t741 x12_1).f1⟩ : S38) (rw_ (Kd.R_mono (Kd.R_tight rfl HL744_0.out) (fun k_ hk => ⟨.inl hk, F0_.out k_ hk.symm⟩))) (rw_ (Kd.R_mono (Kd.R_tight rfl HL744_1.out) (fun k_ hk => ⟨.inr hk, F1_.out k_ hk.symm⟩))) NE_.out); (case aK => exact (fun k_ hk => hk.elim (fun e_ => ((Kd.R_mono (ok' := (fun k_ => ((fun k_ => (w.heap.size ≤ k_) ∧ some k_ ≠ (.slice (some ad744) t741.length co7 : Value).ownBlock ∧ some k_ ≠ (.slice Ao18 t746.length co18 : Value).ownBlock ∧ k_ ≠ gb745)) k_ ∧ some k_ ≠ (u5 : Value).ownBlock)) (HL744_0.out) (fun k_ hk => ⟨⟨hk.1.1.1.1, ⟨hk.1.1.2, ⟨hk.2, hk.1.2⟩⟩⟩, hk.1.1.1.2⟩))).1 k_ e_.symm) (fun e_ => ((Kd.R_mono (ok' := (fun k_ => ((fun k_ => (w.heap.size ≤ k_) ∧ some k_ ≠ (.slice (some ad744) t741.length co7 : Value).ownBlock ∧ some k_ ≠ (.slice Ao18 t746.length co18 : Value).ownBlock ∧ k_ ≠ gb745)) k_ ∧ some k_ ≠ (u5 : Value).ownBlock)) (HL744_1.out) (fun k_ hk => ⟨⟨hk.1.1.1.1, ⟨hk.1.1.2, ⟨hk.2, hk.1.2⟩⟩⟩, hk.1.1.1.2⟩))).1 k_ e_.symm))); (case aB => exact hB_); (case aF => exact (fun k_ hk => ⟨(Nat.le_trans (bF_ hB_) hk), Kd.fresh' (Kd.R_lt (rr_ HO_10)) k_ hk, Kd.fresh' (Kd.R_lt (rr_ HO748)) k_ hk, Kd.freshB (kk_ BK745) k_ hk⟩)); (case aO => exact (by (with_reducible repeat (first | apply M.TR.T_alloc | apply M.TR.T_drewN | apply M.TR.T_drew)); exact M.TR.T_mono HO_5.out (fun _ hk => ⟨hk.1.1.1, ⟨hk.1.1.2, ⟨hk.2, hk.1.2⟩⟩⟩))); (case aS => exact (bF_ hB_)); (case aL => have := LMc14.out; omega); intro v751 w20 ho hb hg hat; rw [← Ny750.out] at ho; replace HO_10 := A_ (Kd.R_after (ok := (fun k_ => (w.heap.size ≤ k_) ∧ some k_ ≠ (.slice Ao18 t746.length co18 : Value).ownBlock ∧ k_ ≠ gb745)) (rw_ (Kd.R_mono HO_10.out (fun _ hk => ⟨⟨hk.1.1.1, ⟨hk.2, hk.1.2⟩⟩, hk.1.1.2⟩))) hg hat); replace HL744_0 := A_ (Kd.R_after (ok := (fun k_ => (w.heap.size ≤ k_) ∧ some k_ ≠ (.slice (some ad744) t741.length co7 : Value).ownBlock ∧ some k_ ≠ (.slice Ao18 t746.length co18 : Value).ownBlock ∧ k_ ≠ gb745)) (rw_ (Kd.R_mono HL744_0.out (fun _ hk => ⟨⟨hk.1.1.1.1, ⟨hk.1.1.2, ⟨hk.2, hk.1.2⟩⟩⟩, hk.1.1.1.2⟩))) hg hat); replace HL744_1 := A_ (Kd.R_after (ok := (fun k_ => (w.heap.size ≤ k_) ∧ some k_ ≠ (.slice (some ad744) t741.length co7 : Value).ownBlock ∧ some k_ ≠ (.slice Ao18 t746.length co18 : Value).ownBlock ∧ k_ ≠ gb745)) (rw_ (Kd.R_mono HL744_1.out (fun _ hk => ⟨⟨hk.1.1.1.1, ⟨hk.1.1.2, ⟨hk.2, hk.1.2⟩⟩⟩, hk.1.1.1.2⟩))) hg hat); replace BK745 := A_ (blk_grown (kk_ BK745) hg (M.TR.T_away HO_5.out (fun _ hk => hk.1.2))); replace HO748 := A_ (Kd.R_over' (rr_ HO748) (M.TR.T_typed (by (with_reducible repeat (first | apply M.TR.T_alloc | apply M.TR.T_drewN | apply M.TR.T_drew)); exact HO_5.out)) (by decide) hg); replace HB := A_ hb; have HO752 := A_ ho; clear HO_5; clear ho hb hg hat))
     go_roundg k1
     case measure => have := HK1.out; omega
     case rel => exact ⟨(y750), (wrap64 (x12_1 + 1)), qc_, H', ⟨by have := HK1.out; omega⟩, ⟨M.TR.T_up (by (with_reducible repeat (first | apply M.TR.T_alloc | apply M.TR.T_drewN | apply M.TR.T_drew)); exact M.TR.T_mono HO752.out (fun _ hk => ⟨hk.1, hk.2.1⟩)) LW_.out⟩, ⟨(rw_ (Kd.R_mono HO_10.out (fun _ hk => ⟨hk.1.1, hk.2⟩)))⟩, ⟨hB_⟩⟩
    ·replace c13 := Bool.eq_false_iff.mpr c13
     subst c13
     have H1 : (Z21.l0 k1 l1 x5_1 t741 (t741.length : Int) (wrap64 (x12_1 + 1))) = some r := by rw [if_neg (show ¬ (false = true) by decide)] at H; exact H
     clear H
     have H := H1
     clear H1
     have H' := A_ H
     clear H
     have p744 : 0 ≤ (x12_1 : Int) := oB_ qe_
     have q744 : x12_1 < (t741.length : Int) := oB_ qe_
     obtain ⟨ad744, A744_0, c744_0, A744_1, c744_1, e744, hx744_0, hx744_1, hl744_0, hi744_0, hl744_1, hi744_1⟩ := at_T38 (Kd.S_reads' (d := k38) (show Kd.S k38 38 _ w.heap.size _ _ t741 from ⟨f_, HO_10.out⟩)).2.2 x12_1 p744 q744
     cases e744
     obtain ⟨gl0_, gl1_, gne_, gf0_, gf1_⟩ := M.TR.get_T HO_10.out x12_1 p744 q744 hx744_0 hx744_1
     have HL744_0 := A_ gl0_
     have HL744_1 := A_ gl1_
     have NE_ := A_ gne_
     have F0_ := A_ gf0_
     have F1_ := A_ gf1_
     have LW_ := A_ (M.TR.idx_up (d := Kd.tag f_ k38) HO_10.out p744 (by rw [List.length_zipIdx]; exact q744))
     clear gl0_ gl1_ gne_ gf0_ gf1_
     have HR744_0 := A_ hi744_0
     have HC744_0 := A_ hl744_0
     clear hi744_0 hl744_0
     have HR744_1 := A_ hi744_1
     have HC744_1 := A_ hl744_1
     clear hi744_1 hl744_1
     replace p744 := eq_true p744
     replace q744 := eq_true q744
     go_wp2_with (first | ((with_reducible refine gB_ (N := 7) rfl ?_); refine bx_ 7 #[.slice none 0 0, .slice none 0 0] 38 ?_; intro gb745 hg w21 hbox hb; replace HO_5 := A_ (M.TR.T_below (M.TR.T_elderB (by (with_reducible repeat (first | apply M.TR.T_alloc | apply M.TR.T_drewN | apply M.TR.T_drew)); exact HO_5.out) gb745 (Nat.le_of_eq hg.symm)) hb); replace HO_10 := A_ (rD_ (Kd.R_elderB (rr_ HO_10) gb745 (Nat.le_of_eq hg.symm)) hb); replace HL744_0 := A_ (rD_ (Kd.R_elderB (rr_ HL744_0) gb745 (Nat.le_of_eq hg.symm)) hb); replace HL744_1 := A_ (rD_ (Kd.R_elderB (rr_ HL744_1) gb745 (Nat.le_of_eq hg.symm)) hb); replace HR744_0 := A_ (cD_ (by repeat (first | (with_reducible exact HR744_0.out) | (with_reducible refine cA_ ?_ _) | (with_reducible refine cB_ ?_ _) | (with_reducible refine cC_ ?_) | exact HR744_0.out)) hb); replace HR744_1 := A_ (cD_ (by repeat (first | (with_reducible exact HR744_1.out) | (with_reducible refine cA_ ?_ _) | (with_reducible refine cB_ ?_ _) | (with_reducible refine cC_ ?_) | exact HR744_1.out)) hb); have BK745 := A_ hbox; have GW745 := gw_ w hg; have GE745 := GW745; replace HB := b1_ hb; clear hb hbox hg; obtain ⟨hcz22_0, hcz22_1, hfz22_0, hfz22_1⟩ := c2_ BK745) | ((with_reducible refine gA_ (f := 23) rfl ?_); refine gL_ (some 17) Tryz.func23 #[.agg #[.slice A744_0 ((rd_T38 t741 x12_1).f0).length c744_0, .slice A744_1 ((rd_T38 t741 x12_1).f1).length c744_1]] rfl qa_ ?_; (with_reducible refine (Z28.calls k1 _ _ ((rd_T38 t741 x12_1).f0) _ _ ((rd_T38 t741 x12_1).f1) t746 _ (cw_ ((Kd.R_reads' (rw_ (Kd.R_mono (Kd.R_far (p := ⟨gb745, 1, none⟩) (Kd.R_far (p := ⟨gb745, 0, none⟩) (Kd.R_mono HL744_0.out (fun k_ hk => (⟨hk, hk.2⟩ : _ ∧ k_ ≠ gb745))) (fun _ hk => hk.2) (.slice A744_0 ((rd_T38 t741 x12_1).f0).length c744_0)) (fun _ hk => hk.2) (.slice A744_1 ((rd_T38 t741 x12_1).f1).length c744_1)) (fun _ h_ => h_.1)))).2.2)) HC744_0.out (cw_ ((Kd.R_reads' (rw_ (Kd.R_mono (Kd.R_far (p := ⟨gb745, 1, none⟩) (Kd.R_far (p := ⟨gb745, 0, none⟩) (Kd.R_mono HL744_1.out (fun k_ hk => (⟨hk, hk.2⟩ : _ ∧ k_ ≠ gb745))) (fun _ hk => hk.2) (.slice A744_0 ((rd_T38 t741 x12_1).f0).length c744_0)) (fun _ hk => hk.2) (.slice A744_1 ((rd_T38 t741 x12_1).f1).length c744_1)) (fun _ h_ => h_.1)))).2.2)) HC744_1.out A11.out).mono ?_); rintro e w23 ⟨v747, rfl, ho0, hb⟩; refine ⟨_, rfl, ?_⟩; replace HO_5 := A_ (M.TR.T_elder' (by (with_reducible repeat (first | apply M.TR.T_alloc | apply M.TR.T_drewN | apply M.TR.T_drew)); exact (M.TR.T_mono (M.TR.T_far (p := ⟨gb745, 1, none⟩) (M.TR.T_far (p := ⟨gb745, 0, none⟩) (M.TR.T_mono HO_5.out (fun k_ hk => (⟨hk, hk.2⟩ : _ ∧ k_ ≠ gb745))) (fun _ hk => hk.2) (.slice A744_0 ((rd_T38 t741 x12_1).f0).length c744_0)) (fun _ hk => hk.2) (.slice A744_1 ((rd_T38 t741 x12_1).f1).length c744_1)) (fun _ h_ => h_.1))) (Kd.R_base ho0) hb); replace HO_10 := A_ (Kd.R_elder' (rw_ (Kd.R_mono (Kd.R_far (p := ⟨gb745, 1, none⟩) (Kd.R_far (p := ⟨gb745, 0, none⟩) (Kd.R_mono HO_10.out (fun k_ hk => (⟨hk, hk.2⟩ : _ ∧ k_ ≠ gb745))) (fun _ hk => hk.2) (.slice A744_0 ((rd_T38 t741 x12_1).f0).length c744_0)) (fun _ hk => hk.2) (.slice A744_1 ((rd_T38 t741 x12_1).f1).length c744_1)) (fun _ h_ => h_.1))) (Kd.R_base ho0) hb); have HO748 := A_ (rE_ (Kd.R_newM (M := fun k_ => (w.heap.size ≤ k_)) ho0 (bF_ hB_) (fun k_ h_ => h_)) (bF_ hB_)); replace HR744_0 := A_ (cD_ ((Kd.R_reads' (rw_ (Kd.R_mono (Kd.R_far (p := ⟨gb745, 1, none⟩) (Kd.R_far (p := ⟨gb745, 0, none⟩) (Kd.R_mono HL744_0.out (fun k_ hk => (⟨hk, hk.2⟩ : _ ∧ k_ ≠ gb745))) (fun _ hk => hk.2) (.slice A744_0 ((rd_T38 t741 x12_1).f0).length c744_0)) (fun _ hk => hk.2) (.slice A744_1 ((rd_T38 t741 x12_1).f1).length c744_1)) (fun _ h_ => h_.1)))).2.2) hb); replace HL744_0 := A_ (Kd.R_elder' (rw_ (Kd.R_mono (Kd.R_far (p := ⟨gb745, 1, none⟩) (Kd.R_far (p := ⟨gb745, 0, none⟩) (Kd.R_mono HL744_0.out (fun k_ hk => (⟨hk, hk.2⟩ : _ ∧ k_ ≠ gb745))) (fun _ hk => hk.2) (.slice A744_0 ((rd_T38 t741 x12_1).f0).length c744_0)) (fun _ hk => hk.2) (.slice A744_1 ((rd_T38 t741 x12_1).f1).length c744_1)) (fun _ h_ => h_.1))) (Kd.R_base ho0) hb); replace HR744_1 := A_ (cD_ ((Kd.R_reads' (rw_ (Kd.R_mono (Kd.R_far (p := ⟨gb745, 1, none⟩) (Kd.R_far (p := ⟨gb745, 0, none⟩) (Kd.R_mono HL744_1.out (fun k_ hk => (⟨hk, hk.2⟩ : _ ∧ k_ ≠ gb745))) (fun _ hk => hk.2) (.slice A744_0 ((rd_T38 t741 x12_1).f0).length c744_0)) (fun _ hk => hk.2) (.slice A744_1 ((rd_T38 t741 x12_1).f1).length c744_1)) (fun _ h_ => h_.1)))).2.2) hb); replace HL744_1 := A_ (Kd.R_elder' (rw_ (Kd.R_mono (Kd.R_far (p := ⟨gb745, 1, none⟩) (Kd.R_far (p := ⟨gb745, 0, none⟩) (Kd.R_mono HL744_1.out (fun k_ hk => (⟨hk, hk.2⟩ : _ ∧ k_ ≠ gb745))) (fun _ hk => hk.2) (.slice A744_0 ((rd_T38 t741 x12_1).f0).length c744_0)) (fun _ hk => hk.2) (.slice A744_1 ((rd_T38 t741 x12_1).f1).length c744_1)) (fun _ h_ => h_.1))) (Kd.R_base ho0) hb); replace BK745 := A_ (kE_ (g := gb745) (o := .cells #[.slice A744_0 ((rd_T38 t741 x12_1).f0).length c744_0, .slice A744_1 ((rd_T38 t741 x12_1).f1).length c744_1] 38 (0, 0)) qp_ hb); replace HB := b1_ hb; clear hb ho0; obtain ⟨Ao24, co24, eo24⟩ := Kd.R_slice HO748.out; subst eo24) | ((with_reducible refine gA_ (f := 28) rfl ?_); refine gL_ (some 19) Tryz.func28 #[.slice Ao24 t746.length co24, .slice A1 l1.length c1] rfl qa_ ?_; (with_reducible refine (Z44.calls k1 _ _ t746 _ _ l1 false _ (cr_ HO748) ((Kd.R_reads' HO748.out).2.1) (cb_ HR1) HC1.out A12.out).mono ?_); rintro e w' ⟨rfl, ⟨nd, rfl⟩⟩; refine ⟨_, rfl, ?_⟩))
     go_roundg k1
     case measure => have := HK1.out; omega
     case rel => exact ⟨(x5_1), (wrap64 (x12_1 + 1)), qc_, H', ⟨by have := HK1.out; omega⟩, ⟨M.TR.T_up (by (with_reducible repeat (first | apply M.TR.T_alloc | apply M.TR.T_drewN | apply M.TR.T_drew)); exact M.TR.T_mono HO_5.out (fun _ hk => ⟨hk.1.1.1, hk.1.1.2⟩)) (by have := LW_.out; omega)⟩, ⟨(rw_ (Kd.R_mono HO_10.out (fun _ hk => ⟨hk.1.1.1, hk.1.1.2⟩)))⟩, ⟨hB_⟩⟩
   ·rw [if_neg c8] at H
    have c8b0 := oD_ c8
    clear c8
    obtain rfl := Option.some.inj H
    go_wp2
    go_ret
    exact ⟨_, qb_, M.TR.T_S (by (with_reducible repeat (first | apply M.TR.T_alloc | apply M.TR.T_drewN | apply M.TR.T_drew)); exact M.TR.T_mono HO_5.out (fun _ _ => trivial)), hB_⟩
end Go.Proofs.YtoijcallajegfaaGreat.A
end
