/- Lemmas for the row FnCylinders: the program's functions told as plain functions, and plain mathematics. No conditions. -/
import Derived.Test.YtbdnellgioimbaaQFnCylinders4
section
/- The tests of surfaces, program and reference, come to one plain test. No conditions. -/
namespace Go.Proofs.Ytbdnellgioimbaa.M
set_option linter.unusedVariables false
set_option linter.unusedSimpArgs false
open Go.RowKit Go.Proofs.YtbdnellgioimbaaW.PrintWords Go.Proofs.YtbdnellgioimbaaW.PrintLast Go.Proofs.YtbdnellgioimbaaW.PrintMore Go.Proofs.Ytbdnellgioimbaa.A
theorem I_pair (a b : Nat) : ([(a : Int), (b : Int)] : List Int) = I [a, b] := rfl
theorem I_len' (l : List Nat) : ((I l).length : Int) = (l.length : Int) := by rw [I_len]
theorem st1_I (out : List Nat) (x : Nat) : I (st1 out x) = if (x : Int) ∈ I out then I out else I out ++ [(x : Int)] := by
  unfold st1
  by_cases h : x ∈ out
  · rw [if_pos h, if_pos (mem_I.mpr h)]
  · rw [if_neg h, if_neg (fun k => h (mem_I.mp k)), I_snoc]
theorem reach_one (p q out pr : List Nat) (a : Nat) (j : Nat) (hj : j < pr.length) (hp : pr.length ≤ 2) (hl : out.length ≤ 1000) (r : List Int)
    (H : Ev (fun k => spec_l02Reach.l1 k (I p) (I q) (I (st1 out (g pr j))) (a : Int) (I pr) (pr.length : Int) ((j + 1 : Nat) : Int)) r) :
    Ev (fun k => spec_l02Reach.l1 k (I p) (I q) (I out) (a : Int) (I pr) (pr.length : Int) (j : Int)) r := by
  refine ev_succ ?_
  have h1 : (j : Int) < (pr.length : Int) := by omega
  have h2 : (0 : Int) ≤ (j : Int) := by omega
  have h3 := w64s j (by omega)
  have h4 : (I out).length < 17592186044416 := by rw [I_len]; omega
  have hh := has_ev (I out) ((g pr j : Nat) : Int) (by rw [I_len]; omega)
  simp only [spec_l02Reach.l1, h1, h2, h3, h4, rdI, I_len', if_true]
  refine Ev.bind hh ?_
  rw [st1_I] at H
  by_cases hm : ((g pr j : Nat) : Int) ∈ I out
  · rw [if_pos hm] at H
    simp only [hm, decide_true, if_true]
    exact H
  · rw [if_neg hm] at H
    simp only [hm, decide_false, Bool.false_eq_true, if_false]
    exact H
theorem reach_loop {p q : List Nat} (hp : IsP p) (hq : IsP q) (hl : q.length = p.length) (h24 : p.length ≤ 24) (f : Nat) : ∀ (a : Nat) (out : List Nat), RInv p.length out → a ≤ out.length → p.length < f + a →
    Ev (fun k => spec_l02Reach.l0 k (I p) (I q) (I out) (a : Int)) (I (bfs p q f a out)) := by
  induction f with
  | zero =>
    intro a out hr ha hf
    have := hr.le
    omega
  | succ f ih =>
    intro a out hr ha hf
    have hle := hr.le
    refine ev_succ ?_
    by_cases h : a < out.length
    · have h1 : (a : Int) < (out.length : Int) := by omega
      have h2 : (0 : Int) ≤ (a : Int) := by omega
      have hx := hr.g h
      have h3 : ((g out a : Nat) : Int) < (p.length : Int) := by omega
      have h4 : (0 : Int) ≤ ((g out a : Nat) : Int) := by omega
      have h5 : ((g out a : Nat) : Int) < (q.length : Int) := by omega
      have h6 := w64s a (by omega)
      simp only [spec_l02Reach.l0, h1, h2, h3, h4, h5, rdI, I_len', if_true, Option.bind_some, I_pair]
      have r1 := hr.st (g_lt hp hx)
      have r2 := r1.st (x := g q (g out a)) (by have := g_lt hq (i := g out a) (by omega); omega)
      have hb : bfs p q (f + 1) a out = bfs p q f (a + 1) (st1 (st1 out (g p (g out a))) (g q (g out a))) := by
        rw [bfs, if_pos h]
      rw [hb]
      have i1 := ih (a + 1) _ r2 (by have := st1_len out (g p (g out a)); have := st1_len (st1 out (g p (g out a))) (g q (g out a)); omega) (by omega)
      refine reach_one p q out [g p (g out a), g q (g out a)] a 0 (by simp) (by simp) (by omega) _ ?_
      refine reach_one p q _ [g p (g out a), g q (g out a)] a 1 (by simp) (by simp) (by have := r1.le; simp only [g, List.getD_cons_zero] at this ⊢; omega) _ ?_
      refine ev_succ ?_
      have h7 : ¬ (((1 + 1 : Nat) : Int) < (([g p (g out a), g q (g out a)] : List Nat).length : Int)) := by simp
      simp only [spec_l02Reach.l1, h7, h6, if_false]
      exact i1
    · have h1 : ¬ ((a : Int) < (out.length : Int)) := by omega
      have hb : bfs p q (f + 1) a out = out := by rw [bfs, if_neg h]
      rw [hb]
      simp only [spec_l02Reach.l0, h1, I_len', if_false]
      exact Ev.now _
theorem reach_ev {p q : List Nat} (hp : IsP p) (hq : IsP q) (hl : q.length = p.length) (h24 : p.length ≤ 24) (s : Nat) (hs : s < p.length) : Ev (fun k => spec_l02Reach.f k (I p) (I q) (s : Int)) (I (reach p q s)) := by
  unfold spec_l02Reach.f reach
  exact reach_loop hp hq hl h24 (p.length + 1) 0 [s] ⟨by simp, by simpa using hs⟩ (by simp) (by omega)
theorem len_ne_false {r u : List Int} (h : r.length ≠ u.length) : surfB r u = false := by
  unfold surfB
  simp [h]
theorem surfB_mk {r u : List Int} (h1 : permB r = true) (h2 : permB u = true) (h3 : r.length = u.length) (h4 : 0 < r.length) : surfB r u = ((reach (N r) (N u) 0).length == r.length) := by
  unfold surfB
  simp [h1, h2, h3, h4]
  intro _
  omega
theorem spec_trans (r u : List Int) : Ev (fun k => spec_IsTransitive.f k r u) (surfB r u) := by
  unfold spec_IsTransitive.f
  refine Ev.bind (spec_permOk r) ?_
  by_cases h1 : permB r = true
  · simp only [h1, if_true]
    refine Ev.bind (spec_permOk u) ?_
    by_cases h2 : permB u = true
    · simp only [h2, if_true]
      by_cases h3 : (r.length : Int) = (u.length : Int)
      · have h3' : r.length = u.length := by omega
        by_cases h4 : (r.length : Int) > 0
        · have h4' : 0 < r.length := by omega
          rw [surfB_mk h1 h2 h3' h4']
          obtain ⟨p, rfl, a1, a2⟩ := PI_nat (of_decide_eq_true h1)
          obtain ⟨q, rfl, b1, b2⟩ := PI_nat (of_decide_eq_true h2)
          rw [I_len, I_len] at h3'
          rw [I_len] at h4'
          have := reach_ev a1 b1 h3'.symm a2 0 h4'
          simp only [h3, h4, if_true]
          rw [h3] at h4
          simp only [h4, if_true]
          refine Ev.bind this ?_
          rw [N_I, N_I]
          have e : (((I (reach p q 0)).length : Int) == ((I q).length : Int)) = ((reach p q 0).length == (I p).length) := by
            rw [I_len, I_len, I_len, Bool.eq_iff_iff, beq_iff_eq, beq_iff_eq]
            omega
          rw [← h3] at e
          simp only [h3] at e
          rw [← e]
          exact Ev.now _
        · simp only [h3, if_true]
          rw [h3] at h4
          simp only [h4, if_false]
          have : surfB r u = false := by
            unfold surfB
            have : ¬ 0 < r.length := by omega
            simp [this]
          rw [this]
          exact Ev.now _
      · simp only [h3, if_false]
        rw [len_ne_false (by omega)]
        exact Ev.now _
    · have h2' := Bool.eq_false_iff.mpr h2
      simp only [h2', Bool.false_eq_true, if_false]
      have : surfB r u = false := by unfold surfB; simp [h2']
      rw [this]
      exact Ev.now _
  · have h1' := Bool.eq_false_iff.mpr h1
    simp only [h1', Bool.false_eq_true, if_false]
    have : surfB r u = false := by unfold surfB; simp [h1']
    rw [this]
    exact Ev.now _
theorem spec_surf (r u : List Int) : Ev (fun k => spec_SurfaceOk.f k r u) (surfB r u) := by
  unfold spec_SurfaceOk.f
  exact Ev.bind (spec_trans r u) (Ev.now _)
def Marks (n : Nat) (s : List Bool) (out : List Nat) : Prop := s.length = n ∧ ∀ x, x < n → (s.getD x false = true ↔ x ∈ out)
theorem Marks.add {n : Nat} {s : List Bool} {out : List Nat} {x : Nat} (h : Marks n s out) (hx : x < n) : Marks n (s.set x true) (out ++ [x]) := by
  refine ⟨by rw [List.length_set]; exact h.1, fun y hy => ?_⟩
  rw [getD_set s x y (by rw [h.1]; exact hx)]
  by_cases e : x = y
  · subst e
    simp
  · rw [if_neg e, h.2 y hy]
    have : ¬ y = x := fun k => e k.symm
    simp [this]
theorem trans_one (p q out pr : List Nat) (s : List Bool) (a : Nat) (j : Nat) (hj : j < pr.length) (hp : pr.length ≤ 2) (hl : out.length ≤ 1000) (hm : Marks p.length s out) (hx : g pr j < p.length) (r : Bool)
    (H : ∀ s', Marks p.length s' (st1 out (g pr j)) → Ev (fun k => impl_IsTransitive.l1 k (I p) (I q) s' (I (st1 out (g pr j))) (a : Int) (I pr) (pr.length : Int) ((j + 1 : Nat) : Int)) r) :
    Ev (fun k => impl_IsTransitive.l1 k (I p) (I q) s (I out) (a : Int) (I pr) (pr.length : Int) (j : Int)) r := by
  refine ev_succ ?_
  have h1 : (j : Int) < (pr.length : Int) := by omega
  have h2 : (0 : Int) ≤ (j : Int) := by omega
  have h3 := w64s j (by omega)
  have h4 : (I out).length < 17592186044416 := by rw [I_len]; omega
  have h5 : (0 : Int) ≤ ((g pr j : Nat) : Int) := by omega
  have h6 : ((g pr j : Nat) : Int) < (s.length : Int) := by rw [hm.1]; omega
  simp only [impl_IsTransitive.l1, h1, h2, h3, h4, h5, h6, rdI, I_len', rdOf_nat, if_true, Int.toNat_natCast]
  by_cases hin : g pr j ∈ out
  · have hs := (hm.2 _ hx).mpr hin
    have e : st1 out (g pr j) = out := by unfold st1; rw [if_pos hin]
    have := H s (by rw [e]; exact hm)
    rw [e] at this
    simp only [hs, if_true]
    exact this
  · have hs : s.getD (g pr j) false = false := Bool.eq_false_iff.mpr (fun h => hin ((hm.2 _ hx).mp h))
    have e : st1 out (g pr j) = out ++ [g pr j] := by unfold st1; rw [if_neg hin]
    have := H (s.set (g pr j) true) (by rw [e]; exact hm.add hx)
    rw [e, ← I_snoc] at this
    simp only [hs, Bool.false_eq_true, if_false]
    exact this
theorem trans_loop {p q : List Nat} (hp : IsP p) (hq : IsP q) (hl : q.length = p.length) (h24 : p.length ≤ 24) (f : Nat) : ∀ (a : Nat) (out : List Nat) (s : List Bool), RInv p.length out → Marks p.length s out → a ≤ out.length → p.length < f + a →
    Ev (fun k => impl_IsTransitive.l0 k (I p) (I q) s (I out) (a : Int)) ((bfs p q f a out).length == p.length) := by
  induction f with
  | zero =>
    intro a out s hr hm ha hf
    have := hr.le
    omega
  | succ f ih =>
    intro a out s hr hm ha hf
    have hle := hr.le
    refine ev_succ ?_
    by_cases h : a < out.length
    · have h1 : (a : Int) < (out.length : Int) := by omega
      have h2 : (0 : Int) ≤ (a : Int) := by omega
      have hx := hr.g h
      have h3 : ((g out a : Nat) : Int) < (p.length : Int) := by omega
      have h4 : (0 : Int) ≤ ((g out a : Nat) : Int) := by omega
      have h5 : ((g out a : Nat) : Int) < (q.length : Int) := by omega
      have h6 := w64s a (by omega)
      simp only [impl_IsTransitive.l0, h1, h2, h3, h4, h5, rdI, I_len', if_true, Option.bind_some, I_pair]
      have hg1 := g_lt hp hx
      have hg2 : g q (g out a) < p.length := by have := g_lt hq (i := g out a) (by omega); omega
      have r1 := hr.st hg1
      have r2 := r1.st hg2
      have hb : bfs p q (f + 1) a out = bfs p q f (a + 1) (st1 (st1 out (g p (g out a))) (g q (g out a))) := by
        rw [bfs, if_pos h]
      rw [hb]
      refine trans_one p q out [g p (g out a), g q (g out a)] s a 0 (by simp) (by simp) (by omega) hm hg1 _ (fun s1 hm1 => ?_)
      refine trans_one p q _ [g p (g out a), g q (g out a)] s1 a 1 (by simp) (by simp) (by have := r1.le; simp only [g, List.getD_cons_zero] at this ⊢; omega) hm1 hg2 _ (fun s2 hm2 => ?_)
      refine ev_succ ?_
      have h7 : ¬ (((1 + 1 : Nat) : Int) < (([g p (g out a), g q (g out a)] : List Nat).length : Int)) := by simp
      simp only [impl_IsTransitive.l1, h7, h6, if_false]
      exact ih (a + 1) _ s2 r2 hm2 (Nat.le_trans (by omega : a + 1 ≤ out.length) (Nat.le_trans (st1_len _ _) (st1_len _ _))) (by omega)
    · have h1 : ¬ ((a : Int) < (out.length : Int)) := by omega
      have hb : bfs p q (f + 1) a out = out := by rw [bfs, if_neg h]
      rw [hb]
      simp only [impl_IsTransitive.l0, h1, I_len', if_false]
      have e : ((out.length : Int) == (p.length : Int)) = (out.length == p.length) := by
        rw [Bool.eq_iff_iff, beq_iff_eq, beq_iff_eq]
        omega
      rw [e]
      exact Ev.now _
theorem j0_true (r u : List Int) : Ev (fun k => impl_IsTransitive.j0 k r u true) false := by
  refine ev_succ ?_
  simp only [impl_IsTransitive.j0, if_true]
  exact Ev.now _
theorem impl_trans (r u : List Int) : Ev (fun k => impl_IsTransitive.f k r u) (surfB r u) := by
  unfold impl_IsTransitive.f
  refine Ev.bind (impl_permOk r) ?_
  by_cases h1 : permB r = true
  · simp only [h1, if_true]
    refine Ev.bind (impl_permOk u) ?_
    by_cases h2 : permB u = true
    · simp only [h2, if_true]
      by_cases h3 : (r.length : Int) = (u.length : Int)
      · have h3' : r.length = u.length := by omega
        simp only [h3, if_true]
        by_cases h4 : 0 < r.length
        · rw [surfB_mk h1 h2 h3' h4]
          obtain ⟨p, rfl, a1, a2⟩ := PI_nat (of_decide_eq_true h1)
          obtain ⟨q, rfl, b1, b2⟩ := PI_nat (of_decide_eq_true h2)
          rw [I_len, I_len] at h3'
          rw [I_len] at h4
          refine ev_succ ?_
          have e0 : ((q.length : Int) == 0) = false := by rw [beq_eq_false_iff_ne]; omega
          have e1 : (0 : Int) ≤ (p.length : Int) := by omega
          have e2 : ((p.length : Int)).toNat ≤ 281474976710656 := by omega
          have e3 : (0 : Int) < ((List.replicate p.length false).length : Int) := by rw [List.length_replicate]; omega
          simp only [impl_IsTransitive.j0, e0, I_len', e1, e2, Bool.false_eq_true, if_true, if_false, Option.bind_some, Int.toNat_natCast, e3]
          simp only [Int.toNat_natCast] at e2
          simp only [e2, if_true]
          rw [N_I, N_I, I_len]
          refine trans_loop a1 b1 h3'.symm a2 (p.length + 1) 0 [0] _ ⟨by simp, by simpa using h4⟩ ?_ (by simp) (by omega)
          refine ⟨by simp, fun x hx => ?_⟩
          have : (0 : Int).toNat = 0 := rfl
          rw [this, getD_set _ 0 x (by simp; omega)]
          by_cases e : 0 = x
          · subst e
            simp
          · rw [if_neg e]
            have h0 : ¬ x = 0 := fun h => e h.symm
            have : (List.replicate p.length false).getD x false = false := by
              rw [List.getD_eq_getElem?_getD, List.getElem?_replicate]
              simp [hx]
            rw [this]
            simp [h0]
        · have e0 : ((u.length : Int) == 0) = true := by rw [beq_iff_eq]; omega
          have : surfB r u = false := by unfold surfB; simp [h4]
          rw [this]
          simp only [e0]
          exact j0_true r u
      · simp only [h3, if_false]
        rw [len_ne_false (by omega)]
        exact j0_true r u
    · have h2' := Bool.eq_false_iff.mpr h2
      simp only [h2', Bool.false_eq_true, if_false]
      have : surfB r u = false := by unfold surfB; simp [h2']
      rw [this]
      exact j0_true r u
  · have h1' := Bool.eq_false_iff.mpr h1
    simp only [h1', Bool.false_eq_true, if_false]
    have : surfB r u = false := by unfold surfB; simp [h1']
    rw [this]
    exact j0_true r u
theorem impl_surf (r u : List Int) : Ev (fun k => impl_SurfaceOk.f k r u) (surfB r u) := by
  unfold impl_SurfaceOk.f
  exact Ev.bind (impl_trans r u) (Ev.now _)
end Go.Proofs.Ytbdnellgioimbaa.M
end
section
/- What every law does with its arguments; inverses. No conditions. -/
namespace Go.Proofs.Ytbdnellgioimbaa.M
set_option linter.unusedVariables false
set_option linter.unusedSimpArgs false
open Go.RowKit Go.Proofs.YtbdnellgioimbaaW.PrintWords Go.Proofs.YtbdnellgioimbaaW.PrintLast Go.Proofs.YtbdnellgioimbaaW.PrintMore Go.Proofs.Ytbdnellgioimbaa.A
theorem inv_of {p c : List Nat} (hp : IsP p) (hc : c.length = p.length) (h : ∀ j, j < p.length → g c (g p j) = j) : c = inv p := by
  refine ext_g (by rw [inv_len, hc]) (fun x hx => ?_)
  rw [hc] at hx
  rw [g_inv hx]
  have := h (ix p x) (ix_lt hp hx)
  rw [g_ix hp hx] at this
  exact this
theorem inv_step {p c : List Nat} (hp : IsP p) {i : Nat} (hi : i < p.length) (hc : c.length = p.length) (h : ∀ j, j < i → g c (g p j) = j) : ∀ j, j < i + 1 → g (c.set (g p i) i) (g p j) = j := by
  intro j hj
  rw [g_set (by rw [hc]; exact g_lt hp hi)]
  by_cases e : j = i
  · subst e
    simp
  · rw [if_neg (fun k => e (g_inj hp (by omega) hi k.symm))]
    exact h j (by omega)
theorem spec_inv {p : List Nat} (hp : IsP p) (h24 : p.length ≤ 24) : Ev (fun k => spec_l02Inverse.f k (I p)) (I (inv p)) := by
  unfold spec_l02Inverse.f
  have H : ∀ (d i : Nat) (c : List Nat), i + d = p.length → c.length = p.length → (∀ j, j < i → g c (g p j) = j) → Ev (fun k => spec_l02Inverse.l0 k (I c) (I p) (p.length : Int) (i : Int)) (I (inv p)) := by
    intro d
    induction d with
    | zero =>
      intro i c h hc hx
      refine ev_succ ?_
      have h1 : ¬ ((i : Int) < (p.length : Int)) := by omega
      rw [← inv_of hp hc (fun j hj => hx j (by omega))]
      simp only [spec_l02Inverse.l0, h1, if_false]
      exact Ev.now _
    | succ d ih =>
      intro i c h hc hx
      refine ev_succ ?_
      have hi : i < p.length := by omega
      have h1 : (i : Int) < (p.length : Int) := by omega
      have h2 : (0 : Int) ≤ (i : Int) := by omega
      have h3 := w64s i (by omega)
      have h4 : (0 : Int) ≤ ((g p i : Nat) : Int) := by omega
      have h5 : ((g p i : Nat) : Int) < (c.length : Int) := by have := g_lt hp hi; omega
      simp only [spec_l02Inverse.l0, h1, h2, h3, h4, h5, rdI, I_len', I_set, if_true, Int.toNat_natCast]
      exact ih (i + 1) _ (by omega) (by rw [List.length_set]; exact hc) (inv_step hp hi hc hx)
  have h1 : (0 : Int) ≤ (p.length : Int) := by omega
  have h2 : p.length ≤ 35184372088832 := by omega
  simp only [I_len', h1, h2, if_true, Int.toNat_natCast]
  have := H p.length 0 (List.replicate p.length 0) (by omega) (by simp) (fun j hj => by omega)
  rw [I_rep] at this
  exact this
theorem impl_inv {p : List Nat} (hp : IsP p) (h24 : p.length ≤ 24) : Ev (fun k => impl_InversePerm.f k (I p)) (I (inv p)) := by
  unfold impl_InversePerm.f
  have H : ∀ (d i : Nat) (c : List Nat), i + d = p.length → c.length = p.length → (∀ j, j < i → g c (g p j) = j) → Ev (fun k => impl_InversePerm.l0 k (I c) (I p) (p.length : Int) (i : Int)) (I (inv p)) := by
    intro d
    induction d with
    | zero =>
      intro i c h hc hx
      refine ev_succ ?_
      have h1 : ¬ ((i : Int) < (p.length : Int)) := by omega
      rw [← inv_of hp hc (fun j hj => hx j (by omega))]
      simp only [impl_InversePerm.l0, h1, if_false]
      exact Ev.now _
    | succ d ih =>
      intro i c h hc hx
      refine ev_succ ?_
      have hi : i < p.length := by omega
      have h1 : (i : Int) < (p.length : Int) := by omega
      have h2 : (0 : Int) ≤ (i : Int) := by omega
      have h3 := w64s i (by omega)
      have h4 : (0 : Int) ≤ ((g p i : Nat) : Int) := by omega
      have h5 : ((g p i : Nat) : Int) < (c.length : Int) := by have := g_lt hp hi; omega
      simp only [impl_InversePerm.l0, h1, h2, h3, h4, h5, rdI, I_len', I_set, if_true, Int.toNat_natCast]
      exact ih (i + 1) _ (by omega) (by rw [List.length_set]; exact hc) (inv_step hp hi hc hx)
  refine Ev.bind (impl_permOk (I p)) ?_
  have h0 : permB (I p) = true := permB_I.mpr ⟨hp, h24⟩
  have h1 : (0 : Int) ≤ (p.length : Int) := by omega
  have h2 : p.length ≤ 35184372088832 := by omega
  simp only [h0, I_len', h1, h2, if_true, Int.toNat_natCast]
  have := H p.length 0 (List.replicate p.length 0) (by omega) (by simp) (fun j hj => by omega)
  rw [I_rep] at this
  exact this
end Go.Proofs.Ytbdnellgioimbaa.M
end
section
/- Plain mathematics: going round a permutation. No conditions. -/
namespace Go.Proofs.Ytbdnellgioimbaa.M
set_option linter.unusedVariables false
set_option linter.unusedSimpArgs false
def itr (p : List Nat) : Nat → Nat → Nat
  | 0, s => s
  | m + 1, s => g p (itr p m s)
theorem itr_lt {p : List Nat} (hp : IsP p) (m : Nat) {s : Nat} (hs : s < p.length) : itr p m s < p.length := by
  induction m with
  | zero => exact hs
  | succ m ih => exact g_lt hp ih
theorem itr_add (p : List Nat) (a b s : Nat) : itr p (a + b) s = itr p a (itr p b s) := by
  induction a with
  | zero => simp [itr]
  | succ a ih =>
    have e : a + 1 + b = (a + b) + 1 := by omega
    rw [e, itr, itr, ih]
theorem itr_back {p : List Nat} (hp : IsP p) {s : Nat} (hs : s < p.length) (i d : Nat) (h : itr p (i + d) s = itr p i s) : itr p d s = s := by
  induction i with
  | zero =>
    have e : 0 + d = d := by omega
    rw [e] at h
    exact h
  | succ i ih =>
    have e : i + 1 + d = (i + d) + 1 := by omega
    rw [e] at h
    exact ih (g_inj hp (itr_lt hp _ hs) (itr_lt hp _ hs) h)
theorem period {p : List Nat} (hp : IsP p) {s : Nat} (hs : s < p.length) : ∃ m, 1 ≤ m ∧ m ≤ p.length ∧ itr p m s = s := by
  apply Classical.byContradiction
  intro hn
  have hd : ((List.range (p.length + 1)).map (fun m => itr p m s)).Nodup := by
    refine List.pairwise_map.mpr ?_
    refine List.pairwise_iff_getElem.mpr ?_
    intro i j hi hj hij
    rw [List.length_range] at hi hj
    rw [List.getElem_range, List.getElem_range]
    intro e
    have : itr p (j - i) s = s := itr_back hp hs i (j - i) (by
      have e2 : i + (j - i) = j := by omega
      rw [e2]
      exact e.symm)
    exact hn ⟨j - i, by omega, by omega, this⟩
  have := nodup_le p.length _ hd (fun x hx => by
    obtain ⟨m, _, rfl⟩ := List.mem_map.mp hx
    exact itr_lt hp m hs)
  simp at this
  omega
def per (p : List Nat) (s : Nat) : Nat := (((List.range p.length).find? (fun m => itr p (m + 1) s == s)).getD 0) + 1
theorem per_spec {p : List Nat} (hp : IsP p) {s : Nat} (hs : s < p.length) : itr p (per p s) s = s ∧ per p s ≤ p.length ∧ ∀ m, 1 ≤ m → m < per p s → itr p m s ≠ s := by
  obtain ⟨m, m1, m2, m3⟩ := period hp hs
  unfold per
  cases h : (List.range p.length).find? (fun m => itr p (m + 1) s == s) with
  | none =>
    have := List.find?_eq_none.mp h (m - 1) (List.mem_range.mpr (by omega))
    have e : m - 1 + 1 = m := by omega
    rw [e, m3] at this
    simp at this
  | some a =>
    simp only [Option.getD_some]
    have h1 := List.find?_some h
    have h2 := List.mem_of_find?_eq_some h
    rw [List.mem_range] at h2
    refine ⟨by simpa using h1, by omega, fun m hm1 hm2 e => ?_⟩
    obtain ⟨_, as1, bs1, hb, hn⟩ := List.find?_eq_some_iff_append.mp h
    have hm : m - 1 ∈ as1 := by
      have hl : as1.length = a := by
        have e1 : (List.range p.length)[as1.length]? = some a := by rw [hb]; simp
        have := List.getElem?_eq_some_iff.mp e1
        obtain ⟨_, e2⟩ := this
        rw [List.getElem_range] at e2
        exact e2
      have e1 : (List.range p.length)[m - 1]? = some (m - 1) := by
        rw [List.getElem?_range]
        omega
      rw [hb, List.getElem?_append_left (by omega)] at e1
      exact List.mem_of_getElem? e1
    have := hn _ hm
    have e3 : m - 1 + 1 = m := by omega
    rw [e3, e] at this
    simp at this
theorem per_pos (p : List Nat) (s : Nat) : 1 ≤ per p s := by unfold per; omega
def orbTo (p : List Nat) (s m : Nat) : List Nat := (List.range m).map (fun k => itr p k s)
def orb (p : List Nat) (s : Nat) : List Nat := orbTo p s (per p s)
theorem mem_orbTo {p : List Nat} {s m x : Nat} : x ∈ orbTo p s m ↔ ∃ k, k < m ∧ itr p k s = x := by
  unfold orbTo
  simp
theorem orbTo_snoc (p : List Nat) (s m : Nat) : orbTo p s m ++ [itr p m s] = orbTo p s (m + 1) := by
  unfold orbTo
  rw [List.range_succ]
  simp
theorem orb_close {p : List Nat} (hp : IsP p) {s m : Nat} (hs : s < p.length) (hm : m < per p s) (h1 : 1 ≤ m) : itr p m s ∉ orbTo p s m := by
  intro h
  obtain ⟨k, hk, e⟩ := mem_orbTo.mp h
  have : itr p (m - k) s = s := itr_back hp hs k (m - k) (by
    have e2 : k + (m - k) = m := by omega
    rw [e2]
    exact e.symm)
  exact (per_spec hp hs).2.2 (m - k) (by omega) (by omega) this
theorem mem_orb {p : List Nat} (hp : IsP p) {s : Nat} (hs : s < p.length) {x : Nat} : x ∈ orb p s ↔ ∃ k, itr p k s = x := by
  constructor
  · intro h
    obtain ⟨k, _, e⟩ := mem_orbTo.mp h
    exact ⟨k, e⟩
  · intro ⟨k, e⟩
    have hper := per_spec hp hs
    have hpos := per_pos p s
    have hmod : ∀ k, itr p (k % per p s) s = itr p k s := by
      intro k
      have e1 : k % per p s + per p s * (k / per p s) = k := Nat.mod_add_div k (per p s)
      have hz : ∀ j, itr p (per p s * j) s = s := by
        intro j
        induction j with
        | zero => rfl
        | succ j ih =>
          have : per p s * (j + 1) = per p s * j + per p s := by rw [Nat.mul_add, Nat.mul_one]
          rw [this, itr_add, hper.1, ih]
      conv => rhs; rw [← e1]
      rw [itr_add, hz]
    exact mem_orbTo.mpr ⟨k % per p s, Nat.mod_lt _ (by omega), by rw [hmod, e]⟩
theorem orb_self {p : List Nat} (hp : IsP p) {s : Nat} (hs : s < p.length) : s ∈ orb p s := (mem_orb hp hs).mpr ⟨0, rfl⟩
theorem orb_lt {p : List Nat} (hp : IsP p) {s : Nat} (hs : s < p.length) {x : Nat} (h : x ∈ orb p s) : x < p.length := by
  obtain ⟨k, rfl⟩ := (mem_orb hp hs).mp h
  exact itr_lt hp k hs
theorem orb_sym {p : List Nat} (hp : IsP p) {s : Nat} (hs : s < p.length) {x : Nat} (h : x ∈ orb p s) : s ∈ orb p x := by
  obtain ⟨k, hk, e⟩ := mem_orbTo.mp h
  have hx := orb_lt hp hs h
  refine (mem_orb hp hx).mpr ⟨per p s - k, ?_⟩
  rw [← e, ← itr_add]
  have : per p s - k + k = per p s := by omega
  rw [this]
  exact (per_spec hp hs).1
theorem orb_trans {p : List Nat} (hp : IsP p) {s : Nat} (hs : s < p.length) {x y : Nat} (h : x ∈ orb p s) (k : y ∈ orb p x) : y ∈ orb p s := by
  have hx := orb_lt hp hs h
  obtain ⟨a, rfl⟩ := (mem_orb hp hs).mp h
  obtain ⟨b, rfl⟩ := (mem_orb hp hx).mp k
  exact (mem_orb hp hs).mpr ⟨b + a, itr_add p b a s⟩
def cyc (p : List Nat) : Nat → List (List Nat)
  | 0 => []
  | i + 1 => if ∃ c ∈ cyc p i, i ∈ c then cyc p i else cyc p i ++ [orb p i]
def cycles (p : List Nat) : List (List Nat) := cyc p p.length
theorem cyc_form (p : List Nat) (i : Nat) : ∀ c ∈ cyc p i, ∃ s, s < i ∧ c = orb p s := by
  induction i with
  | zero => intro c h; simp [cyc] at h
  | succ i ih =>
    intro c h
    unfold cyc at h
    split at h
    · obtain ⟨s, h1, h2⟩ := ih c h
      exact ⟨s, by omega, h2⟩
    · rcases List.mem_append.mp h with h | h
      · obtain ⟨s, h1, h2⟩ := ih c h
        exact ⟨s, by omega, h2⟩
      · exact ⟨i, by omega, by simpa using h⟩
theorem cyc_all {p : List Nat} (hp : IsP p) (i : Nat) (hi : i ≤ p.length) : ∀ x, x < i → ∃ c ∈ cyc p i, x ∈ c := by
  induction i with
  | zero => intro x h; omega
  | succ i ih =>
    intro x h
    unfold cyc
    by_cases e : x = i
    · subst e
      split
      · assumption
      · exact ⟨orb p x, by simp, orb_self hp (by omega)⟩
    · obtain ⟨c, h1, h2⟩ := ih (by omega) x (by omega)
      split
      · exact ⟨c, h1, h2⟩
      · exact ⟨c, List.mem_append.mpr (.inl h1), h2⟩
theorem orb_meet {p : List Nat} (hp : IsP p) {s t x : Nat} (hs : s < p.length) (ht : t < p.length) (h1 : x ∈ orb p s) (h2 : x ∈ orb p t) : t ∈ orb p s :=
  orb_trans hp hs h1 (orb_sym hp ht h2)
theorem cyc_new {p : List Nat} (hp : IsP p) {i : Nat} (hi : i < p.length) (h : ¬ ∃ c ∈ cyc p i, i ∈ c) {x : Nat} (hx : x ∈ orb p i) : ¬ ∃ c ∈ cyc p i, x ∈ c := by
  intro ⟨c, hc, hm⟩
  obtain ⟨s, hs, rfl⟩ := cyc_form p i c hc
  exact h ⟨_, hc, orb_meet hp (by omega) hi hm hx⟩
end Go.Proofs.Ytbdnellgioimbaa.M
end
section
/- Cycles: the program and the reference answer alike. No conditions. -/
namespace Go.Proofs.Ytbdnellgioimbaa.M
set_option linter.unusedVariables false
set_option linter.unusedSimpArgs false
open Go.RowKit Go.Proofs.YtbdnellgioimbaaW.PrintWords Go.Proofs.YtbdnellgioimbaaW.PrintLast Go.Proofs.YtbdnellgioimbaaW.PrintMore Go.Proofs.Ytbdnellgioimbaa.A
def I2 (l : List (List Nat)) : List (List Int) := l.map I
theorem I2_len (l : List (List Nat)) : (I2 l).length = l.length := by simp [I2]
theorem I2_snoc (l : List (List Nat)) (c : List Nat) : I2 l ++ [I c] = I2 (l ++ [c]) := by simp [I2]
theorem cyc_len (p : List Nat) (i : Nat) : (cyc p i).length ≤ i := by
  induction i with
  | zero => simp [cyc]
  | succ i ih =>
    unfold cyc
    split
    · omega
    · simp
      omega
theorem orbTo_len (p : List Nat) (s m : Nat) : (orbTo p s m).length = m := by simp [orbTo]
theorem mem_flat {l : List (List Nat)} {x : Nat} : x ∈ l.flatten ↔ ∃ c ∈ l, x ∈ c := by simp
theorem cyc_next {p : List Nat} (hp : IsP p) {i m : Nat} (hi : i < p.length) (hnew : ¬ ∃ c ∈ cyc p i, i ∈ c) (hm : m < per p i) : itr p m i ∉ (cyc p i).flatten ++ orbTo p i m := by
  intro h
  rcases List.mem_append.mp h with h | h
  · exact cyc_new hp hi hnew ((mem_orb hp hi).mpr ⟨m, rfl⟩) (mem_flat.mp h)
  · by_cases e : m = 0
    · subst e
      simp [orbTo] at h
    · exact orb_close hp hi hm (by omega) h
theorem cyc_shut {p : List Nat} (hp : IsP p) {i : Nat} (hi : i < p.length) : itr p (per p i) i ∈ (cyc p i).flatten ++ orbTo p i (per p i) := by
  rw [(per_spec hp hi).1]
  exact List.mem_append.mpr (.inr (orb_self hp hi))
theorem cyc_succ_new {p : List Nat} {i : Nat} (hnew : ¬ ∃ c ∈ cyc p i, i ∈ c) : cyc p (i + 1) = cyc p i ++ [orb p i] := by
  rw [cyc, if_neg hnew]
theorem cyc_succ_old {p : List Nat} {i : Nat} (h : ∃ c ∈ cyc p i, i ∈ c) : cyc p (i + 1) = cyc p i := by
  rw [cyc, if_pos h]
theorem marks_rep (n : Nat) : Marks n (List.replicate n false) ([] : List Nat) := by
  refine ⟨by simp, fun x hx => ?_⟩
  rw [List.getD_eq_getElem?_getD, List.getElem?_replicate]
  simp [hx]
theorem impl_cycles {p : List Nat} (hp : IsP p) (h24 : p.length ≤ 24) : Ev (fun k => impl_CyclesOf.f k (I p)) (I2 (cycles p)) := by
  unfold impl_CyclesOf.f
  refine Ev.bind (impl_permOk (I p)) ?_
  have h0 : permB (I p) = true := permB_I.mpr ⟨hp, h24⟩
  have h1 : (0 : Int) ≤ (p.length : Int) := by omega
  have h2 : p.length ≤ 281474976710656 := by omega
  simp only [h0, I_len', h1, h2, if_true, Int.toNat_natCast]
  have H : ∀ (d i : Nat) (s : List Bool), i + d = p.length → Marks p.length s (cyc p i).flatten → Ev (fun k => impl_CyclesOf.l0 k (I p) s (I2 (cyc p i)) (p.length : Int) (i : Int)) (I2 (cycles p)) := by
    intro d
    induction d with
    | zero =>
      intro i s h hm
      obtain rfl : i = p.length := by omega
      refine ev_succ ?_
      have h1 : ¬ ((p.length : Int) < (p.length : Int)) := by omega
      simp only [impl_CyclesOf.l0, h1, if_false]
      exact Ev.now _
    | succ d ih =>
      intro i s h hm
      have hi : i < p.length := by omega
      have c1 : (i : Int) < (p.length : Int) := by omega
      have c2 : (0 : Int) ≤ (i : Int) := by omega
      have c3 : (i : Int) < (s.length : Int) := by have := hm.1; omega
      have h3 := w64s i (by omega)
      refine ev_succ ?_
      by_cases hs : s.getD i false = true
      · have ho := mem_flat.mp ((hm.2 i hi).mp hs)
        simp only [impl_CyclesOf.l0, c1, c2, c3, rdOf_nat, hs, if_true, h3]
        have := ih (i + 1) s (by omega) (by rw [cyc_succ_old ho]; exact hm)
        rw [cyc_succ_old ho] at this
        exact this
      · have hnew : ¬ ∃ c ∈ cyc p i, i ∈ c := fun h => hs ((hm.2 i hi).mpr (mem_flat.mpr h))
        simp only [impl_CyclesOf.l0, c1, c2, c3, rdOf_nat, hs, if_true, if_false]
        have G : ∀ (e m : Nat) (t : List Bool), m + e = per p i → Marks p.length t ((cyc p i).flatten ++ orbTo p i m) → Ev (fun k => impl_CyclesOf.l1 k (I p) t (I2 (cyc p i)) (I (orbTo p i m)) ((itr p m i : Nat) : Int) (p.length : Int) (i : Int)) (I2 (cycles p)) := by
          intro e
          induction e with
          | zero =>
            intro m t he ht
            obtain rfl : m = per p i := by omega
            refine ev_succ ?_
            have hx := itr_lt hp (per p i) hi
            have d1 : (0 : Int) ≤ ((itr p (per p i) i : Nat) : Int) := by omega
            have d2 : ((itr p (per p i) i : Nat) : Int) < (t.length : Int) := by have := ht.1; omega
            have d3 := (ht.2 _ hx).mpr (cyc_shut hp hi)
            have d4 : (I2 (cyc p i)).length < 5864062014805 := by rw [I2_len]; have := cyc_len p i; omega
            simp only [impl_CyclesOf.l1, d1, d2, rdOf_nat, d3, d4, if_true, h3]
            have := ih (i + 1) t (by omega) (by rw [cyc_succ_new hnew]; simpa [orb] using ht)
            rw [cyc_succ_new hnew, ← I2_snoc] at this
            exact this
          | succ e ihe =>
            intro m t he ht
            refine ev_succ ?_
            have hx := itr_lt hp m hi
            have hn := cyc_next hp hi hnew (m := m) (by omega)
            have d1 : (0 : Int) ≤ ((itr p m i : Nat) : Int) := by omega
            have d2 : ((itr p m i : Nat) : Int) < (t.length : Int) := by have := ht.1; omega
            have d3 : ¬ t.getD (itr p m i) false = true := fun k => hn ((ht.2 _ hx).mp k)
            have d4 : (I (orbTo p i m)).length < 17592186044416 := by rw [I_len, orbTo_len]; have := (per_spec hp hi).2.1; omega
            have d5 : ((itr p m i : Nat) : Int) < (p.length : Int) := by omega
            simp only [impl_CyclesOf.l1, d1, d2, rdOf_nat, d3, d4, d5, I_len', if_true, if_false, rdI, Int.toNat_natCast, I_snoc, orbTo_snoc]
            have := ihe (m + 1) (t.set (itr p m i) true) (by omega) (by
              have := ht.add hx
              rw [List.append_assoc, orbTo_snoc] at this
              exact this)
            exact this
        have := G (per p i) 0 s (by omega) (by simpa [orbTo] using hm)
        exact this
  exact H p.length 0 _ (by omega) (by simpa [cyc] using marks_rep p.length)
end Go.Proofs.Ytbdnellgioimbaa.M
end
section
/- Marks on lists of lists. No conditions. -/
namespace Go.Proofs.Ytbdnellgioimbaa.M
set_option linter.unusedVariables false
set_option linter.unusedSimpArgs false
open Go.RowKit Go.Proofs.YtbdnellgioimbaaW.PrintWords Go.Proofs.YtbdnellgioimbaaW.PrintLast Go.Proofs.YtbdnellgioimbaaW.PrintMore Go.Proofs.Ytbdnellgioimbaa.A
def totL (xs : List (List Int)) : Nat := (xs.map List.length).sum
theorem getD_mid {α : Type} (p : List α) (x : α) (xs : List α) (d : α) : (p ++ x :: xs).getD p.length d = x := by
  rw [List.getD_eq_getElem?_getD, List.getElem?_append_right (Nat.le_refl _)]
  simp
end Go.Proofs.Ytbdnellgioimbaa.M
end
section
/- Rows: the program and the reference answer alike. No conditions. -/
namespace Go.Proofs.Ytbdnellgioimbaa.M
set_option linter.unusedVariables false
set_option linter.unusedSimpArgs false
open Go.RowKit Go.Proofs.YtbdnellgioimbaaW.PrintWords Go.Proofs.YtbdnellgioimbaaW.PrintLast Go.Proofs.YtbdnellgioimbaaW.PrintMore Go.Proofs.Ytbdnellgioimbaa.A
theorem cyc_flat_lt {p : List Nat} (hp : IsP p) : ∀ i, i ≤ p.length → (∀ x ∈ (cyc p i).flatten, x < p.length) ∧ (cyc p i).flatten.Nodup := by
  intro i
  induction i with
  | zero => intro _; simp [cyc]
  | succ i ih =>
    intro hi
    obtain ⟨h1, h2⟩ := ih (by omega)
    by_cases h : ∃ c ∈ cyc p i, i ∈ c
    · rw [cyc_succ_old h]
      exact ⟨h1, h2⟩
    · rw [cyc_succ_new h]
      simp only [List.flatten_append, List.flatten_cons, List.flatten_nil, List.append_nil]
      have hi' : i < p.length := by omega
      have ho : (orb p i).Nodup := by
        unfold orb orbTo
        refine List.pairwise_map.mpr ?_
        refine List.pairwise_iff_getElem.mpr ?_
        intro a b ha hb hab
        rw [List.length_range] at ha hb
        rw [List.getElem_range, List.getElem_range]
        intro e
        have hb0 : b < per p i := hb
        exact orb_close hp hi' hb0 (by omega) (mem_orbTo.mpr ⟨a, hab, e⟩)
      refine ⟨fun x hx => ?_, List.nodup_append.mpr ⟨h2, ho, fun a ha b hb e => ?_⟩⟩
      · rcases List.mem_append.mp hx with hx | hx
        · exact h1 x hx
        · exact orb_lt hp hi' hx
      · subst e
        exact cyc_new hp hi' h hb (mem_flat.mp ha)
theorem cycles_len {p : List Nat} (h24 : p.length ≤ 24) : (cycles p).length ≤ 24 := Nat.le_trans (cyc_len p p.length) h24
theorem cycle_len {p : List Nat} (hp : IsP p) (h24 : p.length ≤ 24) : ∀ c ∈ cycles p, c.length ≤ 24 := by
  intro c hc
  obtain ⟨s, hs, rfl⟩ := cyc_form p p.length c hc
  unfold orb
  rw [orbTo_len]
  have := (per_spec hp hs).2.1
  omega
structure SmallSS (l : List (List Int)) : Prop where
  n : l.length ≤ 24
  m : ∀ x ∈ l, x.length ≤ 24
  t : totL l ≤ 1000
end Go.Proofs.Ytbdnellgioimbaa.M
end
section
/- One round about a corner; first places in lists. No conditions. -/
namespace Go.Proofs.Ytbdnellgioimbaa.M
set_option linter.unusedVariables false
set_option linter.unusedSimpArgs false
open Go.RowKit Go.Proofs.YtbdnellgioimbaaW.PrintWords Go.Proofs.YtbdnellgioimbaaW.PrintLast Go.Proofs.YtbdnellgioimbaaW.PrintMore Go.Proofs.Ytbdnellgioimbaa.A
theorem impl_then {p q : List Nat} (hp : IsP p) (hq : IsP q) (hl : p.length = q.length) (h24 : p.length ≤ 24) : Ev (fun k => impl_ThenPerm.f k (I p) (I q)) (I (thn p q)) := by
  unfold impl_ThenPerm.f
  refine Ev.bind (impl_permOk (I p)) ?_
  have e1 : permB (I p) = true := permB_I.mpr ⟨hp, h24⟩
  have e2 : permB (I q) = true := permB_I.mpr ⟨hq, by omega⟩
  simp only [e1, if_true]
  refine Ev.bind (impl_permOk (I q)) ?_
  have e3 : ((p.length : Int) != (q.length : Int)) = false := by simp [hl]
  simp only [e2, if_true, I_len', e3]
  refine ev_succ ?_
  have h1 : (0 : Int) ≤ (p.length : Int) := by omega
  have h2 : p.length ≤ 35184372088832 := by omega
  simp only [impl_ThenPerm.j0, Bool.false_eq_true, if_false, I_len', h1, h2, if_true, Int.toNat_natCast]
  have H : ∀ (d i : Nat) (c : List Nat), i + d = p.length → c.length = p.length → (∀ j, j < i → g c j = g q (g p j)) → Ev (fun k => impl_ThenPerm.l0 k (I q) (I c) (I p) (p.length : Int) (i : Int)) (I (thn p q)) := by
    intro d
    induction d with
    | zero =>
      intro i c h hc hx
      refine ev_succ ?_
      have h1 : ¬ ((i : Int) < (p.length : Int)) := by omega
      have e : thn p q = c := by
        refine (eq_tab hc (fun j hj => hx j (by omega))).symm
      simp only [impl_ThenPerm.l0, h1, if_false]
      rw [e]
      exact Ev.now _
    | succ d ih =>
      intro i c h hc hx
      refine ev_succ ?_
      have hi : i < p.length := by omega
      have gp := g_lt hp hi
      have c1 : (i : Int) < (p.length : Int) := by omega
      have c2 : (0 : Int) ≤ (i : Int) := by omega
      have c3 : (0 : Int) ≤ ((g p i : Nat) : Int) := by omega
      have c4 : ((g p i : Nat) : Int) < (q.length : Int) := by omega
      have c5 : (i : Int) < (c.length : Int) := by omega
      have h3 := w64s i (by omega)
      simp only [impl_ThenPerm.l0, c1, c2, c3, c4, c5, h3, rdI, I_len', I_set, if_true, Int.toNat_natCast]
      refine ih (i + 1) _ (by omega) (by rw [List.length_set]; exact hc) (fun j hj => ?_)
      rw [g_set (by omega)]
      by_cases e : i = j
      · subst e
        simp
      · rw [if_neg e]
        exact hx j (by omega)
  have := H p.length 0 (List.replicate p.length 0) (by omega) (by simp) (fun j hj => by omega)
  rw [I_rep] at this
  exact this
def arnd (r u : List Nat) : List Nat := thn (thn r u) (thn (inv r) (inv u))
theorem arnd_len (r u : List Nat) : (arnd r u).length = r.length := by unfold arnd; rw [thn_len, thn_len]
theorem g_arnd {r u : List Nat} (hs : Sf r u) {x : Nat} (hx : x < r.length) : g (arnd r u) x = ix u (ix r (g u (g r x))) := by
  have h1 := g_lt hs.pr hx
  have h2 := g_lt hs.pu (i := g r x) (by rw [hs.eq]; exact h1)
  have h2' : g u (g r x) < r.length := by rw [← hs.eq]; exact h2
  have h3 := ix_lt hs.pr h2'
  unfold arnd
  rw [g_thn (by rw [thn_len]; exact hx), g_thn hx, g_thn (by rw [inv_len]; exact h2'), g_inv h2', g_inv (by rw [hs.eq]; exact h3)]
theorem impl_around {r u : List Nat} (hs : Sf r u) : Ev (fun k => impl_AroundOf.f k (I r) (I u)) (I (arnd r u)) := by
  have hle := hs.le
  have heq := hs.eq
  unfold impl_AroundOf.f
  refine Ev.bind (impl_surf _ _) ?_
  rw [surfB_I.mpr hs]
  simp only [if_true]
  refine Ev.bind (impl_then hs.pr hs.pu heq.symm hs.le) ?_
  refine Ev.bind (impl_inv hs.pr hs.le) (Ev.bind (impl_inv hs.pu (by omega)) ?_)
  refine Ev.bind (impl_then (isP_inv hs.pr) (isP_inv hs.pu) (by rw [inv_len, inv_len, heq]) (by rw [inv_len]; omega)) ?_
  refine Ev.bind (impl_then (isP_thn hs.pr hs.pu heq.symm) (isP_thn (isP_inv hs.pr) (isP_inv hs.pu) (by rw [inv_len, inv_len, heq])) (by rw [thn_len, thn_len, inv_len]) (by rw [thn_len]; omega)) ?_
  exact Ev.now _
theorem first_split {α : Type} (P : α → Prop) : ∀ l : List α, (∃ c ∈ l, P c) → ∃ a c b, l = a ++ c :: b ∧ P c ∧ ∀ x ∈ a, ¬ P x := by
  intro l
  induction l with
  | nil => intro ⟨c, h, _⟩; simp at h
  | cons x l ih =>
    intro ⟨c, h, hc⟩
    by_cases hx : P x
    · exact ⟨[], x, l, rfl, hx, by simp⟩
    · obtain ⟨a, c', b, e, h1, h2⟩ := ih (by
        rcases List.mem_cons.mp h with rfl | h
        · exact absurd hc hx
        · exact ⟨c, h, hc⟩)
      refine ⟨x :: a, c', b, by rw [e]; rfl, h1, fun y hy => ?_⟩
      rcases List.mem_cons.mp hy with rfl | hy
      · exact hx
      · exact h2 y hy
theorem rdL_mid (a : List (List Nat)) (c : List Nat) (b : List (List Nat)) : rd_L1 (I2 (a ++ c :: b)) (a.length : Int) = I c := by
  unfold rd_L1 I2
  rw [Int.toNat_natCast, List.map_append, List.map_cons, ← List.length_map (f := I)]
  exact getD_mid _ _ _ _
theorem cyc_least {p : List Nat} (hp : IsP p) : ∀ i, i ≤ p.length → ∀ c ∈ cyc p i, ∃ s, s < i ∧ c = orb p s ∧ ∀ y ∈ c, s ≤ y := by
  intro i
  induction i with
  | zero => intro _ c h; simp [cyc] at h
  | succ i ih =>
    intro hi c hc
    by_cases h : ∃ c ∈ cyc p i, i ∈ c
    · rw [cyc_succ_old h] at hc
      obtain ⟨s, h1, h2, h3⟩ := ih (by omega) c hc
      exact ⟨s, by omega, h2, h3⟩
    · rw [cyc_succ_new h] at hc
      rcases List.mem_append.mp hc with hc | hc
      · obtain ⟨s, h1, h2, h3⟩ := ih (by omega) c hc
        exact ⟨s, by omega, h2, h3⟩
      · have e : c = orb p i := by simpa using hc
        subst e
        refine ⟨i, by omega, rfl, fun y hy => ?_⟩
        apply Classical.byContradiction
        intro hlt
        obtain ⟨c', hc', hm⟩ := cyc_all hp i (by omega) y (by omega)
        exact cyc_new hp (by omega) h hy ⟨c', hc', hm⟩
theorem orb_cons (p : List Nat) (s : Nat) : ∃ t, orb p s = s :: t := by
  have h := per_pos p s
  unfold orb orbTo
  obtain ⟨m, hm⟩ : ∃ m, per p s = m + 1 := ⟨per p s - 1, by omega⟩
  rw [hm, List.range_succ_eq_map]
  exact ⟨_, rfl⟩
theorem cycle_form {p : List Nat} (hp : IsP p) {c : List Nat} (hc : c ∈ cycles p) : ∃ s t, s < p.length ∧ c = s :: t ∧ c = orb p s ∧ ∀ y ∈ c, s ≤ y := by
  obtain ⟨s, h1, h2, h3⟩ := cyc_least hp p.length (Nat.le_refl _) c hc
  obtain ⟨t, ht⟩ := orb_cons p s
  exact ⟨s, t, h1, by rw [h2, ht], h2, h3⟩
theorem cycle_same {p : List Nat} (hp : IsP p) {c : List Nat} (hc : c ∈ cycles p) {x y : Nat} (hx : x < p.length) (hy : y ∈ orb p x) : x ∈ c ↔ y ∈ c := by
  obtain ⟨s, _, hs, _, e, _⟩ := cycle_form hp hc
  rw [e]
  constructor
  · intro h
    exact orb_trans hp hs h hy
  · intro h
    exact orb_trans hp hs h (orb_sym hp hx hy)
end Go.Proofs.Ytbdnellgioimbaa.M
end
section
/- The row above: lookups of the program and the reference. No conditions. -/
namespace Go.Proofs.Ytbdnellgioimbaa.M
set_option linter.unusedVariables false
set_option linter.unusedSimpArgs false
open Go.RowKit Go.Proofs.YtbdnellgioimbaaW.PrintWords Go.Proofs.YtbdnellgioimbaaW.PrintLast Go.Proofs.YtbdnellgioimbaaW.PrintMore Go.Proofs.Ytbdnellgioimbaa.A
theorem index_ev (l : List Nat) (a : Nat) (hl : l.length ≤ 1000000000) : ∃ i : Int, Ev (fun k => slices_Index_int_int.f k (I l) (a : Int)) i ∧ (decide (i ≥ 0) = decide (a ∈ l)) := by
  unfold slices_Index_int_int.f
  have H : ∀ d i : Nat, i + d = l.length → a ∉ l.take i → ∃ j : Int, Ev (fun k => slices_Index_int_int.l0 k (I l) (a : Int) (l.length : Int) (i : Int)) j ∧ (decide (j ≥ 0) = decide (a ∈ l)) := by
    intro d
    induction d with
    | zero =>
      intro i h hn
      refine ⟨-1, ev_succ ?_, ?_⟩
      · have h1 : ¬ ((i : Int) < (l.length : Int)) := by omega
        simp only [slices_Index_int_int.l0, h1, if_false]
        exact Ev.now _
      · rw [List.take_of_length_le (by omega)] at hn
        simp [hn]
    | succ d ih =>
      intro i h hn
      have hi : i < l.length := by omega
      have c1 : (i : Int) < (l.length : Int) := by omega
      have c2 : (0 : Int) ≤ (i : Int) := by omega
      have h3 := w64s i (by omega)
      by_cases e : a = g l i
      · refine ⟨(i : Int), ev_succ ?_, ?_⟩
        · have e' : ((a : Nat) : Int) = ((g l i : Nat) : Int) := by rw [← e]
          simp only [slices_Index_int_int.l0, c1, c2, rdI, I_len', e', if_true]
          exact Ev.now _
        · have : a ∈ l := by rw [e]; exact g_mem hi
          simp [this]
      · obtain ⟨j, j1, j2⟩ := ih (i + 1) (by omega) (by
          rw [← List.take_append_getElem hi]
          intro hm
          rcases List.mem_append.mp hm with hm | hm
          · exact hn hm
          · rw [← g_get hi] at hm
            exact e (by simpa using hm))
        refine ⟨j, ev_succ ?_, j2⟩
        have e' : ¬ ((a : Nat) : Int) = ((g l i : Nat) : Int) := by omega
        simp only [slices_Index_int_int.l0, c1, c2, rdI, I_len', e', if_true, if_false, h3]
        exact j1
  have := H l.length 0 (by omega) (by simp)
  simp only [I_len']
  exact this
theorem contains_ev (l : List Nat) (a : Nat) (hl : l.length ≤ 1000000000) : Ev (fun k => slices_Contains_int_int.f k (I l) (a : Int)) (decide (a ∈ l)) := by
  unfold slices_Contains_int_int.f
  obtain ⟨i, h1, h2⟩ := index_ev l a hl
  refine Ev.bind h1 ?_
  rw [h2]
  exact Ev.now _
theorem min_ev (s : Nat) (t : List Nat) (h : ∀ y ∈ t, s ≤ y) (hl : t.length ≤ 1000000000) : Ev (fun k => slices_Min_int_int.f k (I (s :: t))) (s : Int) := by
  unfold slices_Min_int_int.f
  have h0 : ¬ (((I (s :: t)).length : Int) < 1) := by rw [I_len]; simp; omega
  simp only [h0, if_false]
  have e0 : rd (I (s :: t)) 0 = (s : Int) := rfl
  rw [e0]
  have H : ∀ d i : Nat, i + d = (s :: t).length → 1 ≤ i → Ev (fun k => slices_Min_int_int.l0 k (I (s :: t)) (s : Int) (i : Int)) (s : Int) := by
    intro d
    induction d with
    | zero =>
      intro i hi h1
      refine ev_succ ?_
      have h2 : ¬ ((i : Int) < ((s :: t).length : Int)) := by omega
      simp only [slices_Min_int_int.l0, I_len', h2, if_false]
      exact Ev.now _
    | succ d ih =>
      intro i hi h1
      refine ev_succ ?_
      have hi' : i < (s :: t).length := by omega
      have h2 : (i : Int) < ((s :: t).length : Int) := by omega
      have h3 : (0 : Int) ≤ (i : Int) := by omega
      have h4 := w64s i (by simp at hi; omega)
      have h5 : s ≤ g (s :: t) i := by
        have hm := g_mem hi'
        rcases List.mem_cons.mp hm with e | hm
        · rw [e]
          exact Nat.le_refl _
        · exact h _ hm
      have h6 : mn (s : Int) ((g (s :: t) i : Nat) : Int) = (s : Int) := by unfold mn; split <;> omega
      simp only [slices_Min_int_int.l0, I_len', h2, h3, rdI, h4, h6, if_true]
      exact ih (i + 1) (by omega) (by omega)
  exact H t.length 1 (by simp; omega) (Nat.le_refl _)
theorem rowOf_ev {r : List Nat} (hr : IsP r) (h24 : r.length ≤ 24) (u : List Int) {x : Nat} {a : List (List Nat)} {c : List Nat} {b : List (List Nat)} (e : cycles r = a ++ c :: b) (hc : x ∈ c) (ha : ∀ d ∈ a, x ∉ d) : Ev (fun k => impl_rowOf.f k (I r) u (x : Int)) (I c) := by
  unfold impl_rowOf.f
  refine Ev.bind (impl_cycles hr h24) ?_
  have hlen := cycles_len (p := r) h24
  have H : ∀ (a1 a0 : List (List Nat)), a = a0 ++ a1 → Ev (fun k => impl_rowOf.l0 k (x : Int) (I2 (cycles r)) ((I2 (cycles r)).length : Int) (a0.length : Int)) (I c) := by
    intro a1
    induction a1 with
    | nil =>
      intro a0 ea
      have ea' : a = a0 := by simpa using ea
      subst ea'
      refine ev_succ ?_
      have hl : a.length < (cycles r).length := by rw [e]; simp
      have c1 : (a.length : Int) < ((I2 (cycles r)).length : Int) := by rw [I2_len]; omega
      have c2 : (0 : Int) ≤ (a.length : Int) := by omega
      have e1 : rd_L1 (I2 (cycles r)) (a.length : Int) = I c := by rw [e]; exact rdL_mid a c b
      simp only [impl_rowOf.l0, c1, c2, e1, if_true]
      refine Ev.bind (contains_ev c x (by have := cycle_len hr h24 c (by rw [e]; simp); omega)) ?_
      simp only [hc, decide_true, if_true]
      exact Ev.now _
    | cons d a1 ih =>
      intro a0 ea
      refine ev_succ ?_
      have e2 : cycles r = a0 ++ d :: (a1 ++ c :: b) := by rw [e, ea]; simp
      have hl : a0.length < (cycles r).length := by rw [e2]; simp
      have c1 : (a0.length : Int) < ((I2 (cycles r)).length : Int) := by rw [I2_len]; omega
      have c2 : (0 : Int) ≤ (a0.length : Int) := by omega
      have e1 : rd_L1 (I2 (cycles r)) (a0.length : Int) = I d := by rw [e2]; exact rdL_mid a0 d _
      have hn := ha d (by rw [ea]; simp)
      have h4 := w64s a0.length (by omega)
      simp only [impl_rowOf.l0, c1, c2, e1, if_true]
      refine Ev.bind (contains_ev d x (by have := cycle_len hr h24 d (by rw [e2]; simp); omega)) ?_
      simp only [hn, decide_false, Bool.false_eq_true, if_false, h4]
      have := ih (a0 ++ [d]) (by rw [ea]; simp)
      have e3 : ((a0 ++ [d]).length : Int) = ((a0.length + 1 : Nat) : Int) := by simp
      rw [e3] at this
      exact this
  exact H a [] rfl
def rowIx (l : List (List Nat)) (x : Nat) : Nat := l.findIdx (fun c => decide (x ∈ c))
theorem rowIx_eq {l : List (List Nat)} {x : Nat} {a : List (List Nat)} {c : List Nat} {b : List (List Nat)} (e : l = a ++ c :: b) (hc : x ∈ c) (ha : ∀ d ∈ a, x ∉ d) : rowIx l x = a.length := by
  unfold rowIx
  rw [e, List.findIdx_append]
  have h1 : a.findIdx (fun c => decide (x ∈ c)) = a.length := by
    rw [List.findIdx_eq_length]
    intro d hd
    simp [ha d hd]
  rw [h1]
  simp [List.findIdx_cons, hc]
theorem row_at {r : List Nat} (hr : IsP r) {x : Nat} (hx : x < r.length) : ∃ a c b, cycles r = a ++ c :: b ∧ x ∈ c ∧ ∀ d ∈ a, x ∉ d :=
  first_split (fun c => x ∈ c) (cycles r) (cyc_all hr r.length (Nat.le_refl _) x hx)
def regB (r u c : List Nat) : Bool := c.all (fun x => g (arnd r u) x == x)
def abv (r u c : List Nat) : Int := if regB r u c = true then (rowIx (cycles r) (g u (c.headD 0)) : Int) else -1
theorem reg_step {r u : List Nat} (hs : Sf r u) {x : Nat} (hx : x < r.length) (h : g (arnd r u) x = x) : g u (g r x) = g r (g u x) := by
  rw [g_arnd hs hx] at h
  have h1 := g_lt hs.pr hx
  have h2 : g u (g r x) < r.length := by rw [← hs.eq]; exact g_lt hs.pu (by rw [hs.eq]; exact h1)
  have h3 := ix_lt hs.pr h2
  have e := g_ix hs.pu (x := ix r (g u (g r x))) (by rw [hs.eq]; exact h3)
  rw [h] at e
  rw [e, g_ix hs.pr h2]
theorem reg_up {r u : List Nat} (hs : Sf r u) {s : Nat} (h0 : s < r.length) (hreg : ∀ x ∈ orb r s, g (arnd r u) x = x) (k : Nat) : g u (itr r k s) = itr r k (g u s) := by
  induction k with
  | zero => rfl
  | succ k ih =>
    have hm : itr r k s ∈ orb r s := (mem_orb hs.pr h0).mpr ⟨k, rfl⟩
    show g u (g r (itr r k s)) = g r (itr r k (g u s))
    rw [reg_step hs (itr_lt hs.pr k h0) (hreg _ hm), ih]
theorem cycle_ix {p : List Nat} (hp : IsP p) {c0 c1 : List (List Nat)} {c : List Nat} (e : cycles p = c0 ++ c :: c1) {x : Nat} (hx : x ∈ c) : rowIx (cycles p) x = c0.length := by
  refine rowIx_eq e hx (fun d hd hxd => ?_)
  have hnd := (cyc_flat_lt hp p.length (Nat.le_refl _)).2
  have e2 : cyc p p.length = c0 ++ c :: c1 := e
  rw [e2, List.flatten_append] at hnd
  have := (List.nodup_append.mp hnd).2.2 x (mem_flat.mpr ⟨d, hd, hxd⟩) x (mem_flat.mpr ⟨c, by simp, hx⟩)
  exact this rfl
theorem regB_iff {r u c : List Nat} : regB r u c = true ↔ ∀ x ∈ c, g (arnd r u) x = x := by
  unfold regB
  simp
end Go.Proofs.Ytbdnellgioimbaa.M
end
section
/- Plain mathematics: classes of what is linked. No conditions. -/
namespace Go.Proofs.Ytbdnellgioimbaa.M
set_option linter.unusedVariables false
set_option linter.unusedSimpArgs false
inductive Cn (up : Nat → Option Nat) : Nat → Nat → Prop
  | refl (i : Nat) : Cn up i i
  | up {i j k : Nat} : up i = some j → Cn up j k → Cn up i k
  | dn {i j k : Nat} : up j = some i → Cn up j k → Cn up i k
theorem Cn.trans {up : Nat → Option Nat} {i j k : Nat} (h : Cn up i j) (h' : Cn up j k) : Cn up i k := by
  induction h with
  | refl i => exact h'
  | up e _ ih => exact .up e (ih h')
  | dn e _ ih => exact .dn e (ih h')
theorem Cn.symm {up : Nat → Option Nat} {i j : Nat} (h : Cn up i j) : Cn up j i := by
  induction h with
  | refl i => exact .refl i
  | up e _ ih => exact ih.trans (.dn e (.refl _))
  | dn e _ ih => exact ih.trans (.up e (.refl _))
theorem Cn.one {up : Nat → Option Nat} {i j : Nat} (h : up i = some j) : Cn up i j := .up h (.refl _)
theorem Cn.lt {n : Nat} {up : Nat → Option Nat} (hup : ∀ i j, up i = some j → i < n ∧ j < n) {i j : Nat} (h : Cn up i j) (hi : i < n) : j < n := by
  induction h with
  | refl i => exact hi
  | up e _ ih => exact ih (hup _ _ e).2
  | dn e _ ih => exact ih (hup _ _ e).1
theorem Cn.closed {up : Nat → Option Nat} {S : Nat → Prop} (hS : ∀ i j, up i = some j → (S i ↔ S j)) {i j : Nat} (h : Cn up i j) : S i ↔ S j := by
  induction h with
  | refl i => exact Iff.rfl
  | up e _ ih => exact (hS _ _ e).trans ih
  | dn e _ ih => exact (hS _ _ e).symm.trans ih
structure Grp (n : Nat) (up : Nat → Option Nat) (t : Nat) (G : Nat → Nat) : Prop where
  le : ∀ j, j < n → G j ≤ j
  fix : ∀ j, j < n → G (G j) = G j
  cn : ∀ j, j < n → Cn up j (G j)
  ed : ∀ i j, i < t → up i = some j → G i = G j
def mgf (G : Nat → Nat) (a b : Nat) : Nat → Nat := fun j => if G j = a ∨ G j = b then min a b else G j
theorem Grp.start (n : Nat) (up : Nat → Option Nat) : Grp n up 0 (fun j => j) := ⟨fun j _ => Nat.le_refl _, fun j _ => rfl, fun j _ => .refl _, fun i j h _ => by omega⟩
theorem Grp.skip {n t : Nat} {up : Nat → Option Nat} {G : Nat → Nat} (h : Grp n up t G) (e : up t = none) : Grp n up (t + 1) G :=
  ⟨h.le, h.fix, h.cn, fun i j hi hj => by
    by_cases e2 : i = t
    · subst e2
      rw [e] at hj
      cases hj
    · exact h.ed i j (by omega) hj⟩
theorem Grp.merge {n t k : Nat} {up : Nat → Option Nat} (hup : ∀ i j, up i = some j → i < n ∧ j < n) {G : Nat → Nat} (h : Grp n up t G) (e : up t = some k) : Grp n up (t + 1) (mgf G (G t) (G k)) := by
  obtain ⟨ht, hk⟩ := hup t k e
  have ha := h.fix t ht
  have hb := h.fix k hk
  have la := h.le t ht
  have lb := h.le k hk
  have hab : Cn up (G t) (G k) := (h.cn t ht).symm.trans ((Cn.one e).trans (h.cn k hk))
  have hm : min (G t) (G k) = G t ∨ min (G t) (G k) = G k := by omega
  refine ⟨fun j hj => ?_, fun j hj => ?_, fun j hj => ?_, fun i j hi hj => ?_⟩
  · unfold mgf
    have := h.le j hj
    split <;> omega
  · have key : ∀ c, (c = G t ∨ c = G k) → mgf G (G t) (G k) c = min (G t) (G k) := by
      intro c hc
      unfold mgf
      rw [if_pos (by rcases hc with rfl | rfl; exact .inl ha; exact .inr hb)]
    by_cases hc : G j = G t ∨ G j = G k
    · have e1 : mgf G (G t) (G k) j = min (G t) (G k) := by unfold mgf; rw [if_pos hc]
      rw [e1]
      exact key _ hm
    · have e1 : mgf G (G t) (G k) j = G j := by unfold mgf; rw [if_neg hc]
      rw [e1]
      unfold mgf
      rw [h.fix j hj, if_neg hc]
  · unfold mgf
    split
    · rename_i hc
      refine (h.cn j hj).trans ?_
      rcases hc with hc | hc <;> rcases hm with hm | hm <;> rw [hc, hm]
      · exact .refl _
      · exact hab
      · exact hab.symm
      · exact .refl _
    · exact h.cn j hj
  · by_cases e2 : i = t
    · subst e2
      rw [e] at hj
      injection hj with hj
      subst hj
      unfold mgf
      simp
    · unfold mgf
      rw [h.ed i j (by omega) hj]
theorem Grp.iff {n : Nat} {up : Nat → Option Nat} (hup : ∀ i j, up i = some j → i < n ∧ j < n) {G : Nat → Nat} (h : Grp n up n G) {i j : Nat} (hi : i < n) (hj : j < n) : G i = G j ↔ Cn up i j := by
  constructor
  · intro e
    have := (h.cn i hi).trans ((by rw [e]; exact .refl _ : Cn up (G i) (G j)).trans (h.cn j hj).symm)
    exact this
  · intro hc
    induction hc with
    | refl i => rfl
    | up e _ ih => rw [h.ed _ _ (hup _ _ e).1 e]; exact ih (hup _ _ e).2 hj
    | dn e _ ih => rw [← h.ed _ _ (hup _ _ e).1 e]; exact ih (hup _ _ e).1 hj
theorem Grp.head {n : Nat} {up : Nat → Option Nat} (hup : ∀ i j, up i = some j → i < n ∧ j < n) {G : Nat → Nat} (h : Grp n up n G) {i : Nat} (hi : i < n) : G i = i ↔ ∀ j, Cn up i j → i ≤ j := by
  constructor
  · intro e j hc
    have hj := hc.lt hup hi
    have := (h.iff hup hi hj).mpr hc
    have := h.le j hj
    omega
  · intro hc
    have := hc _ (h.cn i hi)
    have := h.le i hi
    omega
def ups (up : Nat → Option Nat) : Nat → Nat → Option Nat
  | 0, i => some i
  | m + 1, i => (up i).bind (ups up m)
theorem ups_succ (up : Nat → Option Nat) (m i : Nat) : ups up (m + 1) i = (ups up m i).bind up := by
  induction m generalizing i with
  | zero =>
    simp only [ups, Option.bind_some]
    cases h : up i <;> rfl
  | succ m ih =>
    show (up i).bind (ups up (m + 1)) = ((up i).bind (ups up m)).bind up
    cases h : up i with
    | none => rfl
    | some j => exact ih j
theorem ups_cn {up : Nat → Option Nat} {m i j : Nat} (h : ups up m i = some j) : Cn up i j := by
  induction m generalizing i with
  | zero => simp [ups] at h; subst h; exact .refl _
  | succ m ih =>
    obtain ⟨z, hz, h2⟩ := Option.bind_eq_some_iff.mp h
    exact .up hz (ih h2)
theorem nodup_sub_len : ∀ (a b : List Nat), a.Nodup → (∀ x ∈ a, x ∈ b) → a.length ≤ b.length := by
  intro a
  induction a with
  | nil => intro b _ _; simp
  | cons x a ih =>
    intro b hn hs
    have hx := List.nodup_cons.mp hn
    have h1 := ih (b.erase x) hx.2 (fun y hy => by
      have hyx : y ≠ x := fun e => hx.1 (e ▸ hy)
      exact (List.mem_erase_of_ne hyx).mpr (hs y (by simp [hy])))
    have h2 := List.length_erase_of_mem (hs x (by simp))
    have h3 : 0 < b.length := List.length_pos_of_mem (hs x (by simp))
    simp only [List.length_cons]
    omega
theorem nodup_len_eq {a b : List Nat} (ha : a.Nodup) (hb : b.Nodup) (h : ∀ x, x ∈ a ↔ x ∈ b) : a.length = b.length :=
  Nat.le_antisymm (nodup_sub_len a b ha (fun x hx => (h x).mp hx)) (nodup_sub_len b a hb (fun x hx => (h x).mpr hx))
structure Mk (n : Nat) (up : Nat → Option Nat) (row : Nat) (S0 add : List Nat) : Prop where
  nd : add.Nodup
  lt : ∀ x ∈ add, x < n
  new : ∀ x ∈ add, x ∉ S0
  p : ∀ x ∈ add, (∃ m, ups up m row = some x) ∨ (∃ m, ups up m x = some row)
theorem Mk.cn {n : Nat} {up : Nat → Option Nat} {row : Nat} {S0 add : List Nat} (h : Mk n up row S0 add) {x : Nat} (hx : x ∈ add) : Cn up row x := by
  rcases h.p x hx with ⟨m, hm⟩ | ⟨m, hm⟩
  · exact ups_cn hm
  · exact (ups_cn hm).symm
theorem Mk.add {n : Nat} {up : Nat → Option Nat} {row : Nat} {S0 add : List Nat} (h : Mk n up row S0 add) {x : Nat} (hx : x < n) (h1 : x ∉ S0) (h2 : x ∉ add) (hp : (∃ m, ups up m row = some x) ∨ (∃ m, ups up m x = some row)) : Mk n up row S0 (add ++ [x]) := by
  refine ⟨List.nodup_append.mpr ⟨h.nd, by simp, fun a ha b hb e => ?_⟩, fun y hy => ?_, fun y hy => ?_, fun y hy => ?_⟩
  · have : b = x := by simpa using hb
    exact h2 (by rw [← this, ← e]; exact ha)
  · rcases List.mem_append.mp hy with hy | hy
    · exact h.lt y hy
    · have : y = x := by simpa using hy
      omega
  · rcases List.mem_append.mp hy with hy | hy
    · exact h.new y hy
    · have : y = x := by simpa using hy
      rw [this]
      exact h1
  · rcases List.mem_append.mp hy with hy | hy
    · exact h.p y hy
    · have : y = x := by simpa using hy
      rw [this]
      exact hp
theorem Mk.full {n : Nat} {up : Nat → Option Nat} (hup : ∀ i j, up i = some j → i < n ∧ j < n) (hinj : ∀ i i' j, up i = some j → up i' = some j → i = i') {row : Nat} {S0 add : List Nat} (h : Mk n up row S0 add) (hrow : row ∈ add)
    (hS0 : ∀ i j, up i = some j → (i ∈ S0 ↔ j ∈ S0)) (c1 : ∀ x ∈ add, ∀ y, up x = some y → y ∈ S0 ∨ y ∈ add)
    (c2 : ∀ k x, up k = some x → (x ∈ S0 ∨ x ∈ add) → (∃ m, ups up m k = some row) → (k ∈ S0 ∨ k ∈ add)) : ∀ x, x ∈ add ↔ Cn up row x := by
  have hrs : row ∉ S0 := h.new row hrow
  have chain : ∀ m x, ups up m row = some x → x ∈ add := by
    intro m
    induction m with
    | zero => intro x hx; simp [ups] at hx; rw [← hx]; exact hrow
    | succ m ih =>
      intro x hx
      rw [ups_succ] at hx
      obtain ⟨z, hz, hzx⟩ := Option.bind_eq_some_iff.mp hx
      have hza := ih z hz
      rcases c1 z hza x hzx with k | k
      · exact absurd ((hS0 z x hzx).mpr k) (h.new z hza)
      · exact k
  have closed : ∀ i j, up i = some j → ((i ∈ S0 ∨ i ∈ add) ↔ (j ∈ S0 ∨ j ∈ add)) := by
    intro i j e
    constructor
    · rintro (k | k)
      · exact .inl ((hS0 i j e).mp k)
      · exact c1 i k j e
    · rintro (k | k)
      · exact .inl ((hS0 i j e).mpr k)
      · rcases h.p j k with ⟨m, hm⟩ | ⟨m, hm⟩
        · cases m with
          | zero =>
            simp [ups] at hm
            subst hm
            exact c2 i _ e (.inr k) ⟨1, by simp [ups, e]⟩
          | succ m =>
            rw [ups_succ] at hm
            obtain ⟨z, hz, hzj⟩ := Option.bind_eq_some_iff.mp hm
            have := hinj i z j e hzj
            subst this
            exact .inr (chain m _ hz)
        · exact c2 i j e (.inr k) ⟨m + 1, by simp [ups, e, hm]⟩
  intro x
  constructor
  · exact fun hx => h.cn hx
  · intro hc
    have h1 := (Cn.closed (S := fun z => z ∈ S0 ∨ z ∈ add) closed hc).mp (.inr hrow)
    rcases h1 with h1 | h1
    · exact absurd ((Cn.closed (S := fun z => z ∈ S0) hS0 hc).mpr h1) hrs
    · exact h1
end Go.Proofs.Ytbdnellgioimbaa.M
end
section
/- The links of rows. No conditions. -/
namespace Go.Proofs.Ytbdnellgioimbaa.M
set_option linter.unusedVariables false
set_option linter.unusedSimpArgs false
open Go.RowKit Go.Proofs.YtbdnellgioimbaaW.PrintWords Go.Proofs.YtbdnellgioimbaaW.PrintLast Go.Proofs.YtbdnellgioimbaaW.PrintMore Go.Proofs.Ytbdnellgioimbaa.A
theorem split_at {α : Type} (l : List α) (i : Nat) (h : i < l.length) : l = l.take i ++ l[i] :: l.drop (i + 1) ∧ (l.take i).length = i :=
  ⟨by rw [← List.drop_eq_getElem_cons h, List.take_append_drop], by rw [List.length_take]; omega⟩
def upA (A : List Int) (i : Nat) : Option Nat := if i < A.length ∧ 0 ≤ rd A (i : Int) then some (rd A (i : Int)).toNat else none
def abL (r u : List Nat) : List Int := (cycles r).map (abv r u)
theorem abL_len (r u : List Nat) : (abL r u).length = (cycles r).length := by simp [abL]
theorem rd_abL {r u : List Nat} {i : Nat} (h : i < (cycles r).length) : rd (abL r u) (i : Int) = abv r u ((cycles r)[i]) := by
  unfold abL
  rw [rd_get _ _ (by rw [List.length_map]; exact h)]
  simp
theorem rowIx_lt {r : List Nat} (hr : IsP r) {x : Nat} (hx : x < r.length) : ∃ h : rowIx (cycles r) x < (cycles r).length, x ∈ (cycles r)[rowIx (cycles r) x] := by
  obtain ⟨a, c, b, e1, e2, e3⟩ := row_at hr hx
  have h := rowIx_eq e1 e2 e3
  have hl : a.length < (cycles r).length := by rw [e1]; simp
  rw [h]
  refine ⟨hl, ?_⟩
  have : (cycles r)[a.length]'hl = c := by
    have h2 : (cycles r)[a.length]? = some c := by rw [e1]; simp
    exact (List.getElem?_eq_some_iff.mp h2).2
  rw [this]
  exact e2
theorem ix_of_mem {r : List Nat} (hr : IsP r) {i : Nat} (h : i < (cycles r).length) {x : Nat} (hx : x ∈ (cycles r)[i]) : rowIx (cycles r) x = i := by
  obtain ⟨e1, e2⟩ := split_at (cycles r) i h
  have := cycle_ix hr e1 hx
  rw [e2] at this
  exact this
theorem upA_form {r u : List Nat} (hs : Sf r u) {i j : Nat} (h : upA (abL r u) i = some j) : ∃ hi : i < (cycles r).length, ∃ s, s < r.length ∧ (cycles r)[i] = orb r s ∧ s ∈ (cycles r)[i] ∧ (∀ x ∈ (cycles r)[i], g (arnd r u) x = x) ∧ g u s < r.length ∧ j = rowIx (cycles r) (g u s) := by
  unfold upA at h
  split at h
  · rename_i hc
    obtain ⟨h1, h2⟩ := hc
    rw [abL_len] at h1
    rw [rd_abL h1] at h2 h
    unfold abv at h2 h
    by_cases hreg : regB r u ((cycles r)[i]) = true
    · rw [if_pos hreg] at h
      obtain ⟨s, t, hs0, ec, eo, _⟩ := cycle_form hs.pr (List.getElem_mem h1)
      have hhead : ((cycles r)[i]).headD 0 = s := by rw [ec]; rfl
      rw [hhead] at h
      refine ⟨h1, s, hs0, eo, by rw [ec]; simp, regB_iff.mp hreg, by rw [← hs.eq]; exact g_lt hs.pu (by rw [hs.eq]; exact hs0), ?_⟩
      injection h with h
      omega
    · rw [if_neg hreg] at h2
      omega
  · cases h
theorem upA_lt {r u : List Nat} (hs : Sf r u) : ∀ i j, upA (abL r u) i = some j → i < (cycles r).length ∧ j < (cycles r).length := by
  intro i j h
  obtain ⟨hi, s, hs0, _, _, _, hu, e⟩ := upA_form hs h
  refine ⟨hi, ?_⟩
  rw [e]
  exact (rowIx_lt hs.pr hu).1
end Go.Proofs.Ytbdnellgioimbaa.M
end
section
/- The row above: the reference's list, the program's answer. No conditions. -/
namespace Go.Proofs.Ytbdnellgioimbaa.M
set_option linter.unusedVariables false
set_option linter.unusedSimpArgs false
open Go.RowKit Go.Proofs.YtbdnellgioimbaaW.PrintWords Go.Proofs.YtbdnellgioimbaaW.PrintLast Go.Proofs.YtbdnellgioimbaaW.PrintMore Go.Proofs.Ytbdnellgioimbaa.A
theorem rowAbove_impl {r u : List Nat} (hs : Sf r u) {x : Nat} (hx : x < r.length) {a : List (List Nat)} {c : List Nat} {b : List (List Nat)} (e1 : cycles r = a ++ c :: b) (e2 : x ∈ c) (e3 : ∀ d ∈ a, x ∉ d) {s : Nat} (hhead : c.headD 0 = s) {a2 : List (List Nat)} {c2 : List Nat} {b2 : List (List Nat)} (f1 : cycles r = a2 ++ c2 :: b2) (f2 : g u s ∈ c2) (f3 : ∀ d ∈ a2, g u s ∉ d) : Ev (fun k => impl_RowAbove.j0 k (x : Int) false (I r) (I u)) (if regB r u c = true then ((c2.headD 0 : Nat) : Int) else -1) := by
  have hle := hs.le
  have heq := hs.eq
  have hmem : c ∈ cycles r := by rw [e1]; simp
  obtain ⟨s', t, hs0, ec, eo, hleast⟩ := cycle_form hs.pr hmem
  have hhead' : c.headD 0 = s' := by rw [ec]; rfl
  obtain rfl : s' = s := by rw [← hhead', hhead]
  have hus : g u s' < r.length := by rw [← heq]; exact g_lt hs.pu (by omega)
  have hux : g u x < r.length := by rw [← heq]; exact g_lt hs.pu (by omega)
  have hmem2 : c2 ∈ cycles r := by rw [f1]; simp
  obtain ⟨s2, t2, hs2, ec2, eo2, hleast2⟩ := cycle_form hs.pr hmem2
  have hcl := cycle_len hs.pr hs.le c hmem
  have hcl2 := cycle_len hs.pr hs.le c2 hmem2
  have h2 : c2.headD 0 = s2 := by rw [ec2]; rfl
  rw [h2]
  refine ev_succ ?_
  simp only [impl_RowAbove.j0, Bool.false_eq_true, if_false]
  refine Ev.bind (impl_around hs) (Ev.bind (rowOf_ev hs.pr hs.le (I u) e1 e2 e3) ?_)
  have G : ∀ (x1 x0 : List Nat), c = x0 ++ x1 → regB r u x0 = true → Ev (fun k => impl_RowAbove.l0 k (x : Int) (I (arnd r u)) (I c) ((I c).length : Int) (x0.length : Int) (I r) (I u)) (if regB r u c = true then (s2 : Int) else -1) := by
    intro x1
    induction x1 with
    | nil =>
      intro x0 ex hreg
      have ex' : c = x0 := by simpa using ex
      refine ev_succ ?_
      have g1 : ¬ ((x0.length : Int) < (c.length : Int)) := by rw [ex']; omega
      have g2 : (0 : Int) ≤ (x : Int) := by omega
      have g3 : (x : Int) < (u.length : Int) := by omega
      rw [← ex'] at hreg
      have hall := regB_iff.mp hreg
      have hxo : x ∈ orb r s' := by rw [← eo]; exact e2
      obtain ⟨m, hm⟩ := (mem_orb hs.pr hs0).mp hxo
      have hup := reg_up hs hs0 (fun y hy => hall y (by rw [eo]; exact hy)) m
      rw [hm] at hup
      have hin : g u x ∈ orb r (g u s') := (mem_orb hs.pr hus).mpr ⟨m, hup.symm⟩
      have k1 : g u x ∈ c2 := (cycle_same hs.pr hmem2 hus hin).mp f2
      have k2 : ∀ d ∈ a2, g u x ∉ d := fun d hd h => f3 d hd ((cycle_same hs.pr (by rw [f1]; simp [hd]) hus hin).mpr h)
      simp only [impl_RowAbove.l0, g1, g2, g3, I_len', rdI, if_true, if_false, hreg]
      refine Ev.bind (rowOf_ev hs.pr hs.le (I u) f1 k1 k2) ?_
      have k3 := min_ev s2 t2 (fun y hy => hleast2 y (by rw [ec2]; simp [hy])) (by rw [ec2] at hcl2; simp at hcl2; omega)
      rw [← ec2] at k3
      exact Ev.bind k3 (Ev.now _)
    | cons y x1 ihx =>
      intro x0 ex hreg
      refine ev_succ ?_
      have hym : y ∈ c := by rw [ex]; simp
      have hy : y < r.length := by rw [eo] at hym; exact orb_lt hs.pr hs0 hym
      have hxl : x0.length < c.length := by rw [ex]; simp
      have g1 : (x0.length : Int) < (c.length : Int) := by omega
      have g2 : (0 : Int) ≤ (x0.length : Int) := by omega
      have g3 : g c x0.length = y := by rw [ex]; exact getD_mid x0 y x1 0
      have g4 : (0 : Int) ≤ (y : Int) := by omega
      have g5 : (y : Int) < ((arnd r u).length : Int) := by rw [arnd_len]; omega
      have g6 := w64s x0.length (by omega)
      have e3 : ((x0 ++ [y]).length : Int) = ((x0.length + 1 : Nat) : Int) := by simp
      by_cases hq : g (arnd r u) y = y
      · have hq' : (((g (arnd r u) y : Nat) : Int) = (y : Int)) := by rw [hq]
        have hn := ihx (x0 ++ [y]) (by rw [ex]; simp) (by unfold regB at hreg ⊢; simp at hreg ⊢; exact ⟨hreg, hq⟩)
        rw [e3] at hn
        simp only [I_len'] at hn
        simp only [impl_RowAbove.l0, g1, g2, rdI, g3, g4, g5, I_len', hq', if_true, g6]
        exact hn
      · have hq' : ¬ (((g (arnd r u) y : Nat) : Int) = (y : Int)) := by omega
        have hr0 : ¬ regB r u c = true := fun h => hq (regB_iff.mp h y hym)
        simp only [impl_RowAbove.l0, g1, g2, rdI, g3, g4, g5, I_len', hq', if_true, if_false, hr0]
        exact Ev.now _
  exact G c [] rfl (by simp [regB])
end Go.Proofs.Ytbdnellgioimbaa.M
end
section
/- The cylinders: rows, and the program. No conditions. -/
namespace Go.Proofs.Ytbdnellgioimbaa.M
set_option linter.unusedVariables false
set_option linter.unusedSimpArgs false
open Go.RowKit Go.Proofs.YtbdnellgioimbaaW.PrintWords Go.Proofs.YtbdnellgioimbaaW.PrintLast Go.Proofs.YtbdnellgioimbaaW.PrintMore Go.Proofs.Ytbdnellgioimbaa.A
def hd (l : List (List Nat)) (j : Nat) : Nat := (l.getD j []).headD 0
theorem hd_eq {l : List (List Nat)} {j : Nat} (h : j < l.length) : hd l j = (l[j]).headD 0 := by
  unfold hd
  rw [List.getD_eq_getElem?_getD, List.getElem?_eq_getElem h]
  rfl
theorem hd_mem {r : List Nat} (hr : IsP r) {i : Nat} (h : i < (cycles r).length) : hd (cycles r) i ∈ (cycles r)[i] ∧ hd (cycles r) i < r.length := by
  obtain ⟨s, t, hs0, ec, eo, _⟩ := cycle_form hr (List.getElem_mem h)
  have e : hd (cycles r) i = s := by rw [hd_eq h, ec]; rfl
  rw [e]
  exact ⟨by rw [ec]; simp, hs0⟩
theorem hd_inj {r : List Nat} (hr : IsP r) {i j : Nat} (hi : i < (cycles r).length) (hj : j < (cycles r).length) (h : hd (cycles r) i = hd (cycles r) j) : i = j := by
  rw [← ix_of_mem hr hi (hd_mem hr hi).1, h, ix_of_mem hr hj (hd_mem hr hj).1]
theorem at_ix {l : List (List Nat)} {a : List (List Nat)} {c : List Nat} {b : List (List Nat)} (e : l = a ++ c :: b) {i : Nat} (hi : i < l.length) (h : a.length = i) : l[i] = c := by
  have h2 : l[i]? = some c := by rw [e, ← h]; simp
  exact (List.getElem?_eq_some_iff.mp h2).2
theorem rowAbove_at {r u : List Nat} (hs : Sf r u) {i : Nat} (hi : i < (cycles r).length) : rowIx (cycles r) (g u (hd (cycles r) i)) < (cycles r).length ∧ Ev (fun k => impl_RowAbove.f k (I r) (I u) ((hd (cycles r) i : Nat) : Int)) (if regB r u ((cycles r)[i]) = true then ((hd (cycles r) (rowIx (cycles r) (g u (hd (cycles r) i))) : Nat) : Int) else -1) := by
  obtain ⟨hm, hx⟩ := hd_mem hs.pr hi
  have hus : g u (hd (cycles r) i) < r.length := by rw [← hs.eq]; exact g_lt hs.pu (by rw [hs.eq]; exact hx)
  obtain ⟨a, c, b, e1, e2, e3⟩ := row_at hs.pr hx
  have ha : a.length = i := by rw [← rowIx_eq e1 e2 e3, ix_of_mem hs.pr hi hm]
  have hc := at_ix e1 hi ha
  obtain ⟨a2, c2, b2, f1, f2, f3⟩ := row_at hs.pr hus
  have ha2 := rowIx_eq f1 f2 f3
  have hl2 : a2.length < (cycles r).length := by rw [f1]; simp
  have hc2 := at_ix f1 hl2 rfl
  have hhead : c.headD 0 = hd (cycles r) i := by rw [hd_eq hi, hc]
  refine ⟨by rw [ha2]; exact hl2, ?_⟩
  have key := rowAbove_impl hs hx e1 e2 e3 hhead f1 f2 f3
  rw [ha2, hd_eq hl2, hc2, hc]
  unfold impl_RowAbove.f
  refine Ev.bind (impl_surf _ _) ?_
  have h0 := surfB_I.mpr hs
  have k1 : ¬ (((hd (cycles r) i : Nat) : Int) < 0) := by omega
  have k2 : ¬ (((hd (cycles r) i : Nat) : Int) ≥ (r.length : Int)) := by omega
  simp only [h0, k1, k2, I_len', if_true, if_false, decide_false]
  exact key
theorem rowAbove_up {r u : List Nat} (hs : Sf r u) {i j : Nat} (h : upA (abL r u) i = some j) : Ev (fun k => impl_RowAbove.f k (I r) (I u) ((hd (cycles r) i : Nat) : Int)) ((hd (cycles r) j : Nat) : Int) := by
  obtain ⟨hi, s, hs0, eo, hm, hreg, hu, e⟩ := upA_form hs h
  obtain ⟨k1, k2⟩ := rowAbove_at hs hi
  have hb : regB r u ((cycles r)[i]) = true := regB_iff.mpr hreg
  rw [if_pos hb] at k2
  unfold upA at h
  rw [abL_len] at h
  rw [rd_abL hi] at h
  have e2 : abv r u ((cycles r)[i]) = ((rowIx (cycles r) (g u (hd (cycles r) i)) : Nat) : Int) := by
    unfold abv
    rw [if_pos hb, hd_eq hi]
  rw [e2, if_pos ⟨hi, by omega⟩] at h
  injection h with h
  have h' : rowIx (cycles r) (g u (hd (cycles r) i)) = j := by omega
  rw [h'] at k2
  exact k2
theorem rowAbove_no {r u : List Nat} (hs : Sf r u) {i : Nat} (hi : i < (cycles r).length) (h : upA (abL r u) i = none) : Ev (fun k => impl_RowAbove.f k (I r) (I u) ((hd (cycles r) i : Nat) : Int)) (-1) := by
  obtain ⟨k1, k2⟩ := rowAbove_at hs hi
  have hb : ¬ regB r u ((cycles r)[i]) = true := by
    intro hb
    unfold upA at h
    rw [abL_len, rd_abL hi] at h
    have e2 : abv r u ((cycles r)[i]) = ((rowIx (cycles r) (g u (hd (cycles r) i)) : Nat) : Int) := by
      unfold abv
      rw [if_pos hb, hd_eq hi]
    rw [e2, if_pos ⟨hi, by omega⟩] at h
    cases h
  rw [if_neg hb] at k2
  exact k2
theorem idxF_ev : ∀ (L : List (List Nat)) (p j : Nat), (∀ c ∈ L, 0 < c.length) → j < L.length → (∀ i, i < j → hd L i ≠ hd L j) → idxF (I2 L) ((hd L j : Nat) : Int) p = some ((p + j : Nat) : Int) := by
  intro L
  induction L with
  | nil => intro p j _ h; simp at h
  | cons c L ih =>
    intro p j hne hj hd'
    have hc := hne c (by simp)
    have e : I2 (c :: L) = I c :: I2 L := rfl
    rw [e]
    have h1 : 0 < (I c).length := by rw [I_len]; exact hc
    have h2 : rd (I c) 0 = ((c.headD 0 : Nat) : Int) := by
      cases c with
      | nil => simp at hc
      | cons x xs => rfl
    unfold idxF
    rw [if_pos h1, h2]
    cases j with
    | zero =>
      have : hd (c :: L) 0 = c.headD 0 := rfl
      rw [this, if_pos rfl]
      rfl
    | succ j =>
      have h3 := hd' 0 (by omega)
      have h4 : hd (c :: L) 0 = c.headD 0 := rfl
      have h5 : hd (c :: L) (j + 1) = hd L j := rfl
      rw [h4, h5] at h3
      rw [h5, if_neg (by omega), ih (p + 1) j (fun d hd2 => hne d (by simp [hd2])) (by simpa using hj) (fun i hi => ?_)]
      · congr 2
        omega
      · have := hd' (i + 1) (by omega)
        rw [h5] at this
        exact this
theorem tab_set {n i v : Nat} {F : Nat → Nat} : (I (tab n F)).set i (v : Int) = I (tab n (fun j => if j = i then v else F j)) := by
  apply List.ext_getElem
  · simp [I, tab]
  · intro k h1 h2
    simp only [I, tab, List.getElem_set, List.getElem_map, List.getElem_range]
    by_cases e : i = k
    · rw [if_pos e, if_pos e.symm]; rfl
    · rw [if_neg e, if_neg (fun h => e h.symm)]
theorem rd_tab {n i : Nat} {F : Nat → Nat} (h : i < n) : rd (I (tab n F)) (i : Int) = ((F i : Nat) : Int) := by rw [rdI, g_tab h]
theorem indexFunc_ev {r : List Nat} (hr : IsP r) (h24 : r.length ≤ 24) {j : Nat} (hj : j < (cycles r).length) : slices_IndexFunc_int_int.f (I2 (cycles r)) ((hd (cycles r) j : Nat) : Int) = some (j : Int) := by
  unfold slices_IndexFunc_int_int.f
  rw [if_pos (by rw [I2_len]; have := cycles_len (p := r) h24; omega)]
  have := idxF_ev (cycles r) 0 j (fun c hc => by obtain ⟨s, t, _, ec, _⟩ := cycle_form hr hc; rw [ec]; simp) hj (fun i hi e => by have := hd_inj hr (by omega) hj e; omega)
  rw [Nat.zero_add] at this
  exact this
theorem rdL_at {l : List (List Nat)} {i : Nat} (h : i < l.length) : rd_L1 (I2 l) (i : Int) = I (l[i]) := by
  obtain ⟨e1, e2⟩ := split_at l i h
  have := rdL_mid (l.take i) (l[i]) (l.drop (i + 1))
  rw [← e1, e2] at this
  exact this
theorem rd_head {c : List Nat} (h : 0 < c.length) : rd (I c) 0 = ((c.headD 0 : Nat) : Int) := by
  cases c with
  | nil => simp at h
  | cons x xs => rfl
end Go.Proofs.Ytbdnellgioimbaa.M
end
section
/- The cylinders: what the program comes to. No conditions. -/
namespace Go.Proofs.Ytbdnellgioimbaa.M
set_option linter.unusedVariables false
set_option linter.unusedSimpArgs false
open Go.RowKit Go.Proofs.YtbdnellgioimbaaW.PrintWords Go.Proofs.YtbdnellgioimbaaW.PrintLast Go.Proofs.YtbdnellgioimbaaW.PrintMore Go.Proofs.Ytbdnellgioimbaa.A
def cntG (G : Nat → Nat) (n i : Nat) : Nat := ((List.range n).filter (fun q => decide (G q = i))).length
theorem cntG_le (G : Nat → Nat) (n i : Nat) : cntG G n i ≤ n := by
  have := List.length_filter_le (fun q => decide (G q = i)) (List.range n)
  rw [List.length_range] at this
  exact this
theorem cntG_succ (G : Nat → Nat) (n i : Nat) : cntG G (n + 1) i = cntG G n i + (if G n = i then 1 else 0) := by
  unfold cntG
  rw [List.range_succ, List.filter_append, List.length_append]
  by_cases h : G n = i <;> simp [h]
def outG (C : List (List Nat)) (G : Nat → Nat) (n i : Nat) : List S44 := ((List.range i).filter (fun q => decide (G q = q))).map (fun q => (⟨(((C.getD q []).length : Nat) : Int), ((cntG G n q : Nat) : Int)⟩ : S44))
theorem outG_len (C : List (List Nat)) (G : Nat → Nat) (n i : Nat) : (outG C G n i).length ≤ i := by
  unfold outG
  rw [List.length_map]
  have := List.length_filter_le (fun q => decide (G q = q)) (List.range i)
  rw [List.length_range] at this
  exact this
theorem outG_yes {C : List (List Nat)} {G : Nat → Nat} {n i : Nat} (h : G i = i) : outG C G n (i + 1) = outG C G n i ++ [(⟨(((C.getD i []).length : Nat) : Int), ((cntG G n i : Nat) : Int)⟩ : S44)] := by
  unfold outG
  rw [List.range_succ, List.filter_append, List.map_append]
  simp [h]
theorem outG_no {C : List (List Nat)} {G : Nat → Nat} {n i : Nat} (h : ¬ G i = i) : outG C G n (i + 1) = outG C G n i := by
  unfold outG
  rw [List.range_succ, List.filter_append, List.map_append]
  simp [h]
theorem impl_l4 {C : List (List Nat)} {G : Nat → Nat} {n i : Nat} (hn : n = C.length) (h24 : n ≤ 24) (hi : i < n) {res : List S44 × Bool}
    (h : Ev (fun k => impl_CylindersOf.l3 k (I (tab n G)) (outG C G n i ++ [(⟨(((C.getD i []).length : Nat) : Int), ((cntG G n i : Nat) : Int)⟩ : S44)]) (I2 C) (n : Int) ((i + 1 : Nat) : Int)) res) :
    ∀ d q : Nat, q + d = n → Ev (fun k => impl_CylindersOf.l4 k (I (tab n G)) (outG C G n i) (i : Int) (I2 C) (n : Int) (i : Int) (I (tab n G)) (n : Int) (q : Int) (((C.getD i []).length : Nat) : Int) ((cntG G q i : Nat) : Int)) res := by
  intro d
  induction d with
  | zero =>
    intro q hq
    obtain rfl : q = n := by omega
    refine ev_succ ?_
    have c1 : ¬ ((q : Int) < (q : Int)) := by omega
    have c2 : (outG C G q i).length < 8796093022208 := by have := outG_len C G q i; omega
    have c3 := w64s i (by omega)
    simp only [impl_CylindersOf.l4, c1, c2, c3, if_true, if_false]
    exact h
  | succ d ih =>
    intro q hq
    refine ev_succ ?_
    have hle := cntG_le G q i
    have c1 : (q : Int) < (n : Int) := by omega
    have c2 : (0 : Int) ≤ (q : Int) := by omega
    have c3 : (q : Int) < ((I (tab n G)).length : Int) := by rw [I_len, tab_len]; exact c1
    have c4 : rd (I (tab n G)) (q : Int) = ((G q : Nat) : Int) := rd_tab (by omega)
    have key := ih (q + 1) (by omega)
    rw [cntG_succ] at key
    by_cases e : G q = i
    · rw [if_pos e] at key
      have e' : ((G q : Nat) : Int) = (i : Int) := by rw [e]
      have c6 := w64s (cntG G q i) (by omega)
      have c5 := w64s q (by omega)
      simp only [impl_CylindersOf.l4, c1, c2, c3, c4, c5, c6, e', if_true]
      exact key
    · rw [if_neg e, Nat.add_zero] at key
      have e' : ¬ (((G q : Nat) : Int) = (i : Int)) := by omega
      have c5 := w64s q (by omega)
      simp only [impl_CylindersOf.l4, c1, c2, c3, c4, c5, e', if_true, if_false]
      exact key
theorem impl_l3 {C : List (List Nat)} {G : Nat → Nat} {n : Nat} (hn : n = C.length) (h24 : n ≤ 24) :
    ∀ d i : Nat, i + d = n → Ev (fun k => impl_CylindersOf.l3 k (I (tab n G)) (outG C G n i) (I2 C) (n : Int) (i : Int)) (outG C G n n, true) := by
  intro d
  induction d with
  | zero =>
    intro i hi
    obtain rfl : i = n := by omega
    refine ev_succ ?_
    have c1 : ¬ ((i : Int) < (i : Int)) := by omega
    simp only [impl_CylindersOf.l3, c1, if_false]
    exact Ev.now _
  | succ d ih =>
    intro i hi
    refine ev_succ ?_
    have hin : i < n := by omega
    have c1 : (i : Int) < (n : Int) := by omega
    have c2 : (0 : Int) ≤ (i : Int) := by omega
    have c3 : (i : Int) < ((I (tab n G)).length : Int) := by rw [I_len, tab_len]; exact c1
    have c3' : (i : Int) < ((I2 C).length : Int) := by rw [I2_len]; omega
    have c4 : rd (I (tab n G)) (i : Int) = ((G i : Nat) : Int) := rd_tab (by omega)
    have hC : i < C.length := by omega
    have c6 : rd_L1 (I2 C) (i : Int) = I (C[i]) := rdL_at hC
    have c7 : ((I (C[i])).length : Int) = (((C.getD i []).length : Nat) : Int) := by rw [I_len, List.getD_eq_getElem?_getD, List.getElem?_eq_getElem hC]; rfl
    have c8 : ((I (tab n G)).length : Int) = (n : Int) := by rw [I_len, tab_len]
    have key := ih (i + 1) (by omega)
    by_cases e : G i = i
    · have e' : ((G i : Nat) : Int) = (i : Int) := by rw [e]
      rw [outG_yes e] at key
      have := impl_l4 (C := C) (G := G) (n := n) (i := i) hn h24 hin key n 0 (Nat.zero_add n)
      rw [show cntG G 0 i = 0 from rfl] at this
      simp only [impl_CylindersOf.l3, c1, c2, c3, c3', c4, c6, c7, e', if_true]
      simp only [c8]
      exact this
    · rw [outG_no e] at key
      have e' : ¬ (((G i : Nat) : Int) = (i : Int)) := by omega
      have c5 := w64s i (by omega)
      simp only [impl_CylindersOf.l3, c1, c2, c3, c3', c4, c5, e', if_true, if_false]
      exact key
theorem impl_l2 {C : List (List Nat)} {r u : List Int} {G : Nat → Nat} {n a b t : Nat} (hn : n = C.length) (h24 : n ≤ 24) (ht : t < n) {res : List S44 × Bool}
    (h : Ev (fun k => impl_CylindersOf.l1 k (I2 C) (I (tab n (mgf G a b))) (I2 C) (n : Int) ((t + 1 : Nat) : Int) r u) res) :
    ∀ d i : Nat, i + d = n → Ev (fun k => impl_CylindersOf.l2 k (I2 C) (I (tab n (fun q => if q < i then mgf G a b q else G q))) (a : Int) (b : Int) (I2 C) (n : Int) (t : Int) (n : Int) (i : Int) r u) res := by
  intro d
  induction d with
  | zero =>
    intro i hi
    obtain rfl : i = n := by omega
    refine ev_succ ?_
    have c1 : ¬ ((i : Int) < (i : Int)) := by omega
    have e : tab i (fun q => if q < i then mgf G a b q else G q) = tab i (mgf G a b) := tab_ext (fun q hq => by rw [if_pos hq])
    have c2 := w64s t (by omega)
    simp only [impl_CylindersOf.l2, c1, c2, e, if_false]
    exact h
  | succ d ih =>
    intro i hi
    refine ev_succ ?_
    have c1 : (i : Int) < (n : Int) := by omega
    have c2 : (0 : Int) ≤ (i : Int) := by omega
    have c3 : (i : Int) < ((I (tab n (fun q => if q < i then mgf G a b q else G q))).length : Int) := by rw [I_len, tab_len]; exact c1
    have c4 : rd (I (tab n (fun q => if q < i then mgf G a b q else G q))) (i : Int) = ((G i : Nat) : Int) := by rw [rd_tab (by omega), if_neg (by omega)]
    have c6 : mn (a : Int) (b : Int) = ((min a b : Nat) : Int) := by unfold mn; split <;> omega
    have c7 : ((i : Int)).toNat = i := rfl
    have key := ih (i + 1) (by omega)
    by_cases e : G i = a ∨ G i = b
    · have e1 : (I (tab n (fun q => if q < i then mgf G a b q else G q))).set i ((min a b : Nat) : Int) = I (tab n (fun q => if q < i + 1 then mgf G a b q else G q)) := by
        rw [tab_set]
        congr 1
        refine tab_ext (fun q hq => ?_)
        by_cases h1 : q = i
        · subst h1
          rw [if_pos rfl, if_pos (by omega)]
          unfold mgf
          rw [if_pos e]
        · rw [if_neg h1]
          by_cases h2 : q < i
          · rw [if_pos h2, if_pos (by omega)]
          · rw [if_neg h2, if_neg (by omega)]
      rw [← e1] at key
      by_cases ea : G i = a
      · have e' : ((G i : Nat) : Int) = (a : Int) := by rw [ea]
        have c5 := w64s i (by omega)
        simp only [impl_CylindersOf.l2, c1, c2, c3, c4, c5, c6, c7, e', if_true]
        exact key
      · have eb : G i = b := by rcases e with e | e; exact absurd e ea; exact e
        have e' : ¬ (((G i : Nat) : Int) = (a : Int)) := by omega
        have e'' : ((G i : Nat) : Int) = (b : Int) := by rw [eb]
        have e3 : ¬ ((b : Int) = (a : Int)) := by omega
        have c5 := w64s i (by omega)
        simp only [impl_CylindersOf.l2, c1, c2, c3, c4, c5, c6, c7, e'', e3, if_true, if_false]
        exact key
    · have ea : ¬ (((G i : Nat) : Int) = (a : Int)) := fun h => e (Or.inl (by omega))
      have eb : ¬ (((G i : Nat) : Int) = (b : Int)) := fun h => e (Or.inr (by omega))
      have e1 : tab n (fun q => if q < i then mgf G a b q else G q) = tab n (fun q => if q < i + 1 then mgf G a b q else G q) := by
        refine tab_ext (fun q hq => ?_)
        by_cases h1 : q = i
        · subst h1
          rw [if_neg (by omega), if_pos (by omega)]
          unfold mgf
          rw [if_neg e]
        · by_cases h2 : q < i
          · rw [if_pos h2, if_pos (by omega)]
          · rw [if_neg h2, if_neg (by omega)]
      rw [← e1] at key
      have c5 := w64s i (by omega)
      simp only [impl_CylindersOf.l2, c1, c2, c3, c4, c5, ea, eb, if_true, if_false]
      exact key
theorem impl_l1 {r u : List Nat} (hs : Sf r u) : ∀ (d t : Nat) (G : Nat → Nat), t + d = (cycles r).length → Grp (cycles r).length (upA (abL r u)) t G →
    ∃ G', Grp (cycles r).length (upA (abL r u)) (cycles r).length G' ∧ ∀ res : List S44 × Bool, Ev (fun k => impl_CylindersOf.l3 k (I (tab (cycles r).length G')) [] (I2 (cycles r)) ((cycles r).length : Int) 0) res →
      Ev (fun k => impl_CylindersOf.l1 k (I2 (cycles r)) (I (tab (cycles r).length G)) (I2 (cycles r)) ((cycles r).length : Int) (t : Int) (I r) (I u)) res := by
  have h24 := cycles_len (p := r) hs.le
  intro d
  induction d with
  | zero =>
    intro t G ht hG
    obtain rfl : t = (cycles r).length := by omega
    refine ⟨G, hG, fun res h => ev_succ ?_⟩
    have c1 : ¬ (((cycles r).length : Int) < ((cycles r).length : Int)) := by omega
    simp only [impl_CylindersOf.l1, c1, if_false, I2_len]
    exact h
  | succ d ih =>
    intro t G ht hG
    have htl : t < (cycles r).length := by omega
    have c1 : (t : Int) < ((cycles r).length : Int) := by omega
    have c2 : (0 : Int) ≤ (t : Int) := by omega
    have c3 : (t : Int) < ((I2 (cycles r)).length : Int) := by rw [I2_len]; omega
    have c3' : (t : Int) < ((I (tab (cycles r).length G)).length : Int) := by rw [I_len, tab_len]; exact c1
    have c6 : rd_L1 (I2 (cycles r)) (t : Int) = I ((cycles r)[t]) := rdL_at htl
    obtain ⟨s, tl, hs0, ec, _, _⟩ := cycle_form hs.pr (List.getElem_mem htl)
    have hcl : 0 < ((cycles r)[t]).length := by rw [ec]; simp
    have c7 : (0 : Int) < ((I ((cycles r)[t])).length : Int) := by rw [I_len]; omega
    have c8 : rd (I ((cycles r)[t])) 0 = ((hd (cycles r) t : Nat) : Int) := by rw [hd_eq htl]; exact rd_head hcl
    cases e : upA (abL r u) t with
    | none =>
      obtain ⟨G', g1, g2⟩ := ih (t + 1) G (by omega) (hG.skip e)
      refine ⟨G', g1, fun res h => ev_succ ?_⟩
      have k1 : (-1 : Int) < 0 := by omega
      simp only [impl_CylindersOf.l1, c1, c2, c3, c6, c7, c8, if_true]
      refine Ev.bind (rowAbove_no hs htl e) ?_
      have c5 := w64s t (by omega)
      simp only [k1, c5, if_true]
      exact g2 res h
    | some j =>
      obtain ⟨hjt, hj⟩ := upA_lt hs _ _ e
      obtain ⟨G', g1, g2⟩ := ih (t + 1) (mgf G (G t) (G j)) (by omega) (hG.merge (upA_lt hs) e)
      refine ⟨G', g1, fun res h => ev_succ ?_⟩
      have k1 : ¬ (((hd (cycles r) j : Nat) : Int) < 0) := by omega
      have k2 : (0 : Int) ≤ (j : Int) := by omega
      have k3 : (j : Int) < ((I (tab (cycles r).length G)).length : Int) := by rw [I_len, tab_len]; omega
      have k4 : rd (I (tab (cycles r).length G)) (t : Int) = ((G t : Nat) : Int) := rd_tab htl
      have k5 : rd (I (tab (cycles r).length G)) (j : Int) = ((G j : Nat) : Int) := rd_tab hj
      have k6 : ((I (tab (cycles r).length G)).length : Int) = ((cycles r).length : Int) := by rw [I_len, tab_len]
      have k7 := indexFunc_ev hs.pr hs.le hj
      simp only [impl_CylindersOf.l1, c1, c2, c3, c6, c7, c8, if_true]
      refine Ev.bind (rowAbove_up hs e) ?_
      simp only [k1, k7, Option.bind_some, if_false]
      simp only [c3', k2, k3, k4, k5, if_true]
      simp only [k6]
      have := impl_l2 (r := I r) (u := I u) rfl h24 htl (g2 res h) (cycles r).length 0 (by omega)
      have e0 : tab (cycles r).length (fun q => if q < 0 then mgf G (G t) (G j) q else G q) = tab (cycles r).length G := tab_ext (fun q hq => by rw [if_neg (by omega)])
      rw [e0] at this
      exact this
theorem impl_cyl {r u : List Nat} (hs : Sf r u) : ∃ G, Grp (cycles r).length (upA (abL r u)) (cycles r).length G ∧ Ev (fun k => impl_CylindersOf.f k (I r) (I u)) (outG (cycles r) G (cycles r).length (cycles r).length, true) := by
  have h24 := cycles_len (p := r) hs.le
  obtain ⟨G, g1, g2⟩ := impl_l1 hs (cycles r).length 0 (fun j => j) (by omega) (Grp.start _ _)
  refine ⟨G, g1, ?_⟩
  have h3 := g2 _ (impl_l3 (C := cycles r) (G := G) rfl h24 (cycles r).length 0 (by omega))
  unfold impl_CylindersOf.f
  refine Ev.bind (impl_surf _ _) ?_
  have h0 := surfB_I.mpr hs
  simp only [h0, if_true]
  refine Ev.bind (impl_cycles hs.pr hs.le) ?_
  have z1 : (0 : Int) ≤ ((cycles r).length : Int) := by omega
  have z2 : (((cycles r).length : Int)).toNat = (cycles r).length := rfl
  have z3 : (cycles r).length ≤ 35184372088832 := by omega
  simp only [I2_len, z1, z2, z3, if_true, Option.bind_some, List.length_replicate]
  have L0 : ∀ d i : Nat, i + d = (cycles r).length → Ev (fun k => impl_CylindersOf.l0 k (I2 (cycles r)) (I (tab (cycles r).length (fun j => if j < i then j else 0))) ((cycles r).length : Int) (i : Int) (I r) (I u)) (outG (cycles r) G (cycles r).length (cycles r).length, true) := by
    intro d
    induction d with
    | zero =>
      intro i hi
      obtain rfl : i = (cycles r).length := by omega
      refine ev_succ ?_
      have c1 : ¬ (((cycles r).length : Int) < ((cycles r).length : Int)) := by omega
      have e : tab (cycles r).length (fun j => if j < (cycles r).length then j else 0) = tab (cycles r).length (fun j => j) := tab_ext (fun q hq => by rw [if_pos hq])
      simp only [impl_CylindersOf.l0, c1, e, if_false, I2_len]
      exact h3
    | succ d ih =>
      intro i hi
      refine ev_succ ?_
      have c1 : (i : Int) < ((cycles r).length : Int) := by omega
      have c2 : (0 : Int) ≤ (i : Int) := by omega
      have c3 : (i : Int) < ((I (tab (cycles r).length (fun j => if j < i then j else 0))).length : Int) := by rw [I_len, tab_len]; exact c1
      have c7 : ((i : Int)).toNat = i := rfl
      have e1 : (I (tab (cycles r).length (fun j => if j < i then j else 0))).set i (i : Int) = I (tab (cycles r).length (fun j => if j < i + 1 then j else 0)) := by
        rw [tab_set]
        congr 1
        refine tab_ext (fun q hq => ?_)
        by_cases h1 : q = i
        · subst h1
          rw [if_pos rfl, if_pos (by omega)]
        · rw [if_neg h1]
          by_cases h2 : q < i
          · rw [if_pos h2, if_pos (by omega)]
          · rw [if_neg h2, if_neg (by omega)]
      have c5 := w64s i (by omega)
      simp only [impl_CylindersOf.l0, c1, c2, c3, c5, c7, e1, if_true]
      exact ih (i + 1) (by omega)
  have e0 : (List.replicate (cycles r).length 0 : List Int) = I (tab (cycles r).length (fun j => if j < 0 then j else 0)) := by
    unfold I tab
    rw [List.map_map]
    apply List.ext_getElem
    · simp
    · intro k h1 h2
      simp
  rw [e0]
  exact L0 (cycles r).length 0 (by omega)
end Go.Proofs.Ytbdnellgioimbaa.M
end
section
/- The cylinders: the reference marks a class. No conditions. -/
namespace Go.Proofs.Ytbdnellgioimbaa.M
set_option linter.unusedVariables false
set_option linter.unusedSimpArgs false
open Go.RowKit Go.Proofs.YtbdnellgioimbaaW.PrintWords Go.Proofs.YtbdnellgioimbaaW.PrintLast Go.Proofs.YtbdnellgioimbaaW.PrintMore Go.Proofs.Ytbdnellgioimbaa.A
theorem Mk.len {n : Nat} {up : Nat → Option Nat} {row : Nat} {S0 add : List Nat} (h : Mk n up row S0 add) : add.length ≤ n := by
  have := nodup_sub_len add (List.range n) h.nd (fun x hx => List.mem_range.mpr (h.lt x hx))
  rw [List.length_range] at this
  exact this
def C1P (up : Nat → Option Nat) (S0 add : List Nat) : Prop := ∀ x ∈ add, ∀ y, up x = some y → y ∈ S0 ∨ y ∈ add
theorem C1P.add {up : Nat → Option Nat} {S0 add : List Nat} (h : C1P up S0 add) {k x : Nat} (e : up k = some x) (hx : x ∈ S0 ∨ x ∈ add) : C1P up S0 (add ++ [k]) := by
  intro z hz y hy
  rcases List.mem_append.mp hz with hz | hz
  · rcases h z hz y hy with h2 | h2
    · exact Or.inl h2
    · exact Or.inr (List.mem_append.mpr (Or.inl h2))
  · have : z = k := by simpa using hz
    rw [this, e] at hy
    injection hy with hy
    rw [← hy]
    rcases hx with hx | hx
    · exact Or.inl hx
    · exact Or.inr (List.mem_append.mpr (Or.inl hx))
end Go.Proofs.Ytbdnellgioimbaa.M
end
section
/- Lists of cylinders: marks. No conditions. -/
namespace Go.Proofs.Ytbdnellgioimbaa.M
set_option linter.unusedVariables false
set_option linter.unusedSimpArgs false
open Go.RowKit Go.Proofs.YtbdnellgioimbaaW.PrintWords Go.Proofs.YtbdnellgioimbaaW.PrintLast Go.Proofs.YtbdnellgioimbaaW.PrintMore Go.Proofs.Ytbdnellgioimbaa.A
theorem rdT_get64 (l : List S44) (i : Nat) (h : i < l.length) : rd_T44 l (i : Int) = l[i] := by
  unfold rd_T44
  simp [List.getD_eq_getElem?_getD, h]
end Go.Proofs.Ytbdnellgioimbaa.M
end
section
/- The least shears: the program and the reference answer alike. No conditions. -/
namespace Go.Proofs.Ytbdnellgioimbaa.M
set_option linter.unusedVariables false
set_option linter.unusedSimpArgs false
open Go.RowKit Go.Proofs.YtbdnellgioimbaaW.PrintWords Go.Proofs.YtbdnellgioimbaaW.PrintLast Go.Proofs.YtbdnellgioimbaaW.PrintMore Go.Proofs.Ytbdnellgioimbaa.A
theorem outG_wide {r : List Nat} (hr : IsP r) (h24 : r.length ≤ 24) (G : Nat → Nat) (m : Nat) : ∀ c ∈ outG (cycles r) G m (cycles r).length, 1 ≤ c.f0 ∧ c.f0 ≤ 24 := by
  intro c hc
  unfold outG at hc
  obtain ⟨q, hq, rfl⟩ := List.mem_map.mp hc
  have hq' : q < (cycles r).length := List.mem_range.mp (List.mem_filter.mp hq).1
  have hm : (cycles r).getD q [] ∈ cycles r := by
    rw [List.getD_eq_getElem?_getD, List.getElem?_eq_getElem hq']
    exact List.getElem_mem hq'
  obtain ⟨s, t, _, e, _⟩ := cycle_form hr hm
  have h1 := cycle_len hr h24 _ hm
  have h2 : 1 ≤ ((cycles r).getD q []).length := by rw [e]; simp
  exact ⟨by show (1 : Int) ≤ ((((cycles r).getD q []).length : Nat) : Int); omega, by show ((((cycles r).getD q []).length : Nat) : Int) ≤ 24; omega⟩
end Go.Proofs.Ytbdnellgioimbaa.M
end
section
/- Plain mathematics: sums and periods. No conditions. -/
namespace Go.Proofs.Ytbdnellgioimbaa.M
set_option linter.unusedVariables false
set_option linter.unusedSimpArgs false
open Go.RowKit Go.Proofs.YtbdnellgioimbaaW.PrintWords Go.Proofs.YtbdnellgioimbaaW.PrintLast Go.Proofs.YtbdnellgioimbaaW.PrintMore
theorem w64n (x : Nat) (h : x ≤ 9000000000000000000) : wrap64 (x : Int) = (x : Int) := w64 (by omega) (by omega)
theorem w64add (x y : Nat) (h : x + y ≤ 9000000000000000000) : wrap64 ((x : Int) + (y : Int)) = ((x + y : Nat) : Int) := by rw [← Int.natCast_add]; exact w64n _ h
def sm (f : Nat → Nat) : Nat → Nat
  | 0 => 0
  | n + 1 => sm f n + f n
theorem sm_congr {f h : Nat → Nat} {n : Nat} (e : ∀ i, i < n → f i = h i) : sm f n = sm h n := by
  induction n with
  | zero => rfl
  | succ n ih => rw [sm, sm, ih (fun i hi => e i (by omega)), e n (by omega)]
theorem sm_add {f h : Nat → Nat} (n : Nat) : sm (fun i => f i + h i) n = sm f n + sm h n := by
  induction n with
  | zero => rfl
  | succ n ih => rw [sm, sm, sm, ih]; omega
theorem sm_zero (n : Nat) : sm (fun _ => 0) n = 0 := by
  induction n with
  | zero => rfl
  | succ n ih => rw [sm, ih]
theorem sm_one (n : Nat) : sm (fun _ => 1) n = n := by
  induction n with
  | zero => rfl
  | succ n ih => rw [sm, ih]
theorem sm_single {a c : Nat} : ∀ n, sm (fun q => if a = q then c else 0) n = if a < n then c else 0 := by
  intro n
  induction n with
  | zero => rfl
  | succ n ih =>
    rw [sm, ih]
    by_cases h : a = n
    · subst h
      simp
    · by_cases h2 : a < n
      · simp [h, h2, Nat.lt_succ_of_lt h2]
      · have h3 : ¬ a < n + 1 := by omega
        simp [h, h2, h3]
theorem sm_list {α : Type} (l : List α) (d : α) (f : α → Nat) : sm (fun q => f (l.getD q d)) l.length = (l.map f).sum := by
  have H : ∀ n, n ≤ l.length → sm (fun q => f (l.getD q d)) n = ((l.take n).map f).sum := by
    intro n
    induction n with
    | zero => intro _; simp [sm]
    | succ n ih =>
      intro h
      have hn : n < l.length := by omega
      have e : l.take (n + 1) = l.take n ++ [l[n]] := by rw [List.take_append_getElem hn]
      rw [sm, ih (by omega), e, List.map_append, List.sum_append]
      simp [List.getD_eq_getElem?_getD, hn]
  have := H l.length (Nat.le_refl _)
  rw [List.take_length] at this
  exact this
theorem flat_len {α : Type} (l : List (List α)) : l.flatten.length = (l.map List.length).sum := by
  induction l with
  | nil => rfl
  | cons a l ih => simp [ih]
theorem per_eq_of {p q : List Nat} (hp : IsP p) (hq : IsP q) {s t : Nat} (hs : s < p.length) (ht : t < q.length) (h : ∀ m, itr p m s = s ↔ itr q m t = t) : per p s = per q t := by
  obtain ⟨a1, _, a3⟩ := per_spec hp hs
  obtain ⟨b1, _, b3⟩ := per_spec hq ht
  have a0 := per_pos p s
  have b0 := per_pos q t
  rcases Nat.lt_trichotomy (per p s) (per q t) with e | e | e
  · exact absurd ((h _).mp a1) (b3 _ a0 e)
  · exact e
  · exact absurd ((h _).mpr b1) (a3 _ b0 e)
theorem itr_comm (p : List Nat) (a b s : Nat) : itr p a (itr p b s) = itr p b (itr p a s) := by
  rw [← itr_add, ← itr_add, Nat.add_comm]
theorem itr_inj {p : List Nat} (hp : IsP p) {k s t : Nat} (hs : s < p.length) (ht : t < p.length) (h : itr p k s = itr p k t) : s = t := by
  induction k with
  | zero => exact h
  | succ k ih => exact ih (g_inj hp (itr_lt hp k hs) (itr_lt hp k ht) h)
theorem per_orb {p : List Nat} (hp : IsP p) {s x : Nat} (hs : s < p.length) (hx : x ∈ orb p s) : per p x = per p s := by
  obtain ⟨k, rfl⟩ := (mem_orb hp hs).mp hx
  refine per_eq_of hp hp (itr_lt hp k hs) hs (fun m => ?_)
  rw [itr_comm]
  constructor
  · intro h
    exact itr_inj hp (itr_lt hp m hs) hs h
  · intro h
    rw [h]
theorem orb_length (p : List Nat) (s : Nat) : (orb p s).length = per p s := by simp [orb, orbTo]
end Go.Proofs.Ytbdnellgioimbaa.M
end
section
/- Cylinders fill the surface. No conditions. -/
namespace Go.Proofs.Ytbdnellgioimbaa.M
set_option linter.unusedVariables false
set_option linter.unusedSimpArgs false
open Go.RowKit Go.Proofs.YtbdnellgioimbaaW.PrintWords Go.Proofs.YtbdnellgioimbaaW.PrintLast Go.Proofs.YtbdnellgioimbaaW.PrintMore Go.Proofs.Ytbdnellgioimbaa.A
def rl (r : List Nat) (q : Nat) : Nat := ((cycles r).getD q []).length
theorem rl_at {r : List Nat} {i : Nat} (h : i < (cycles r).length) : rl r i = ((cycles r)[i]).length := by
  unfold rl
  rw [List.getD_eq_getElem?_getD, List.getElem?_eq_getElem h]
  rfl
theorem rl_per {r : List Nat} (hr : IsP r) {i : Nat} (h : i < (cycles r).length) {x : Nat} (hx : x ∈ (cycles r)[i]) : rl r i = per r x := by
  obtain ⟨s, t, hs0, ec, eo, _⟩ := cycle_form hr (List.getElem_mem h)
  rw [rl_at h]
  rw [eo] at hx ⊢
  rw [orb_length, per_orb hr hs0 hx]
theorem rl_up {r u : List Nat} (hs : Sf r u) {i j : Nat} (h : upA (abL r u) i = some j) : rl r i = rl r j := by
  obtain ⟨hi, s, hs0, eo, hm, hreg, hu, e⟩ := upA_form hs h
  obtain ⟨hj, k1⟩ := rowIx_lt hs.pr hu
  subst e
  rw [rl_per hs.pr hi hm, rl_per hs.pr hj k1]
  refine per_eq_of hs.pr hs.pr hs0 hu (fun m => ?_)
  have hup := reg_up hs hs0 (fun x hx => hreg x (by rw [eo]; exact hx)) m
  rw [← hup]
  constructor
  · intro h
    rw [h]
  · intro h
    exact g_inj hs.pu (by rw [hs.eq]; exact itr_lt hs.pr m hs0) (by rw [hs.eq]; exact hs0) h
theorem rl_cn {r u : List Nat} (hs : Sf r u) {i j : Nat} (h : Cn (upA (abL r u)) i j) : rl r i = rl r j :=
  ((Cn.closed (S := fun k => rl r i = rl r k) (fun a b hab => by rw [rl_up hs hab]) h).mp rfl)
theorem rl_pos {r : List Nat} (hr : IsP r) {i : Nat} (h : i < (cycles r).length) : 1 ≤ rl r i := by
  rw [rl_per hr h (hd_mem hr h).1]
  exact per_pos _ _
theorem rl_sum {r : List Nat} (hr : IsP r) : sm (rl r) (cycles r).length = r.length := by
  have h1 : sm (rl r) (cycles r).length = ((cycles r).map List.length).sum := sm_list (cycles r) [] List.length
  rw [h1, ← flat_len]
  obtain ⟨k1, k2⟩ := cyc_flat_lt hr r.length (Nat.le_refl _)
  have := nodup_len_eq k2 (b := List.range r.length) List.nodup_range (fun x => ⟨fun hx => List.mem_range.mpr (k1 x hx), fun hx => by
    obtain ⟨c, hc, hxc⟩ := cyc_all hr r.length (Nat.le_refl _) x (List.mem_range.mp hx)
    exact mem_flat.mpr ⟨c, hc, hxc⟩⟩)
  rw [List.length_range] at this
  exact this
theorem sm_heads {G : Nat → Nat} {n : Nat} (hlt : ∀ j, j < n → G j < n) (hfix : ∀ j, j < n → G (G j) = G j) (f : Nat → Nat) : ∀ m, m ≤ n → sm (fun q => if G q = q then f q * cntG G m q else 0) n = sm (fun j => f (G j)) m := by
  intro m
  induction m with
  | zero =>
    intro _
    have : ∀ i, i < n → (if G i = i then f i * cntG G 0 i else 0) = 0 := by
      intro i _
      have : cntG G 0 i = 0 := by unfold cntG; rfl
      rw [this]
      split <;> simp
    rw [sm_congr this, sm_zero]
    rfl
  | succ m ih =>
    intro hm
    have e : ∀ q, q < n → (if G q = q then f q * cntG G (m + 1) q else 0) = (if G q = q then f q * cntG G m q else 0) + (if G m = q then f (G m) else 0) := by
      intro q hq
      rw [cntG_succ]
      by_cases h1 : G m = q
      · have h2 : G q = q := by rw [← h1]; exact hfix m (by omega)
        rw [if_pos h2, if_pos h2, if_pos h1, if_pos h1, h1, Nat.mul_add, Nat.mul_one]
      · rw [if_neg h1, if_neg h1]
        simp
    rw [sm_congr e, sm_add, ih (by omega), sm_single, if_pos (hlt m (by omega))]
    rfl
theorem outG_sum (C : List (List Nat)) (G : Nat → Nat) (n : Nat) (F : S44 → Nat) : ∀ i, ((outG C G n i).map F).sum = sm (fun q => if G q = q then F ⟨(((C.getD q []).length : Nat) : Int), ((cntG G n q : Nat) : Int)⟩ else 0) i := by
  intro i
  induction i with
  | zero => rfl
  | succ i ih =>
    rw [sm]
    by_cases h : G i = i
    · rw [outG_yes h, List.map_append, List.sum_append, ih, if_pos h]
      simp
    · rw [outG_no h, ih, if_neg h]
      simp
theorem cyl_area {r u : List Nat} (hs : Sf r u) {G : Nat → Nat} (hG : Grp (cycles r).length (upA (abL r u)) (cycles r).length G) : ((outG (cycles r) G (cycles r).length (cycles r).length).map (fun c => c.f0.toNat * c.f1.toNat)).sum = r.length := by
  rw [outG_sum]
  have hlt : ∀ j, j < (cycles r).length → G j < (cycles r).length := fun j hj => by have := hG.le j hj; omega
  have h1 := sm_heads hlt hG.fix (rl r) (cycles r).length (Nat.le_refl _)
  have h2 : sm (fun j => rl r (G j)) (cycles r).length = sm (rl r) (cycles r).length := sm_congr (fun j hj => (rl_cn hs (hG.cn j hj)).symm)
  rw [h2, rl_sum hs.pr] at h1
  rw [← h1]
  exact sm_congr (fun q hq => by simp only [Int.toNat_natCast]; rfl)
theorem cyl_high {r u : List Nat} {G : Nat → Nat} (hG : Grp (cycles r).length (upA (abL r u)) (cycles r).length G) : ((outG (cycles r) G (cycles r).length (cycles r).length).map (fun c => c.f1.toNat)).sum = (cycles r).length := by
  rw [outG_sum]
  have hlt : ∀ j, j < (cycles r).length → G j < (cycles r).length := fun j hj => by have := hG.le j hj; omega
  have h1 := sm_heads hlt hG.fix (fun _ => 1) (cycles r).length (Nat.le_refl _)
  have h2 : sm (fun j => (fun _ => 1) (G j)) (cycles r).length = (cycles r).length := sm_one _
  rw [h2] at h1
  refine Eq.trans ?_ h1
  exact sm_congr (fun q hq => by simp only [Int.toNat_natCast, Nat.one_mul])
theorem outG_box {r : List Nat} (hr : IsP r) (h24 : r.length ≤ 24) (G : Nat → Nat) : ∀ c ∈ outG (cycles r) G (cycles r).length (cycles r).length, (1 ≤ c.f0 ∧ c.f0 ≤ 24) ∧ (1 ≤ c.f1 ∧ c.f1 ≤ 24) := by
  intro c hc
  refine ⟨outG_wide hr h24 G _ c hc, ?_⟩
  unfold outG at hc
  obtain ⟨q, hq, rfl⟩ := List.mem_map.mp hc
  obtain ⟨h1, h2⟩ := List.mem_filter.mp hq
  have h1 := List.mem_range.mp h1
  have h2 : G q = q := of_decide_eq_true h2
  have h3 := cntG_le G (cycles r).length q
  have h4 := cycles_len (p := r) h24
  have h5 : 1 ≤ cntG G (cycles r).length q := by
    unfold cntG
    refine List.length_pos_of_mem (a := q) (List.mem_filter.mpr ⟨List.mem_range.mpr h1, by simp [h2]⟩)
  exact ⟨by show (1 : Int) ≤ ((cntG G (cycles r).length q : Nat) : Int); omega, by show ((cntG G (cycles r).length q : Nat) : Int) ≤ 24; omega⟩
theorem sum_drop {α : Type} (l : List α) (F : α → Nat) {i : Nat} (h : i < l.length) : ((l.drop i).map F).sum = F l[i] + ((l.drop (i + 1)).map F).sum := by
  rw [List.drop_eq_getElem_cons h, List.map_cons, List.sum_cons]
theorem area_ev (l : List S44) (hl : l.length ≤ 24) (hb : ∀ c ∈ l, (1 ≤ c.f0 ∧ c.f0 ≤ 24) ∧ (1 ≤ c.f1 ∧ c.f1 ≤ 24)) : Ev (fun k => impl_AreaOf.f k l) (((l.map (fun c => c.f0.toNat * c.f1.toNat)).sum : Nat) : Int) := by
  unfold impl_AreaOf.f
  have c0 : ¬ ((l.length : Int) > 24) := by omega
  simp only [c0, if_false]
  have H : ∀ (d i x : Nat), i + d = l.length → x ≤ 576 * i → Ev (fun k => impl_AreaOf.l0 k (x : Int) l (l.length : Int) (i : Int)) (((x + ((l.drop i).map (fun c => c.f0.toNat * c.f1.toNat)).sum : Nat)) : Int) := by
    intro d
    induction d with
    | zero =>
      intro i x hi hx
      refine ev_succ ?_
      have c1 : ¬ ((i : Int) < (l.length : Int)) := by omega
      rw [List.drop_of_length_le (by omega)]
      simp only [impl_AreaOf.l0, c1, if_false]
      exact Ev.now _
    | succ d ih =>
      intro i x hi hx
      have hil : i < l.length := by omega
      obtain ⟨⟨w0, w1⟩, v0, v1⟩ := hb (l[i]) (List.getElem_mem hil)
      rw [sum_drop l _ hil]
      have c1 : (i : Int) < (l.length : Int) := by omega
      have c2 : (0 : Int) ≤ (i : Int) := by omega
      have c4 : rd_T44 l (i : Int) = l[i] := rdT_get64 l i hil
      have n1 : ¬ ((l[i]).f0 < 1) := by omega
      have n2 : ¬ ((l[i]).f0 > 24) := by omega
      have n3 : ¬ ((l[i]).f1 < 1) := by omega
      have n4 : ¬ ((l[i]).f1 > 24) := by omega
      obtain ⟨a, ha⟩ : ∃ a : Nat, (l[i]).f0 = (a : Int) ∧ a ≤ 24 := ⟨(l[i]).f0.toNat, by omega, by omega⟩
      obtain ⟨b, hb'⟩ : ∃ b : Nat, (l[i]).f1 = (b : Int) ∧ b ≤ 24 := ⟨(l[i]).f1.toNat, by omega, by omega⟩
      have hm : a * b ≤ 24 * 24 := Nat.mul_le_mul ha.2 hb'.2
      have key := ih (i + 1) (x + a * b) (by omega) (by omega)
      have e0 : ((l[i]).f0.toNat * (l[i]).f1.toNat) = a * b := by rw [ha.1, hb'.1]; rfl
      have e1 : (l[i]).f0 * (l[i]).f1 = ((a * b : Nat) : Int) := by rw [ha.1, hb'.1, Int.natCast_mul]
      rw [e0, ← Nat.add_assoc]
      refine ev_succ ?_
      have q1 : i ≤ 9000000000000000000 := by omega
      have q2 : a * b ≤ 9000000000000000000 := by omega
      have q3 : x + a * b ≤ 9000000000000000000 := by omega
      have c3 := w64s i q1
      have c5 := w64n (a * b) q2
      have c6 := w64add x (a * b) q3
      simp only [impl_AreaOf.l0, c1, c2, c4, n1, n2, n3, n4, e1, c3, c5, c6, if_true, if_false]
      exact key
  have := H l.length 0 0 (by omega) (by omega)
  simpa using this
theorem laws_has_ev (l : List Int) (a : Int) (hl : l.length ≤ 1000000000) : Ev (fun k => laws_has.f k l a) (decide (a ∈ l)) := by
  have H : ∀ d i : Nat, i + d = l.length → Ev (fun k => laws_has.l0 k a l (l.length : Int) (i : Int)) (decide (a ∈ l.drop i)) := by
    intro d
    induction d with
    | zero =>
      intro i h
      refine ev_succ ?_
      have h1 : ¬ ((i : Int) < (l.length : Int)) := by omega
      have e : decide (a ∈ l.drop i) = false := by
        rw [List.drop_of_length_le (by omega)]
        simp
      simp only [laws_has.l0, h1, if_false]
      rw [e]
      exact Ev.now _
    | succ d ih =>
      intro i h
      refine ev_succ ?_
      have hi : i < l.length := by omega
      have h1 : (i : Int) < (l.length : Int) := by omega
      have h2 : (0 : Int) ≤ (i : Int) := by omega
      have h3 := w64s i (by omega)
      have e := List.drop_eq_getElem_cons hi
      rw [← rd_get l i hi] at e
      by_cases hr : rd l (i : Int) = a
      · have e2 : decide (a ∈ l.drop i) = true := by rw [e, hr]; simp
        simp only [laws_has.l0, h1, h2, hr, if_true]
        rw [e2]
        exact Ev.now _
      · have e2 : decide (a ∈ l.drop i) = decide (a ∈ l.drop (i + 1)) := by
          rw [e]
          have : ¬ a = rd l (i : Int) := fun h => hr h.symm
          simp [this]
        simp only [laws_has.l0, h1, h2, h3, hr, if_true, if_false]
        rw [e2]
        exact ih (i + 1) (by omega)
  have := H l.length 0 (by omega)
  simpa [laws_has.f] using this
theorem cycN_pos {r u : List Nat} (hs : Sf r u) : 1 ≤ (cycles r).length := by
  obtain ⟨a, c, b, e, _⟩ := row_at hs.pr hs.pos
  rw [e, List.length_append, List.length_cons]
  omega
end Go.Proofs.Ytbdnellgioimbaa.M
end
section
/- Numbers drawn out of a code. No conditions. -/
namespace Go.Proofs.Ytbdnellgioimbaa.M
set_option linter.unusedVariables false
set_option linter.unusedSimpArgs false
open Go.RowKit Go.Proofs.YtbdnellgioimbaaW.PrintWords Go.Proofs.YtbdnellgioimbaaW.PrintLast Go.Proofs.YtbdnellgioimbaaW.PrintMore Go.Proofs.Ytbdnellgioimbaa.A
theorem and255 (n : Int) : Go.bits .and .i64 n 255 = n % 256 := by
  have h : (BitVec.ofInt 64 255).toNat = 2 ^ 8 - 1 := by decide
  have key : (BitVec.ofInt 64 n &&& BitVec.ofInt 64 255).toNat = (n % ((2 ^ 64 : Nat) : Int)).toNat % 2 ^ 8 := by
    rw [BitVec.toNat_and, BitVec.toNat_ofInt, h, Nat.and_two_pow_sub_one_eq_mod]
  show IntKind.i64.wrap ((BitVec.ofInt 64 n &&& BitVec.ofInt 64 255).toNat : Nat) = n % 256
  rw [key, IntKind.wrap_i64]
  omega
theorem byte_draw (b : List Int) (i h : Int) (hi : 0 ≤ i) (hl : i ≤ b.length) (hb : b.length ≤ 1000000000) : ∃ x i' h', spec_l01Byte.f b i h = some (x, i', h') ∧ 0 ≤ x ∧ x ≤ 255 ∧ 0 ≤ i' ∧ i' ≤ b.length := by
  unfold spec_l01Byte.f
  by_cases c : i < (b.length : Int)
  · have e : wrap64 (i + 1) = i + 1 := w64 (by omega) (by omega)
    simp only [c, hi, if_true, and255, e]
    exact ⟨_, _, _, rfl, by omega, by omega, by omega, by omega⟩
  · simp only [c, if_false, and255]
    exact ⟨_, _, _, rfl, by omega, by omega, by omega, by omega⟩
theorem below_draw (b : List Int) (i h a : Int) (hi : 0 ≤ i) (hl : i ≤ b.length) (hb : b.length ≤ 1000000000) (h0 : 0 < a) (h1 : a ≤ 256) : ∃ x i' h', spec_l01Below.f b i h a = some (x, i', h') ∧ 0 ≤ x ∧ x < a ∧ 0 ≤ i' ∧ i' ≤ b.length := by
  obtain ⟨x, i', h', e, x0, x1, j0, j1⟩ := byte_draw b i h hi hl hb
  unfold spec_l01Below.f
  have c1 : ¬ a ≤ 0 := by omega
  have c2 : ¬ a = 0 := by omega
  simp only [c1, h1, e, c2, if_true, if_false, Option.bind_some]
  refine ⟨_, _, _, rfl, ?_, ?_, j0, j1⟩
  · rw [Int.tmod_eq_emod_of_nonneg x0]
    exact Int.emod_nonneg _ c2
  · rw [Int.tmod_eq_emod_of_nonneg x0]
    exact Int.emod_lt_of_pos _ h0
theorem new_draw (b : List Int) (hb : b.length ≤ 1000000000) : ∃ h, Ev (fun k => spec_l01New.f k b) (b, 0, h) := by
  unfold spec_l01New.f
  have H : ∀ (d i : Nat) (x : Int), i + d = b.length → ∃ h, Ev (fun k => spec_l01New.l0 k b x (i : Int)) (b, 0, h) := by
    intro d
    induction d with
    | zero =>
      intro i x hi
      refine ⟨x, ev_succ ?_⟩
      have c1 : ¬ ((i : Int) < (b.length : Int)) := by omega
      simp only [spec_l01New.l0, c1, if_false]
      exact Ev.now _
    | succ d ih =>
      intro i x hi
      have c1 : (i : Int) < (b.length : Int) := by omega
      have c2 : (0 : Int) ≤ (i : Int) := by omega
      have c3 := w64s i (by omega)
      by_cases c4 : (i : Int) < 4000
      · obtain ⟨h, e⟩ := ih (i + 1) (Go.bits .and .i64 (wrap64 ((wrap64 ((wrap64 (x * 109)) + (wrap64 (rd b (i : Int))))) + 7)) 1073741823) (by omega)
        refine ⟨h, ev_succ ?_⟩
        simp only [spec_l01New.l0, c1, c2, c3, c4, if_true]
        exact e
      · refine ⟨x, ev_succ ?_⟩
        simp only [spec_l01New.l0, c1, c4, if_true, if_false]
        exact Ev.now _
  exact H b.length 0 _ (by omega)
end Go.Proofs.Ytbdnellgioimbaa.M
end
section
/- Slopes and paths: the program and the reference answer alike. No conditions. -/
namespace Go.Proofs.Ytbdnellgioimbaa.M
set_option linter.unusedVariables false
set_option linter.unusedSimpArgs false
open Go.RowKit Go.Proofs.YtbdnellgioimbaaW.PrintWords Go.Proofs.YtbdnellgioimbaaW.PrintLast Go.Proofs.YtbdnellgioimbaaW.PrintMore Go.Proofs.Ytbdnellgioimbaa.A
theorem tab_snoc (i : Nat) (f : Nat → Nat) : tab i f ++ [f i] = tab (i + 1) f := by unfold tab; rw [List.range_succ]; simp
theorem spec_then {p q : List Nat} (hp : ∀ i, i < p.length → g p i < q.length) (h : p.length ≤ 1000) : Ev (fun k => spec_l02Then.f k (I p) (I q)) (I (thn p q)) := by
  unfold spec_l02Then.f
  have H : ∀ d i : Nat, i + d = p.length → Ev (fun k => spec_l02Then.l0 k (I q) (I (tab i (fun i => g q (g p i)))) (I p) (p.length : Int) (i : Int)) (I (thn p q)) := by
    intro d
    induction d with
    | zero =>
      intro i h
      obtain rfl : i = p.length := by omega
      refine ev_succ ?_
      have h1 : ¬ ((p.length : Int) < (p.length : Int)) := by omega
      simp only [spec_l02Then.l0, h1, if_false]
      exact Ev.now _
    | succ d ih =>
      intro i h
      have hi : i < p.length := by omega
      have hg := hp i hi
      refine ev_succ ?_
      have h1 : (i : Int) < (p.length : Int) := by omega
      have h2 := w64s i (by omega)
      have h3 : (I (tab i (fun i => g q (g p i)))).length < 17592186044416 := by rw [I_len, tab_len]; omega
      have h4 : (0 : Int) ≤ (i : Int) := by omega
      have h5 : (0 : Int) ≤ ((g p i : Nat) : Int) := by omega
      have h6 : ((g p i : Nat) : Int) < (q.length : Int) := by omega
      have e := tab_snoc i (fun i => g q (g p i))
      simp only [spec_l02Then.l0, h1, h2, h3, h4, h5, h6, rdI, I_len', if_true, I_snoc, e]
      exact ih (i + 1) (by omega)
  have := H p.length 0 (by omega)
  simp only [I_len']
  exact this
end Go.Proofs.Ytbdnellgioimbaa.M
end
section
/- Plain mathematics: surfaces, and what the four letters make of them. No conditions. -/
namespace Go.Proofs.Ytbdnellgioimbaa.M
set_option linter.unusedVariables false
set_option linter.unusedSimpArgs false
theorem st1_mem {out : List Nat} {x y : Nat} : y ∈ st1 out x ↔ y ∈ out ∨ y = x := by
  unfold st1
  split
  · rename_i h
    constructor
    · exact Or.inl
    · rintro (h' | rfl)
      · exact h'
      · exact h
  · simp
theorem st1_g {out : List Nat} {x i : Nat} (h : i < out.length) : g (st1 out x) i = g out i := by
  unfold st1
  split
  · rfl
  · unfold g
    rw [List.getD_eq_getElem?_getD, List.getD_eq_getElem?_getD, List.getElem?_append_left h]
theorem st1_le (out : List Nat) (x : Nat) : out.length ≤ (st1 out x).length := by
  unfold st1
  split
  · exact Nat.le_refl _
  · simp
theorem bfs_ind {r u : List Nat} {n : Nat} (S : Nat → Prop) (h1 : ∀ x, x < n → S x → S (g r x) ∧ g r x < n) (h2 : ∀ x, x < n → S x → S (g u x) ∧ g u x < n) : ∀ (F a : Nat) (out : List Nat), (∀ x ∈ out, S x ∧ x < n) → ∀ x ∈ bfs r u F a out, S x ∧ x < n := by
  intro F
  induction F with
  | zero => intro a out h; exact h
  | succ F ih =>
    intro a out h
    unfold bfs
    split
    · rename_i ha
      obtain ⟨s, l⟩ := h _ (g_mem ha)
      refine ih _ _ (fun x hx => ?_)
      rcases st1_mem.mp hx with hx | rfl
      · rcases st1_mem.mp hx with hx | rfl
        · exact h x hx
        · exact h1 _ l s
      · exact h2 _ l s
    · exact h
theorem bfs_sub {r u : List Nat} : ∀ (F a : Nat) (out : List Nat), ∀ x ∈ out, x ∈ bfs r u F a out := by
  intro F
  induction F with
  | zero => intro a out x h; exact h
  | succ F ih =>
    intro a out x h
    unfold bfs
    split
    · exact ih _ _ x (st1_mem.mpr (.inl (st1_mem.mpr (.inl h))))
    · exact h
theorem bfs_rinv {r u : List Nat} {n : Nat} (h1 : ∀ x, x < n → g r x < n) (h2 : ∀ x, x < n → g u x < n) : ∀ (F a : Nat) (out : List Nat), RInv n out → RInv n (bfs r u F a out) := by
  intro F
  induction F with
  | zero => intro a out h; exact h
  | succ F ih =>
    intro a out h
    unfold bfs
    split
    · rename_i ha
      have hx := h.g ha
      exact ih _ _ ((h.st (h1 _ hx)).st (h2 _ hx))
    · exact h
theorem bfs_shut {r u : List Nat} {n : Nat} (h1 : ∀ x, x < n → g r x < n) (h2 : ∀ x, x < n → g u x < n) : ∀ (F a : Nat) (out : List Nat), RInv n out → a ≤ out.length → n < F + a → (∀ i, i < a → g r (g out i) ∈ out ∧ g u (g out i) ∈ out) → ∀ x ∈ bfs r u F a out, g r x ∈ bfs r u F a out ∧ g u x ∈ bfs r u F a out := by
  intro F
  induction F with
  | zero =>
    intro a out h ha hF
    have := h.le
    omega
  | succ F ih =>
    intro a out h ha hF hc
    unfold bfs
    split
    · rename_i ha'
      have hx := h.g ha'
      have r1 := h.st (h1 _ hx)
      have l1 := st1_le out (g r (g out a))
      have l2 := st1_le (st1 out (g r (g out a))) (g u (g out a))
      refine ih _ _ (r1.st (h2 _ hx)) (by omega) (by omega) (fun i hi => ?_)
      have e : g (st1 (st1 out (g r (g out a))) (g u (g out a))) i = g out i := by
        rw [st1_g (by omega), st1_g (by omega)]
      rw [e]
      by_cases hia : i < a
      · exact ⟨st1_mem.mpr (.inl (st1_mem.mpr (.inl (hc i hia).1))), st1_mem.mpr (.inl (st1_mem.mpr (.inl (hc i hia).2)))⟩
      · obtain rfl : i = a := by omega
        exact ⟨st1_mem.mpr (.inl (st1_mem.mpr (.inr rfl))), st1_mem.mpr (.inr rfl)⟩
    · intro x hx
      obtain ⟨i, hi, rfl⟩ := mem_g hx
      exact hc i (by omega)
theorem nodup_sub_len5 : ∀ (a b : List Nat), a.Nodup → (∀ x ∈ a, x ∈ b) → a.length ≤ b.length := by
  intro a
  induction a with
  | nil => intro b _ _; simp
  | cons x a ih =>
    intro b hn h
    obtain ⟨h1, h2⟩ := List.nodup_cons.mp hn
    have hx : x ∈ b := h x (by simp)
    have := ih (b.erase x) h2 (fun y hy => (List.mem_erase_of_ne (fun e => h1 (by rw [← e]; exact hy))).mpr (h y (by simp [hy])))
    rw [List.length_erase_of_mem hx] at this
    have hp := List.length_pos_of_mem hx
    simp
    omega
def Tr (r u : List Nat) : Prop := ∀ S : Nat → Prop, S 0 → (∀ x, x < r.length → S x → S (g r x)) → (∀ x, x < r.length → S x → S (g u x)) → ∀ x, x < r.length → S x
theorem sf_of_tr {r u : List Nat} (pr : IsP r) (pu : IsP u) (le : r.length ≤ 24) (eq : u.length = r.length) (pos : 0 < r.length) (h : Tr r u) : Sf r u := by
  have b1 : ∀ x, x < r.length → g r x < r.length := fun x hx => g_lt pr hx
  have b2 : ∀ x, x < r.length → g u x < r.length := fun x hx => by have := g_lt pu (i := x) (by omega); omega
  have hri : RInv r.length (reach r u 0) := bfs_rinv b1 b2 _ _ _ ⟨by simp, by simpa using pos⟩
  have hsh := bfs_shut b1 b2 (r.length + 1) 0 [0] ⟨by simp, by simpa using pos⟩ (by simp) (by omega) (fun i hi => by omega)
  have hall : ∀ x, x < r.length → x ∈ reach r u 0 := h (fun x => x ∈ reach r u 0) (bfs_sub _ _ _ 0 (by simp)) (fun x _ hx => (hsh x hx).1) (fun x _ hx => (hsh x hx).2)
  refine ⟨pr, pu, le, eq, pos, ?_⟩
  have l1 := hri.le
  have l2 := nodup_sub_len5 (List.range r.length) (reach r u 0) List.nodup_range (fun x hx => hall x (List.mem_range.mp hx))
  rw [List.length_range] at l2
  omega
theorem Sf.tr {r u : List Nat} (hs : Sf r u) : Tr r u := by
  intro S s0 h1 h2 x hx
  have b1 : ∀ x, x < r.length → g r x < r.length := fun x hx => g_lt hs.pr hx
  have b2 : ∀ x, x < r.length → g u x < r.length := fun x hx => by have := g_lt hs.pu (i := x) (by rw [hs.eq]; exact hx); rw [hs.eq] at this; exact this
  have hri : RInv r.length (reach r u 0) := bfs_rinv b1 b2 _ _ _ ⟨by simp, by simpa using hs.pos⟩
  have hp : IsP (reach r u 0) := ⟨fun x hx => by rw [hs.all]; exact hri.lt x hx, hri.nd⟩
  have hm := mem_all hp (x := x) (by rw [hs.all]; exact hx)
  have h0 : ∀ y ∈ [0], S y ∧ y < r.length := by
    intro y hy
    obtain rfl : y = 0 := by simpa using hy
    exact ⟨s0, hs.pos⟩
  exact (bfs_ind S (fun x hx h => ⟨h1 x hx h, b1 x hx⟩) (fun x hx h => ⟨h2 x hx h, b2 x hx⟩) _ _ [0] h0 x hm).1
theorem sf_T {r u : List Nat} (hs : Sf r u) : Sf r (thn (inv r) u) := by
  have h1 : (inv r).length = u.length := by rw [inv_len, hs.eq]
  refine sf_of_tr hs.pr (isP_thn (isP_inv hs.pr) hs.pu h1) hs.le (by rw [thn_len, inv_len]) hs.pos (fun S s0 k1 k2 => hs.tr S s0 k1 (fun x hx hsx => ?_))
  have := k2 (g r x) (g_lt hs.pr hx) (k1 x hx hsx)
  rw [g_thn (by rw [inv_len]; exact g_lt hs.pr hx), g_inv (g_lt hs.pr hx), ix_g hs.pr hx] at this
  exact this
end Go.Proofs.Ytbdnellgioimbaa.M
end
section
/- Drawn surfaces. No conditions. -/
namespace Go.Proofs.Ytbdnellgioimbaa.M
set_option linter.unusedVariables false
set_option linter.unusedSimpArgs false
open Go.RowKit Go.Proofs.YtbdnellgioimbaaW.PrintWords Go.Proofs.YtbdnellgioimbaaW.PrintLast Go.Proofs.YtbdnellgioimbaaW.PrintMore Go.Proofs.Ytbdnellgioimbaa.A
theorem perm_draw (b : List Int) (hb : b.length ≤ 1000000000) (n : Nat) (hn : n ≤ 100) (i h : Int) (hi : 0 ≤ i) (hl : i ≤ b.length) : ∃ l i' h', l.length = n ∧ 0 ≤ i' ∧ i' ≤ (b.length : Int) ∧ Ev (fun k => spec_l02Draw.f k b i h (n : Int)) (l, i', h') := by
  unfold spec_l02Draw.f
  have H : ∀ (d j : Nat) (l : List Int) (i h : Int), j + d = n → l.length = j → 0 ≤ i → i ≤ (b.length : Int) → ∃ l' i' h', l'.length = n ∧ 0 ≤ i' ∧ i' ≤ (b.length : Int) ∧ Ev (fun k => spec_l02Draw.l0 k (n : Int) l (j : Int) b i h) (l', i', h') := by
    intro d
    induction d with
    | zero =>
      intro j l i h hj hl i0 i1
      obtain rfl : j = n := by omega
      refine ⟨l, i, h, hl, i0, i1, ev_succ ?_⟩
      have c1 : ¬ ((j : Int) < (j : Int)) := by omega
      simp only [spec_l02Draw.l0, c1, if_false]
      exact Ev.now _
    | succ d ih =>
      intro j l i h hj hl i0 i1
      obtain ⟨x, i', h', e, x0, x1, j0, j1⟩ := below_draw b i h ((j + 1 : Nat) : Int) i0 i1 hb (by omega) (by omega)
      have hlen : (l ++ [(j : Int)]).length = j + 1 := by simp [hl]
      obtain ⟨l2, i2, h2, k0, k1, k2, k3⟩ := ih (j + 1) (((l ++ [(j : Int)]).set ((j : Int)).toNat (rd (l ++ [(j : Int)]) x)).set x.toNat (j : Int)) i' h' (by omega) (by rw [List.length_set, List.length_set, hlen]) j0 j1
      refine ⟨l2, i2, h2, k0, k1, k2, ev_succ ?_⟩
      have c1 : (j : Int) < (n : Int) := by omega
      have c2 : l.length < 17592186044416 := by omega
      have c4 : x < ((l ++ [(j : Int)]).length : Int) := by rw [hlen]; exact x1
      have c5 : (0 : Int) ≤ (j : Int) := by omega
      have c6 : (j : Int) < ((l ++ [(j : Int)]).length : Int) := by rw [hlen]; omega
      have c3 := w64s j (by omega)
      simp only [spec_l02Draw.l0, c1, c2, c3, e, x0, c4, c5, c6, if_true, Option.bind_some]
      exact k3
  exact H n 0 [] i h (by omega) rfl hi hl
def smallS : Option (List Int × List Int × Bool) → Bool
  | some z => surfB z.1 z.2.1 && decide (z.1.length ≤ 12)
  | none => false
theorem smallS_ok : ∀ {z : Option (List Int × List Int × Bool)}, smallS z = true → ∃ r u b, z = some (I r, I u, b) ∧ Sf r u ∧ r.length ≤ 12
  | none, h => by cases h
  | some (x, y, b), h => by
    have h' := (Bool.and_eq_true _ _).mp h
    obtain ⟨r, u, e1, e2, hs⟩ := surf_nat h'.1
    have e1 : x = I r := e1
    have e2 : y = I u := e2
    have h2 : x.length ≤ 12 := of_decide_eq_true h'.2
    refine ⟨r, u, b, by rw [e1, e2], hs, ?_⟩
    rw [e1, I_len] at h2
    exact h2
theorem ell_tab : ∀ a : Fin 6, ∀ b : Fin 5, 1 ≤ a.val → 1 ≤ b.val → smallS (spec_EllOf.f 400 (a.val : Int) (b.val : Int)) = true := by decide +kernel
theorem torus_tab : ∀ a : Fin 5, ∀ b : Fin 4, 1 ≤ a.val → 1 ≤ b.val → smallS (spec_TorusOf.f 400 (a.val : Int) (b.val : Int)) = true := by decide +kernel
theorem ell_ev (a b : Nat) (h1 : 1 ≤ a) (h2 : a ≤ 5) (h3 : 1 ≤ b) (h4 : b ≤ 4) : ∃ r u c, Ev (fun k => spec_EllOf.f k (a : Int) (b : Int)) (I r, I u, c) ∧ Sf r u ∧ r.length ≤ 12 := by
  obtain ⟨r, u, c, e, hs, hl⟩ := smallS_ok (ell_tab ⟨a, by omega⟩ ⟨b, by omega⟩ h1 h3)
  exact ⟨r, u, c, Ev.of (fun k => spec_EllOf.mono _ _ _) e, hs, hl⟩
theorem torus_ev (a b : Nat) (h1 : 1 ≤ a) (h2 : a ≤ 4) (h3 : 1 ≤ b) (h4 : b ≤ 3) : ∃ r u c, Ev (fun k => spec_TorusOf.f k (a : Int) (b : Int)) (I r, I u, c) ∧ Sf r u ∧ r.length ≤ 12 := by
  obtain ⟨r, u, c, e, hs, hl⟩ := smallS_ok (torus_tab ⟨a, by omega⟩ ⟨b, by omega⟩ h1 h3)
  exact ⟨r, u, c, Ev.of (fun k => spec_TorusOf.mono _ _ _) e, hs, hl⟩
theorem surf_draw (b : List Int) (hb : b.length ≤ 1000000000) (m : Nat) (h1 : 1 ≤ m) (h2 : m ≤ 5) (i h : Int) (hi : 0 ≤ i) (hl : i ≤ b.length) : ∃ r u i' h', (Sf r u ∧ r.length ≤ 12) ∧ Ev (fun k => spec_l03Draw.f k b i h (m : Int)) (I r, I u, i', h') := by
  obtain ⟨x, i1, h1', e, x0, x1, j0, j1⟩ := below_draw b i h (m : Int) hi hl hb (by omega) (by omega)
  unfold spec_l03Draw.f
  obtain ⟨n, hn⟩ : ∃ n : Nat, wrap64 (1 + x) = (n : Int) ∧ 1 ≤ n ∧ n ≤ 5 := ⟨(1 + x).toNat, by rw [w64 (by omega) (by omega)]; omega, by omega, by omega⟩
  obtain ⟨hn, n1, n5⟩ := hn
  simp only [e, Option.bind_some, hn]
  clear e hn
  have H : ∀ (d t : Nat) (i h : Int), t + d = 8 → 0 ≤ i → i ≤ (b.length : Int) → ∃ r u i' h', (Sf r u ∧ r.length ≤ 12) ∧ Ev (fun k => spec_l03Draw.l0 k (n : Int) (t : Int) b i h) (I r, I u, i', h') := by
    intro d
    induction d with
    | zero =>
      intro t i h ht i0 i1
      obtain rfl : t = 8 := by omega
      obtain ⟨r, u, c, e, hs, hl⟩ := ell_ev n 1 n1 n5 (by omega) (by omega)
      refine ⟨r, u, i, h, ⟨hs, hl⟩, ev_succ ?_⟩
      have c1 : ¬ (((8 : Nat) : Int) < 8) := by omega
      simp only [spec_l03Draw.l0, c1, if_false]
      exact Ev.bind e (Ev.now _)
    | succ d ih =>
      intro t i h ht i0 i1
      obtain ⟨p, i2, h2, pl, j0, j1, e1⟩ := perm_draw b hb n (by omega) i h i0 i1
      obtain ⟨q, i3, h3, ql, k0, k1, e2⟩ := perm_draw b hb n (by omega) i2 h2 j0 j1
      have c1 : (t : Int) < 8 := by omega
      have c2 := w64s t (by omega)
      by_cases hs : surfB p q = true
      · have hs' := hs
        obtain ⟨r, u, rfl, rfl, hsf⟩ := surf_nat hs
        rw [I_len] at pl
        refine ⟨r, u, i3, h3, ⟨hsf, by omega⟩, ev_succ ?_⟩
        simp only [spec_l03Draw.l0, c1, if_true]
        refine Ev.bind e1 (Ev.bind e2 (Ev.bind (spec_surf _ _) ?_))
        simp only [hs', if_true]
        exact Ev.now _
      · obtain ⟨r, u, i4, h4, hh, e4⟩ := ih (t + 1) i3 h3 (by omega) k0 k1
        refine ⟨r, u, i4, h4, hh, ev_succ ?_⟩
        simp only [spec_l03Draw.l0, c1, c2, if_true]
        refine Ev.bind e1 (Ev.bind e2 (Ev.bind (spec_surf _ _) ?_))
        simp only [hs, if_false]
        exact e4
  exact H 8 0 _ _ (by omega) j0 j1
theorem spec_shear {r u : List Nat} (hs : Sf r u) : Ev (fun k => spec_l05Shear.f k (I r) (I u)) (I r, I (thn (inv r) u)) := by
  have hle := hs.le
  unfold spec_l05Shear.f
  have c1 : ([] : List Int).length + (I r).length < 17592186044416 := by rw [I_len]; simp; omega
  simp only [Option.bind_some, c1, if_true, List.nil_append]
  refine Ev.bind (spec_inv hs.pr hs.le) (Ev.bind (spec_then (p := inv r) (q := u) (fun i hi => ?_) (by rw [inv_len]; omega)) (Ev.now _))
  have := g_lt (isP_inv hs.pr) hi
  rw [inv_len] at this
  rw [hs.eq]
  exact this
theorem makeSurf_ev (b : List Int) (hb : b.length ≤ 1000000000) : ∃ r u, Sf r u ∧ r.length ≤ 12 ∧ Ev (fun k => spec_MakeSurface.f k b) (I r, I u) := by
  obtain ⟨h0, e0⟩ := new_draw b hb
  unfold spec_MakeSurface.f
  obtain ⟨x, i1, h1, e1, x0, x1, j0, j1⟩ := below_draw b 0 h0 4 (by omega) (by omega) hb (by omega) (by omega)
  by_cases cx : x = 0
  · obtain ⟨y, i2, h2, e2, y0, y1, k0, k1⟩ := below_draw b i1 h1 4 j0 j1 hb (by omega) (by omega)
    obtain ⟨z, i3, h3, e3, z0, z1, l0, l1⟩ := below_draw b i2 h2 3 k0 k1 hb (by omega) (by omega)
    obtain ⟨v, i4, h4, e4, v0, v1, m0, m1⟩ := below_draw b i3 h3 4 l0 l1 hb (by omega) (by omega)
    obtain ⟨r, u, c, et, hs, hl⟩ := torus_ev (1 + y).toNat (1 + z).toNat (by omega) (by omega) (by omega) (by omega)
    have wy : wrap64 (1 + y) = (((1 + y).toNat : Nat) : Int) := by rw [w64 (by omega) (by omega)]; omega
    have wz : wrap64 (1 + z) = (((1 + z).toNat : Nat) : Int) := by rw [w64 (by omega) (by omega)]; omega
    have H : ∀ (n : Nat), n ≤ 4 → ∀ r u, Sf r u → r.length ≤ 12 → ∃ r' u', Sf r' u' ∧ r'.length ≤ 12 ∧ Ev (fun k => spec_MakeSurface.l0 k (n : Int) (I r) (I u)) (I r', I u') := by
      intro n
      induction n with
      | zero =>
        intro _ r u hs hl
        refine ⟨r, u, hs, hl, ev_succ ?_⟩
        have c1 : ¬ (((0 : Nat) : Int) > 0) := by omega
        simp only [spec_MakeSurface.l0, c1, if_false]
        exact Ev.now _
      | succ n ih =>
        intro hn r u hs hl
        obtain ⟨r', u', g1, g2, g3⟩ := ih (by omega) r _ (sf_T hs) hl
        refine ⟨r', u', g1, g2, ev_succ ?_⟩
        have c1 : ((n + 1 : Nat) : Int) > 0 := by omega
        have c2 : wrap64 (((n + 1 : Nat) : Int) - 1) = (n : Int) := by rw [w64 (by omega) (by omega)]; omega
        simp only [spec_MakeSurface.l0, c1, c2, if_true]
        exact Ev.bind (spec_shear hs) g3
    obtain ⟨r', u', g1, g2, g3⟩ := H v.toNat (by omega) r u hs hl
    rw [Int.toNat_of_nonneg v0] at g3
    refine ⟨r', u', g1, g2, Ev.bind e0 ?_⟩
    simp only [e1, e2, e3, e4, Option.bind_some, cx, wy, wz, if_true]
    exact Ev.bind et g3
  · by_cases cx1 : x = 1
    · obtain ⟨y, i2, h2, e2, y0, y1, k0, k1⟩ := below_draw b i1 h1 4 j0 j1 hb (by omega) (by omega)
      obtain ⟨z, i3, h3, e3, z0, z1, l0, l1⟩ := below_draw b i2 h2 4 k0 k1 hb (by omega) (by omega)
      obtain ⟨r, u, c, et, hs, hl⟩ := ell_ev (1 + y).toNat (1 + z).toNat (by omega) (by omega) (by omega) (by omega)
      have wy : wrap64 (1 + y) = (((1 + y).toNat : Nat) : Int) := by rw [w64 (by omega) (by omega)]; omega
      have wz : wrap64 (1 + z) = (((1 + z).toNat : Nat) : Int) := by rw [w64 (by omega) (by omega)]; omega
      refine ⟨r, u, hs, hl, Ev.bind e0 ?_⟩
      have c1 : ¬ ((1 : Int) = 0) := by omega
      simp only [e1, e2, e3, Option.bind_some, cx1, c1, wy, wz, if_true, if_false]
      exact Ev.bind et (Ev.now _)
    · obtain ⟨r, u, i2, h2, ⟨hs, hl⟩, e2⟩ := surf_draw b hb 5 (by omega) (by omega) i1 h1 j0 j1
      refine ⟨r, u, hs, hl, Ev.bind e0 ?_⟩
      simp only [e1, Option.bind_some, cx, cx1, if_false]
      exact Ev.bind e2 (Ev.now _)
end Go.Proofs.Ytbdnellgioimbaa.M
end
section
/- The law of cylinders that fill the surface answers true. No conditions. -/
namespace Go.Proofs.Ytbdnellgioimbaa.Pure
set_option linter.unusedVariables false
set_option linter.unusedSimpArgs false
open Go.RowKit Go.Proofs.YtbdnellgioimbaaW.PrintWords Go.Proofs.YtbdnellgioimbaaW.PrintLast Go.Proofs.YtbdnellgioimbaaW.PrintMore Go.Proofs.Ytbdnellgioimbaa.A Go.Proofs.Ytbdnellgioimbaa.M
theorem cyl_l2 {r u : List Nat} (hs : Sf r u) {t : Nat} (ht : t < (cycles r).length) (v : Int) (hv : ∀ j, j < (cycles r).length → v ∈ I ((cycles r).getD j []) → rl r j = rl r t) (x7 : Int) (res : Bool)
    (h : Ev (fun k => laws_FnCylinders.l1 k (I2 (cycles r)) x7 (I2 (cycles r)) ((cycles r).length : Int) ((t + 1 : Nat) : Int) (I r) (I u)) res) :
    ∀ d j : Nat, j + d = (cycles r).length → Ev (fun k => laws_FnCylinders.l2 k (I2 (cycles r)) x7 (I ((cycles r)[t])) v (I2 (cycles r)) ((cycles r).length : Int) (t : Int) (I2 (cycles r)) ((cycles r).length : Int) (j : Int) (I r) (I u)) res := by
  have h24 := cycles_len (p := r) hs.le
  intro d
  induction d with
  | zero =>
    intro j hj
    refine ev_succ ?_
    have c1 : ¬ ((j : Int) < ((cycles r).length : Int)) := by omega
    have c3 := w64s t (by omega)
    simp only [laws_FnCylinders.l2, c1, c3, if_false]
    exact h
  | succ d ih =>
    intro j hj
    have hjl : j < (cycles r).length := by omega
    have c1 : (j : Int) < ((cycles r).length : Int) := by omega
    have c2 : (0 : Int) ≤ (j : Int) := by omega
    have c4 : rd_L1 (I2 (cycles r)) (j : Int) = I ((cycles r)[j]) := rdL_at hjl
    have hlen := cycle_len hs.pr hs.le _ (List.getElem_mem hjl)
    have c5 := w64s j (by omega)
    refine ev_succ ?_
    simp only [laws_FnCylinders.l2, c1, c2, c4, c5, I2_len, if_true]
    refine Ev.bind (laws_has_ev _ v (by rw [I_len]; omega)) ?_
    by_cases hm : v ∈ I ((cycles r)[j])
    · have e : ((cycles r).getD j []) = (cycles r)[j] := by rw [List.getD_eq_getElem?_getD, List.getElem?_eq_getElem hjl]; rfl
      have e2 := hv j hjl (by rw [e]; exact hm)
      rw [rl_at hjl, rl_at ht] at e2
      simp only [hm, decide_true, I_len, e2, if_true]
      exact ih (j + 1) (by omega)
    · simp only [hm, decide_false, Bool.false_eq_true, if_false]
      exact ih (j + 1) (by omega)
theorem cyl_l1 {r u : List Nat} (hs : Sf r u) : ∀ d t : Nat, t + d = (cycles r).length → Ev (fun k => laws_FnCylinders.l1 k (I2 (cycles r)) ((cycles r).length : Int) (I2 (cycles r)) ((cycles r).length : Int) (t : Int) (I r) (I u)) true := by
  have h24 := cycles_len (p := r) hs.le
  intro d
  induction d with
  | zero =>
    intro t ht
    refine ev_succ ?_
    have c1 : ¬ ((t : Int) < ((cycles r).length : Int)) := by omega
    simp only [laws_FnCylinders.l1, c1, if_false, I2_len, beq_self_eq_true]
    exact Ev.now _
  | succ d ih =>
    intro t ht
    have htl : t < (cycles r).length := by omega
    have c1 : (t : Int) < ((cycles r).length : Int) := by omega
    have c2 : (0 : Int) ≤ (t : Int) := by omega
    have c4 : rd_L1 (I2 (cycles r)) (t : Int) = I ((cycles r)[t]) := rdL_at htl
    have hpos : 0 < ((cycles r)[t]).length := by have := rl_pos hs.pr htl; rw [rl_at htl] at this; omega
    have n1 : ¬ ((((cycles r)[t]).length : Int) = 0) := by omega
    have n2 : (0 : Int) < (((cycles r)[t]).length : Int) := by omega
    have c6 : rd (I ((cycles r)[t])) 0 = ((hd (cycles r) t : Nat) : Int) := by rw [rd_head hpos, hd_eq htl]
    refine ev_succ ?_
    simp only [laws_FnCylinders.l1, c1, c2, c4, n1, n2, c6, I2_len, I_len, if_true, if_false]
    have key := fun v hv => cyl_l2 hs htl v hv _ _ (ih (t + 1) (by omega)) (cycles r).length 0 (Nat.zero_add _)
    cases hup : upA (abL r u) t with
    | none =>
      refine Ev.bind (rowAbove_no hs htl hup) (key _ (fun j hj hm => ?_))
      obtain ⟨y, _, hy⟩ := List.mem_map.mp hm
      have : (0 : Int) ≤ -1 := by rw [← hy]; exact Int.natCast_nonneg y
      omega
    | some z =>
      have hz := (upA_lt hs t z hup).2
      refine Ev.bind (rowAbove_up hs hup) (key _ (fun j hj hm => ?_))
      have hm' := mem_I.mp hm
      rw [List.getD_eq_getElem?_getD, List.getElem?_eq_getElem hj] at hm'
      have e1 := ix_of_mem hs.pr hj hm'
      have e2 := ix_of_mem hs.pr hz (hd_mem hs.pr hz).1
      rw [e1] at e2
      subst e2
      exact (rl_up hs hup).symm
theorem cyl_l0 {r u : List Nat} (hs : Sf r u) (l : List S44) (hl : l.length ≤ 24) (hb : ∀ c ∈ l, (1 ≤ c.f0 ∧ c.f0 ≤ 24) ∧ (1 ≤ c.f1 ∧ c.f1 ≤ 24)) (hsum : (l.map (fun c => c.f1.toNat)).sum = (cycles r).length) : Ev (fun k => laws_FnCylinders.l0 k (I2 (cycles r)) 0 l (l.length : Int) 0 (I r) (I u)) true := by
  have H : ∀ (d i x : Nat), i + d = l.length → x ≤ 24 * i → x + ((l.drop i).map (fun c => c.f1.toNat)).sum = (cycles r).length → Ev (fun k => laws_FnCylinders.l0 k (I2 (cycles r)) (x : Int) l (l.length : Int) (i : Int) (I r) (I u)) true := by
    intro d
    induction d with
    | zero =>
      intro i x hi hx hs'
      rw [List.drop_of_length_le (by omega)] at hs'
      have e : x = (cycles r).length := by simpa using hs'
      refine ev_succ ?_
      have c1 : ¬ ((i : Int) < (l.length : Int)) := by omega
      simp only [laws_FnCylinders.l0, c1, if_false, I2_len]
      rw [e]
      exact cyl_l1 hs _ 0 (Nat.zero_add _)
    | succ d ih =>
      intro i x hi hx hs'
      have hil : i < l.length := by omega
      obtain ⟨⟨w0, w1⟩, v0, v1⟩ := hb (l[i]) (List.getElem_mem hil)
      rw [sum_drop l _ hil] at hs'
      obtain ⟨b, hb'⟩ : ∃ b : Nat, (l[i]).f1 = (b : Int) ∧ b ≤ 24 := ⟨(l[i]).f1.toNat, by omega, by omega⟩
      have e0 : (l[i]).f1.toNat = b := by rw [hb'.1]; rfl
      rw [e0, ← Nat.add_assoc] at hs'
      have key := ih (i + 1) (x + b) (by omega) (by omega) hs'
      have c1 : (i : Int) < (l.length : Int) := by omega
      have c2 : (0 : Int) ≤ (i : Int) := by omega
      have c4 : rd_T44 l (i : Int) = l[i] := rdT_get64 l i hil
      refine ev_succ ?_
      have q1 : i ≤ 9000000000000000000 := by omega
      have q3 : x + b ≤ 9000000000000000000 := by omega
      have c3 := w64s i q1
      have c6 := w64add x b q3
      simp only [laws_FnCylinders.l0, c1, c2, c4, hb'.1, c3, c6, if_true]
      exact key
  exact H l.length 0 0 (by omega) (by omega) (by simpa using hsum)
theorem FnCylinders (b : List Int) (hb : b.length ≤ maxLen) (_ : ∀ x ∈ b, (Lit.int .u8 x).wf = true) : ∃ k, laws_FnCylinders.f k b = some true := by
  refine Ev.rounds ?_
  unfold laws_FnCylinders.f
  by_cases h : (b.length : Int) > 1048576
  · simp only [h, if_true]
    exact Ev.now _
  · simp only [h, if_false]
    obtain ⟨r, u, hs, _, e1⟩ := makeSurf_ev b (by omega)
    obtain ⟨G, g1, g2⟩ := impl_cyl hs
    have h24 := cycles_len (p := r) hs.le
    have hl := outG_len (cycles r) G (cycles r).length (cycles r).length
    have hbox := outG_box hs.pr hs.le G
    have ha := cyl_area hs g1
    have hh := cyl_high g1
    have hn := cycN_pos hs
    generalize outG (cycles r) G (cycles r).length (cycles r).length = l at hl hbox ha hh g2
    have hl0 : ¬ ((l.length : Int) = 0) := by
      intro e
      have : l = [] := List.length_eq_zero_iff.mp (by omega)
      rw [this] at hh
      simp at hh
      omega
    refine Ev.bind e1 (Ev.bind g2 ?_)
    have hrows : Ev (fun k => impl_RowsOf.f k (I r) (I u)) (I2 (cycles r)) := by
      unfold impl_RowsOf.f
      refine Ev.bind (impl_surf _ _) ?_
      have h0 := surfB_I.mpr hs
      simp only [h0, if_true]
      exact Ev.bind (impl_cycles hs.pr hs.le) (Ev.now _)
    refine Ev.bind hrows ?_
    simp only [if_true]
    refine Ev.bind (area_ev l (by omega) hbox) ?_
    have c1 : ¬ ((l.length : Int) > ((I2 (cycles r)).length : Int)) := by rw [I2_len]; omega
    simp only [ha, I_len', hl0, c1, if_true, if_false, decide_false]
    refine ev_succ ?_
    simp only [laws_FnCylinders.j0, Bool.false_eq_true, if_false]
    exact cyl_l0 hs l (by omega) hbox hh
end Go.Proofs.Ytbdnellgioimbaa.Pure
end
