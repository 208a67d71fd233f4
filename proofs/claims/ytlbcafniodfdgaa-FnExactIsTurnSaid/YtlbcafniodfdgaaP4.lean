/- Half turns: the tests of the program and of the reference come to one plain test. No conditions. -/
import Derived.Test.YtlbcafniodfdgaaP3
namespace Go.Proofs.Ytlbcafniodfdgaa.M
set_option linter.unusedVariables false
set_option linter.unusedSimpArgs false
open Go.RowKit Go.Proofs.YtlbcafniodfdgaaW.PrintWords Go.Proofs.YtlbcafniodfdgaaW.PrintLast Go.Proofs.YtlbcafniodfdgaaW.PrintMore Go.Proofs.Ytlbcafniodfdgaa.A
/-- a half turn -/
def Turn (r u a : List Nat) : Prop := ∀ i, i < a.length → g a (g r i) = ix r (g a i) ∧ g a (g u i) = ix u (g a i)
instance (r u a : List Nat) : Decidable (Turn r u a) := by unfold Turn; infer_instance
def turnB (r u a : List Int) : Bool := surfB r u && permB a && decide (a.length = r.length) && decide (Turn (N r) (N u) (N a))
theorem turnB_mk {r u a : List Nat} (hs : Sf r u) (ha : IsP a) (hl : a.length = r.length) : turnB (I r) (I u) (I a) = decide (Turn r u a) := by
  unfold turnB
  rw [surfB_I.mpr hs, permB_I.mpr ⟨ha, by have := hs.le; omega⟩, I_len, I_len, N_I, N_I, N_I]
  simp [hl]
theorem turn_nat {r u a : List Int} (h : turnB r u a = true) : ∃ r' u' a', r = I r' ∧ u = I u' ∧ a = I a' ∧ Sf r' u' ∧ IsP a' ∧ a'.length = r'.length ∧ Turn r' u' a' := by
  unfold turnB at h
  simp only [Bool.and_eq_true, decide_eq_true_eq] at h
  obtain ⟨⟨⟨h1, h2⟩, h3⟩, h4⟩ := h
  obtain ⟨r', u', rfl, rfl, hs⟩ := surf_nat h1
  obtain ⟨a', rfl, a1, a2⟩ := PI_nat (of_decide_eq_true h2)
  rw [N_I, N_I, N_I] at h4
  rw [I_len, I_len] at h3
  exact ⟨r', u', a', rfl, rfl, rfl, hs, a1, h3, h4⟩
def TurnFrom (r u a : List Nat) (i : Nat) : Prop := ∀ j, i ≤ j → j < a.length → g a (g r j) = ix r (g a j) ∧ g a (g u j) = ix u (g a j)
theorem turnFrom_step {r u a : List Nat} {i : Nat} (h : g a (g r i) = ix r (g a i) ∧ g a (g u i) = ix u (g a i)) : TurnFrom r u a i ↔ TurnFrom r u a (i + 1) := by
  constructor
  · intro k j h1 h2
    exact k j (by omega) h2
  · intro k j h1 h2
    by_cases e : j = i
    · subst e
      exact h
    · exact k j (by omega) h2
theorem turn_dec {r u a : List Nat} {b : Bool} (h : b = true ↔ TurnFrom r u a 0) : b = decide (Turn r u a) := by
  rw [Bool.eq_iff_iff, h, decide_eq_true_iff]
  constructor
  · intro k i hi
    exact k i (Nat.zero_le _) hi
  · intro k i _ hi
    exact k i hi
theorem cast_eq (a b : Nat) : (((a : Nat) : Int) = ((b : Nat) : Int)) = (a = b) := by
  apply propext
  omega
theorem spec_turn (r u a : List Int) : Ev (fun k => spec_IsTurn.f k r u a) (turnB r u a) := by
  unfold spec_IsTurn.f
  refine Ev.bind (spec_surf r u) ?_
  by_cases h1 : surfB r u = true
  · simp only [h1, if_true]
    refine Ev.bind (spec_permOk a) ?_
    by_cases h2 : permB a = true
    · simp only [h2, if_true]
      by_cases h3 : (a.length : Int) = (r.length : Int)
      · simp only [h3, if_true]
        obtain ⟨r, u, rfl, rfl, hs⟩ := surf_nat h1
        obtain ⟨a, rfl, a1, a2⟩ := PI_nat (of_decide_eq_true h2)
        rw [I_len, I_len] at h3
        have h3' : a.length = r.length := by omega
        rw [turnB_mk hs a1 h3']
        have hle := hs.le
        have heq := hs.eq
        refine Ev.bind (a := decide (Turn r u a)) ?_ (Ev.now _)
        unfold spec_l11Turn.f
        refine Ev.bind (spec_inv hs.pr hs.le) (Ev.bind (spec_inv hs.pu (by omega)) ?_)
        have H : ∀ d i : Nat, i + d = a.length → ∃ b, Ev (fun k => spec_l11Turn.l0 k (I a) (I (inv r)) (I (inv u)) (I a) (a.length : Int) (i : Int) (I r) (I u)) b ∧ (b = true ↔ TurnFrom r u a i) := by
          intro d
          induction d with
          | zero =>
            intro i h
            refine ⟨true, ev_succ ?_, by simp; intro j h1 h2; omega⟩
            have h1 : ¬ ((i : Int) < (a.length : Int)) := by omega
            simp only [spec_l11Turn.l0, h1, if_false]
            exact Ev.now _
          | succ d ih =>
            intro i h
            have hi : i < a.length := by omega
            have gr := g_lt hs.pr (i := i) (by omega)
            have gu := g_lt hs.pu (i := i) (by omega)
            have ga := g_lt a1 hi
            have c1 : (i : Int) < (a.length : Int) := by omega
            have c2 : (0 : Int) ≤ (i : Int) := by omega
            have c3 : (i : Int) < (r.length : Int) := by omega
            have c4 : (0 : Int) ≤ ((g r i : Nat) : Int) := by omega
            have c5 : ((g r i : Nat) : Int) < (a.length : Int) := by omega
            have c6 : (0 : Int) ≤ ((g a i : Nat) : Int) := by omega
            have c7 : ((g a i : Nat) : Int) < ((inv r).length : Int) := by rw [inv_len]; omega
            have c8 : (i : Int) < (u.length : Int) := by omega
            have c9 : (0 : Int) ≤ ((g u i : Nat) : Int) := by omega
            have c10 : ((g u i : Nat) : Int) < (a.length : Int) := by omega
            have c11 : ((g a i : Nat) : Int) < ((inv u).length : Int) := by rw [inv_len]; omega
            have e1 : g (inv r) (g a i) = ix r (g a i) := g_inv (by omega)
            have e2 : g (inv u) (g a i) = ix u (g a i) := g_inv (by omega)
            have h4 := w64s i (by omega)
            by_cases t1 : g a (g r i) = ix r (g a i)
            · by_cases t2 : g a (g u i) = ix u (g a i)
              · obtain ⟨b, i1, i2⟩ := ih (i + 1) (by omega)
                refine ⟨b, ev_succ ?_, by rw [i2]; exact (turnFrom_step ⟨t1, t2⟩).symm⟩
                simp only [spec_l11Turn.l0, c1, c2, c3, c4, c5, c6, c7, c8, c9, c10, c11, h4, rdI, I_len', e1, e2, cast_eq, t1, t2, if_true]
                exact i1
              · refine ⟨false, ev_succ ?_, by simp only [Bool.false_eq_true, false_iff]; intro k; exact t2 (k i (Nat.le_refl _) hi).2⟩
                simp only [spec_l11Turn.l0, c1, c2, c3, c4, c5, c6, c7, c8, c9, c10, c11, rdI, I_len', e1, e2, cast_eq, t1, t2, if_true, if_false]
                exact Ev.now _
            · refine ⟨false, ev_succ ?_, by simp only [Bool.false_eq_true, false_iff]; intro k; exact t1 (k i (Nat.le_refl _) hi).1⟩
              simp only [spec_l11Turn.l0, c1, c2, c3, c4, c5, c6, c7, rdI, I_len', e1, cast_eq, t1, if_true, if_false]
              exact Ev.now _
        obtain ⟨b, i1, i2⟩ := H a.length 0 (by omega)
        rw [← turn_dec i2]
        simp only [I_len']
        exact i1
      · simp only [h3, if_false]
        have : turnB r u a = false := by
          unfold turnB
          have : ¬ a.length = r.length := by omega
          simp [this]
        rw [this]
        exact Ev.now _
    · have h2' := Bool.eq_false_iff.mpr h2
      simp only [h2', Bool.false_eq_true, if_false]
      have : turnB r u a = false := by unfold turnB; simp [h2']
      rw [this]
      exact Ev.now _
  · have h1' := Bool.eq_false_iff.mpr h1
    simp only [h1', Bool.false_eq_true, if_false]
    have : turnB r u a = false := by unfold turnB; simp [h1']
    rw [this]
    exact Ev.now _
theorem turn_j0 (a r u : List Int) : Ev (fun k => impl_IsTurn.j0 k a true r u) false := by
  refine ev_succ ?_
  simp only [impl_IsTurn.j0, if_true]
  exact Ev.now _
theorem impl_turn (r u a : List Int) : Ev (fun k => impl_IsTurn.f k r u a) (turnB r u a) := by
  unfold impl_IsTurn.f
  refine Ev.bind (impl_surf r u) ?_
  by_cases h1 : surfB r u = true
  · simp only [h1, if_true]
    refine Ev.bind (impl_permOk a) ?_
    by_cases h2 : permB a = true
    · simp only [h2, if_true]
      by_cases h3 : (a.length : Int) = (r.length : Int)
      · obtain ⟨r, u, rfl, rfl, hs⟩ := surf_nat h1
        obtain ⟨a, rfl, a1, a2⟩ := PI_nat (of_decide_eq_true h2)
        rw [I_len, I_len] at h3
        have h3' : a.length = r.length := by omega
        rw [turnB_mk hs a1 h3']
        have hle := hs.le
        have heq := hs.eq
        have h3b : ((a.length : Int) != (r.length : Int)) = false := by simp [h3]
        refine ev_succ ?_
        simp only [impl_IsTurn.j0, I_len', h3b, Bool.false_eq_true, if_false]
        refine Ev.bind (impl_inv hs.pr hs.le) (Ev.bind (impl_inv hs.pu (by omega)) ?_)
        have H : ∀ d i : Nat, i + d = a.length → ∃ b, Ev (fun k => impl_IsTurn.l0 k (I a) (I (inv r)) (I (inv u)) (a.length : Int) (i : Int) (I r) (I u)) b ∧ (b = true ↔ TurnFrom r u a i) := by
          intro d
          induction d with
          | zero =>
            intro i h
            refine ⟨true, ev_succ ?_, by simp; intro j h1 h2; omega⟩
            have h1 : ¬ ((i : Int) < (a.length : Int)) := by omega
            simp only [impl_IsTurn.l0, h1, if_false]
            exact Ev.now _
          | succ d ih =>
            intro i h
            have hi : i < a.length := by omega
            have gr := g_lt hs.pr (i := i) (by omega)
            have gu := g_lt hs.pu (i := i) (by omega)
            have ga := g_lt a1 hi
            have c1 : (i : Int) < (a.length : Int) := by omega
            have c2 : (0 : Int) ≤ (i : Int) := by omega
            have c3 : (i : Int) < (r.length : Int) := by omega
            have c4 : (0 : Int) ≤ ((g r i : Nat) : Int) := by omega
            have c5 : ((g r i : Nat) : Int) < (a.length : Int) := by omega
            have c6 : (0 : Int) ≤ ((g a i : Nat) : Int) := by omega
            have c7 : ((g a i : Nat) : Int) < ((inv r).length : Int) := by rw [inv_len]; omega
            have c8 : (i : Int) < (u.length : Int) := by omega
            have c9 : (0 : Int) ≤ ((g u i : Nat) : Int) := by omega
            have c10 : ((g u i : Nat) : Int) < (a.length : Int) := by omega
            have c11 : ((g a i : Nat) : Int) < ((inv u).length : Int) := by rw [inv_len]; omega
            have e1 : g (inv r) (g a i) = ix r (g a i) := g_inv (by omega)
            have e2 : g (inv u) (g a i) = ix u (g a i) := g_inv (by omega)
            have h4 := w64s i (by omega)
            by_cases t1 : g a (g r i) = ix r (g a i)
            · by_cases t2 : g a (g u i) = ix u (g a i)
              · obtain ⟨b, i1, i2⟩ := ih (i + 1) (by omega)
                refine ⟨b, ev_succ ?_, by rw [i2]; exact (turnFrom_step ⟨t1, t2⟩).symm⟩
                simp only [impl_IsTurn.l0, c1, c2, c3, c4, c5, c6, c7, c8, c9, c10, c11, h4, rdI, I_len', e1, e2, cast_eq, t1, t2, if_true]
                exact i1
              · refine ⟨false, ev_succ ?_, by simp only [Bool.false_eq_true, false_iff]; intro k; exact t2 (k i (Nat.le_refl _) hi).2⟩
                simp only [impl_IsTurn.l0, c1, c2, c3, c4, c5, c6, c7, c8, c9, c10, c11, rdI, I_len', e1, e2, cast_eq, t1, t2, if_true, if_false]
                exact Ev.now _
            · refine ⟨false, ev_succ ?_, by simp only [Bool.false_eq_true, false_iff]; intro k; exact t1 (k i (Nat.le_refl _) hi).1⟩
              simp only [impl_IsTurn.l0, c1, c2, c3, c4, c5, c6, c7, rdI, I_len', e1, cast_eq, t1, if_true, if_false]
              exact Ev.now _
        obtain ⟨b, i1, i2⟩ := H a.length 0 (by omega)
        rw [← turn_dec i2]
        exact i1
      · have h3b : ((a.length : Int) != (r.length : Int)) = true := by simp; omega
        simp only [h3b]
        have : turnB r u a = false := by
          unfold turnB
          have : ¬ a.length = r.length := by omega
          simp [this]
        rw [this]
        exact turn_j0 a r u
    · have h2' := Bool.eq_false_iff.mpr h2
      simp only [h2', Bool.false_eq_true, if_false]
      have : turnB r u a = false := by unfold turnB; simp [h2']
      rw [this]
      exact turn_j0 a r u
  · have h1' := Bool.eq_false_iff.mpr h1
    simp only [h1', Bool.false_eq_true, if_false]
    have : turnB r u a = false := by unfold turnB; simp [h1']
    rw [this]
    exact turn_j0 a r u
end Go.Proofs.Ytlbcafniodfdgaa.M
