/- What IsTurn and the reference compute is the same, for all arguments. No conditions. -/
import Derived.Test.YtlbcafniodfdgaaP4
import Derived.Test.YtlbcafniodfdgaaAx29
namespace Go.Proofs.Ytlbcafniodfdgaa.Pure
open Go.RowKit Go.Proofs.YtlbcafniodfdgaaW.PrintWords Go.Proofs.YtlbcafniodfdgaaW.PrintLast Go.Proofs.YtlbcafniodfdgaaW.PrintMore Go.Proofs.Ytlbcafniodfdgaa.A Go.Proofs.Ytlbcafniodfdgaa.M
theorem FnExactIsTurn (r u a : List Int) (hr : r.length ≤ maxLen) (_ : ∀ x ∈ r, (Lit.int .i64 x).wf = true) (hu : u.length ≤ maxLen) (_ : ∀ x ∈ u, (Lit.int .i64 x).wf = true) (ha : a.length ≤ maxLen) (_ : ∀ x ∈ a, (Lit.int .i64 x).wf = true) : ∃ k, laws_FnExactIsTurn.f k r u a = some true := by
  unfold maxLen at hr hu ha
  refine Ev.rounds ?_
  unfold laws_FnExactIsTurn.f
  by_cases h1 : (a.length : Int) > 1048576
  · simp only [h1, if_true]
    exact Ev.now _
  · simp only [h1, if_false]
    by_cases h2 : r.length + u.length ≤ 1048576
    · rw [sz_small h2]
      have h3 : ¬ (1048576 - (r.length : Int) - (u.length : Int) < 0) := by omega
      simp only [Option.bind_some, h3, if_false]
      have ts := toSurf_ev r u (by omega) (by omega)
      have ta := toInts_ev a (by omega)
      refine Ev.bind ts (Ev.bind ta (Ev.bind (spec_turn r u a) (Ev.bind ts (Ev.bind ta (Ev.bind (impl_turn r u a) ?_)))))
      simp only [bne_self_eq_false, Bool.false_eq_true, if_false]
      refine Ev.bind ts (Ev.bind (eqSurf_same r u (by omega) (by omega)) ?_)
      simp only [if_true]
      refine Ev.bind ta (Ev.bind (eqInts_same a (by omega)) ?_)
      simp only [if_true]
      exact Ev.now _
    · rw [sz_big (by omega) (by omega) h2]
      have h3 : (-1 : Int) < 0 := by omega
      simp only [Option.bind_some, h3, if_true]
      exact Ev.now _
end Go.Proofs.Ytlbcafniodfdgaa.Pure
