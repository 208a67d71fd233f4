/- What RatioOk and the reference compute is the same, for all fractions. No conditions. -/
import Derived.Test.YtocblnmpniijjaaPFnExactRatioOkx1
namespace Go.Proofs.Ytocblnmpniijjaa.Pure
open Go.RowKit Go.Proofs.Ytocblnmpniijjaa.PFnExactRatioOk Go.Proofs.YtocblnmpniijjaaW.PrintWords Go.Proofs.YtocblnmpniijjaaW.PrintLast Go.Proofs.YtocblnmpniijjaaW.PrintMore
theorem ev_succ {α : Type} {g : Nat → Option α} {r : α} (h : Ev (fun k => g (k + 1)) r) : Ev g r := Ev.step (fun _ => rfl) h
theorem gcd_ev (n : Nat) : ∀ (a b : Int), 0 ≤ a → 0 ≤ b → b.toNat ≤ n → ∃ r, Ev (fun k => spec_l08Gcd.l0 k a b) r ∧ Ev (fun k => impl_gcd.l0 k a b) r := by
  induction n with
  | zero =>
    intro a b ha hb hn
    obtain rfl : b = 0 := by omega
    refine ⟨a, ev_succ ?_, ev_succ ?_⟩
    · simp only [spec_l08Gcd.l0, if_true]
      exact Ev.now _
    · simp only [impl_gcd.l0, if_true]
      exact Ev.now _
  | succ n ih =>
    intro a b ha hb hn
    by_cases h : b = 0
    · subst h
      refine ⟨a, ev_succ ?_, ev_succ ?_⟩
      · simp only [spec_l08Gcd.l0, if_true]
        exact Ev.now _
      · simp only [impl_gcd.l0, if_true]
        exact Ev.now _
    · have h1 : 0 ≤ Int.tmod a b := Int.tmod_nonneg b ha
      have h2 : Int.tmod a b < b := Int.tmod_lt_of_pos a (by omega)
      obtain ⟨r, i1, i2⟩ := ih b (Int.tmod a b) hb h1 (by omega)
      refine ⟨r, ev_succ ?_, ev_succ ?_⟩
      · simp only [spec_l08Gcd.l0, h, if_false]
        exact i1
      · simp only [impl_gcd.l0, h, if_false]
        exact i2
theorem both (n d : Int) : ∃ b, Ev (fun k => spec_RatioOk.f k n d) b ∧ Ev (fun k => impl_RatioOk.f k n d) b := by
  unfold spec_RatioOk.f impl_RatioOk.f spec_l01In.f
  by_cases h1 : d < 1
  · have h1' : ¬ d ≥ 1 := by omega
    refine ⟨false, ?_, ?_⟩
    · simp only [h1', if_false, Option.bind_some, Bool.false_eq_true]
      exact Ev.now _
    · simp only [h1, if_true]
      refine ev_succ ?_
      simp only [impl_RatioOk.j0, if_true]
      exact Ev.now _
  · have h1' : d ≥ 1 := by omega
    by_cases h2 : d > 1000000000000
    · have h2' : ¬ d ≤ 1000000000000 := by omega
      refine ⟨false, ?_, ?_⟩
      · simp only [h1', h2', if_true, if_false, Option.bind_some, decide_false, Bool.false_eq_true]
        exact Ev.now _
      · simp only [h1, h2, if_true, if_false]
        refine ev_succ ?_
        simp only [impl_RatioOk.j0, if_true]
        exact Ev.now _
    · have h2' : d ≤ 1000000000000 := by omega
      by_cases h3 : n < -1000000000000
      · have h3' : ¬ n ≥ -1000000000000 := by omega
        refine ⟨false, ?_, ?_⟩
        · simp only [h1', h2', h3', if_true, if_false, Option.bind_some, decide_true, Bool.false_eq_true]
          exact Ev.now _
        · simp only [h1, h2, h3, if_true, if_false]
          refine ev_succ ?_
          simp only [impl_RatioOk.j0, if_true]
          exact Ev.now _
      · have h3' : n ≥ -1000000000000 := by omega
        by_cases h4 : n > 1000000000000
        · have h4' : ¬ n ≤ 1000000000000 := by omega
          refine ⟨false, ?_, ?_⟩
          · simp only [h1', h2', h3', h4', if_true, if_false, Option.bind_some, decide_true, decide_false, Bool.false_eq_true]
            exact Ev.now _
          · simp only [h1, h2, h3, h4, if_false, decide_true]
            refine ev_succ ?_
            simp only [impl_RatioOk.j0, if_true]
            exact Ev.now _
        · have h4' : n ≤ 1000000000000 := by omega
          have hw : wrap64 (-n) = -n := by unfold wrap64; omega
          by_cases h5 : n < 0
          · obtain ⟨r, i1, i2⟩ := gcd_ev d.toNat (-n) d (by omega) (by omega) (Nat.le_refl _)
            have hm : mx n (-n) = -n := by unfold mx; split <;> omega
            refine ⟨r == 1, ?_, ?_⟩
            · simp only [h1', h2', h3', h4', hw, hm, if_true, Option.bind_some, decide_true, spec_l08Gcd.f]
              exact Ev.bind i1 (Ev.now _)
            · simp only [h1, h2, h3, h4, if_false, decide_false]
              refine ev_succ ?_
              simp only [impl_RatioOk.j0, h5, hw, if_true, if_false, Bool.false_eq_true, impl_gcd.f]
              exact Ev.bind i2 (Ev.now _)
          · obtain ⟨r, i1, i2⟩ := gcd_ev d.toNat n d (by omega) (by omega) (Nat.le_refl _)
            have hm : mx n (-n) = n := by unfold mx; split <;> omega
            refine ⟨r == 1, ?_, ?_⟩
            · simp only [h1', h2', h3', h4', hw, hm, if_true, Option.bind_some, decide_true, spec_l08Gcd.f]
              exact Ev.bind i1 (Ev.now _)
            · simp only [h1, h2, h3, h4, if_false, decide_false]
              refine ev_succ ?_
              simp only [impl_RatioOk.j0, h5, if_false, Bool.false_eq_true, impl_gcd.f]
              exact Ev.bind i2 (Ev.now _)
theorem FnExactRatioOk (n d : Int) (_ : (Lit.int .i64 n).wf = true) (_ : (Lit.int .i64 d).wf = true) : ∃ k, laws_FnExactRatioOk.f k n d = some true := by
  refine Ev.rounds ?_
  obtain ⟨b, i1, i2⟩ := both n d
  unfold laws_FnExactRatioOk.f laws_toRatio.f
  simp only [Option.bind_some]
  refine Ev.bind i1 (Ev.bind i2 ?_)
  simp only [bne_self_eq_false, Bool.false_eq_true, if_false]
  exact Ev.now _
end Go.Proofs.Ytocblnmpniijjaa.Pure
