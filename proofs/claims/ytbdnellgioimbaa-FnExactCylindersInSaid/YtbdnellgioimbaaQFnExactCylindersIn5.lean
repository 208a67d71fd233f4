/- Lemmas for the row FnExactCylindersIn: the program's functions told as plain functions, and plain mathematics. No conditions. -/
import Derived.Test.YtbdnellgioimbaaQFnExactCylindersIn4
section
/- Cylinders in a direction: the program and the reference answer alike. No conditions. -/
namespace Go.Proofs.Ytbdnellgioimbaa.M
set_option linter.unusedVariables false
set_option linter.unusedSimpArgs false
open Go.RowKit Go.Proofs.YtbdnellgioimbaaW.PrintWords Go.Proofs.YtbdnellgioimbaaW.PrintLast Go.Proofs.YtbdnellgioimbaaW.PrintMore Go.Proofs.Ytbdnellgioimbaa.A
def dirWordI (p q : Int) : ByteArray := (impl_DirectionWord.f 400 p q).getD ⟨#[]⟩
theorem dir_tab : ∀ a : Fin 13, ∀ b : Fin 13, slopeOkI (a.val : Int) (b.val : Int) = true → spec_DirectionWord.f 400 (a.val : Int) (b.val : Int) = some (dirWordI (a.val : Int) (b.val : Int)) ∧ impl_DirectionWord.f 400 (a.val : Int) (b.val : Int) = some (dirWordI (a.val : Int) (b.val : Int)) ∧ wordB (dirWordI (a.val : Int) (b.val : Int)) = true := by decide +kernel
theorem dir_ev {p q : Int} (h : slopeOkI p q = true) : Ev (fun k => spec_DirectionWord.f k p q) (dirWordI p q) ∧ Ev (fun k => impl_DirectionWord.f k p q) (dirWordI p q) ∧ wordB (dirWordI p q) = true := by
  obtain ⟨⟨h1, h2⟩, h3, h4⟩ := slope_in h
  obtain ⟨a, rfl⟩ : ∃ a : Nat, p = a := ⟨p.toNat, by omega⟩
  obtain ⟨b, rfl⟩ : ∃ b : Nat, q = b := ⟨q.toNat, by omega⟩
  obtain ⟨e1, e2, e3⟩ := dir_tab ⟨a, by omega⟩ ⟨b, by omega⟩ h
  exact ⟨Ev.of (fun k => spec_DirectionWord.mono _ _ _) e1, Ev.of (fun k => impl_DirectionWord.mono _ _ _) e2, e3⟩
theorem cylsIn_both (r u : List Int) (p q : Int) : ∃ (l : List S44) (b : Bool), l.length ≤ 24 ∧ Ev (fun k => spec_CylindersIn.f k r u p q) (l, b) ∧ Ev (fun k => impl_CylindersIn.f k r u p q) (l, b) := by
  have no1 : Ev (fun k => spec_CylindersIn.j0 k p q true r u) (([], false) : List S44 × Bool) := by
    refine ev_succ ?_
    simp only [spec_CylindersIn.j0, if_true]
    exact Ev.now _
  have no2 : Ev (fun k => impl_CylindersIn.j0 k p q true r u) (([], false) : List S44 × Bool) := by
    refine ev_succ ?_
    simp only [impl_CylindersIn.j0, if_true]
    exact Ev.now _
  unfold spec_CylindersIn.f impl_CylindersIn.f
  obtain ⟨s1, s2⟩ := slopes_ev p q
  by_cases h : surfB r u = true
  · by_cases ho : slopeOkI p q = true
    · obtain ⟨d1, d2, d3⟩ := dir_ev ho
      obtain ⟨r, u, rfl, rfl, hs⟩ := surf_nat h
      have hd := (of_decide_eq_true d3).2
      have hr := sf_rn (s := (r, u)) hs (dirWordI p q) (dirWordI p q).size
      have e1 := spec_run (s := (r, u)) hs (dirWordI p q) (by omega)
      have e2 := impl_run (I r) (I u) (dirWordI p q) (by omega)
      rw [runP_yes (s := (r, u)) hs d3] at e2
      generalize rn (dirWordI p q) (r, u) (dirWordI p q).size = s at hr e1 e2
      obtain ⟨G, g1, g2⟩ := impl_cyl hr.1
      have g3 := spec_cyl8 hr.1 (spec_cyl hr.1 g1)
      have hl := outG_len (cycles s.1) G (cycles s.1).length (cycles s.1).length
      have h24 := cycles_len (p := s.1) hr.1.le
      refine ⟨_, true, Nat.le_trans hl h24, Ev.bind (spec_surf _ _) ?_, Ev.bind (impl_surf _ _) ?_⟩
      · simp only [h, if_true]
        refine Ev.bind s1 ?_
        refine ev_succ ?_
        simp only [ho, spec_CylindersIn.j0, Bool.not_true, Bool.false_eq_true, if_false]
        exact Ev.bind d1 (Ev.bind e1 (Ev.bind g3 (Ev.now _)))
      · simp only [h, if_true]
        refine Ev.bind s2 ?_
        refine ev_succ ?_
        simp only [ho, impl_CylindersIn.j0, Bool.not_true, Bool.false_eq_true, if_false]
        refine Ev.bind d2 (Ev.bind e2 ?_)
        simp only [if_true]
        exact Ev.bind g2 (Ev.now _)
    · have ho' := Bool.eq_false_iff.mpr ho
      rw [ho'] at s1 s2
      refine ⟨[], false, by simp, Ev.bind (spec_surf _ _) ?_, Ev.bind (impl_surf _ _) ?_⟩
      · simp only [h, if_true]
        exact Ev.bind s1 no1
      · simp only [h, if_true]
        exact Ev.bind s2 no2
  · have h' := Bool.eq_false_iff.mpr h
    refine ⟨[], false, by simp, Ev.bind (spec_surf _ _) ?_, Ev.bind (impl_surf _ _) ?_⟩
    · simp only [h', Bool.false_eq_true, if_false]
      exact no1
    · simp only [h', Bool.false_eq_true, if_false]
      exact no2
end Go.Proofs.Ytbdnellgioimbaa.M
end
section
/- The law of cylinders in a direction answers true. No conditions. -/
namespace Go.Proofs.Ytbdnellgioimbaa.Pure
set_option linter.unusedVariables false
set_option linter.unusedSimpArgs false
open Go.RowKit Go.Proofs.YtbdnellgioimbaaW.PrintWords Go.Proofs.YtbdnellgioimbaaW.PrintLast Go.Proofs.YtbdnellgioimbaaW.PrintMore Go.Proofs.Ytbdnellgioimbaa.A Go.Proofs.Ytbdnellgioimbaa.M
theorem FnExactCylindersIn (r u : List Int) (p q : Int) (hr : r.length ≤ maxLen) (_ : ∀ x ∈ r, (Lit.int .i64 x).wf = true) (hu : u.length ≤ maxLen) (_ : ∀ x ∈ u, (Lit.int .i64 x).wf = true) (_ : (Lit.int .i64 p).wf = true) (_ : (Lit.int .i64 q).wf = true) : ∃ k, laws_FnExactCylindersIn.F k r u p q := by
  unfold maxLen at hr hu
  unfold laws_FnExactCylindersIn.F
  by_cases h2 : r.length + u.length ≤ 1048576
  · obtain ⟨l, b, hl, ⟨K1, e1⟩, ⟨K2, e2⟩⟩ := cylsIn_both r u p q
    obtain ⟨K3, e3⟩ := toSurf_ev r u (by omega) (by omega)
    obtain ⟨K4, e4⟩ := eqSurf_same r u (by omega) (by omega)
    obtain ⟨K5, e5⟩ := eqCyl_same l (by omega)
    obtain ⟨K6, e6⟩ := markSurf_ev r u h2
    obtain ⟨K7, e7⟩ := markCyl_ev l (by omega)
    obtain ⟨K8, e8⟩ := heldCyl_ev l (by omega)
    exact ⟨K1 + K2 + K3 + K4 + K5 + K6 + K7 + K8, _, sz_small h2, .inr ⟨by omega, l, b, _, _, _, _, _, e3 _ (by omega), e4 _ (by omega), e1 _ (by omega), e2 _ (by omega), e5 _ (by omega), e6 _ (by omega), decide_eq_false (by omega), e7 _ (by omega), e8 _ (by omega), decide_eq_false (by omega)⟩⟩
  · exact ⟨0, _, sz_big (by omega) (by omega) h2, .inl (by omega)⟩
end Go.Proofs.Ytbdnellgioimbaa.Pure
end
