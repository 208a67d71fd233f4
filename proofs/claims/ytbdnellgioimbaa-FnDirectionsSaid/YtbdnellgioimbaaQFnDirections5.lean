/- Lemmas for the row FnDirections: the program's functions told as plain functions, and plain mathematics. No conditions. -/
import Derived.Test.YtbdnellgioimbaaQFnDirections4
section
/- The law of directions answers true. No conditions. -/
namespace Go.Proofs.Ytbdnellgioimbaa.Pure
set_option linter.unusedVariables false
set_option linter.unusedSimpArgs false
open Go.RowKit Go.Proofs.YtbdnellgioimbaaW.PrintWords Go.Proofs.YtbdnellgioimbaaW.PrintLast Go.Proofs.YtbdnellgioimbaaW.PrintMore Go.Proofs.Ytbdnellgioimbaa.A Go.Proofs.Ytbdnellgioimbaa.M
def matB (p q : Nat) : Bool := match impl_MatrixOf.f 400 (dirWordI (p : Int) (q : Int)) with
  | some (a, b, c, d, true) => decide ((wrap64 ((wrap64 (a * (p : Int))) + (wrap64 (b * (q : Int))))) = 1) && decide ((wrap64 ((wrap64 (c * (p : Int))) + (wrap64 (d * (q : Int))))) = 0)
  | _ => false
theorem mat_tab : ∀ p : Fin 13, ∀ q : Fin 13, slopeOkI (p.val : Int) (q.val : Int) = true → matB p.val q.val = true := by decide +kernel
theorem mat_ev {p q : Fin 13} (ho : slopeOkI (p.val : Int) (q.val : Int) = true) : ∃ a b c d, Ev (fun k => impl_MatrixOf.f k (dirWordI (p.val : Int) (q.val : Int))) (a, b, c, d, true) ∧ (wrap64 ((wrap64 (a * (p.val : Int))) + (wrap64 (b * (q.val : Int))))) = 1 ∧ (wrap64 ((wrap64 (c * (p.val : Int))) + (wrap64 (d * (q.val : Int))))) = 0 := by
  have t := mat_tab p q ho
  unfold matB at t
  split at t
  · rename_i a b c d e
    have t := (Bool.and_eq_true _ _).mp t
    exact ⟨a, b, c, d, Ev.of (fun k => impl_MatrixOf.mono _ _) e, of_decide_eq_true t.1, of_decide_eq_true t.2⟩
  · cases t
theorem FnDirections (b : List Int) (hb : b.length ≤ maxLen) (_ : ∀ x ∈ b, (Lit.int .u8 x).wf = true) : ∃ k, laws_FnDirections.f k b = some true := by
  refine Ev.rounds ?_
  unfold laws_FnDirections.f
  by_cases h : (b.length : Int) > 1048576
  · simp only [h, if_true]
    exact Ev.now _
  · simp only [h, if_false]
    obtain ⟨r, u, hs, _, e1⟩ := makeSurf_ev b (by omega)
    obtain ⟨p, q, ho, e2⟩ := makeSlope_ev b (by omega) 40 (by omega)
    obtain ⟨d1, d2, d3⟩ := dir_ev ho
    obtain ⟨A, B, C, D, m1, m2, m3⟩ := mat_ev ho
    have hd := (of_decide_eq_true d3).2
    have hr := sf_rn (s := (r, u)) hs (dirWordI (p.val : Int) (q.val : Int)) (dirWordI (p.val : Int) (q.val : Int)).size
    have e3 := impl_run (I r) (I u) (dirWordI (p.val : Int) (q.val : Int)) (by omega)
    rw [runP_yes (s := (r, u)) hs d3] at e3
    obtain ⟨hh, h1, h2, h3⟩ := turned_per hs ho
    have epath := impl_pathPerm (I r) (I u) (p.val : Int) (q.val : Int)
    have ep : pathP (I r) (I u) (p.val : Int) (q.val : Int) = (I (pathL r u (slopeWordI (p.val : Int) (q.val : Int))), true) := by
      unfold pathP
      rw [if_pos ⟨surfB_I.mpr hs, ho⟩, N_I, N_I]
    rw [ep] at epath
    have hP := isP_pathL hs (slopeWordI (p.val : Int) (q.val : Int))
    have hpl := pathL_len r u (slopeWordI (p.val : Int) (q.val : Int))
    have eslope := (slopes_ev (p.val : Int) (q.val : Int)).2
    rw [ho] at eslope
    have ecyl : ∃ l : List S44, Ev (fun k => impl_CylindersIn.f k (I r) (I u) (p.val : Int) (q.val : Int)) (l, true) ∧ l.length ≤ 24 ∧ (∀ c ∈ l, (1 ≤ c.f0 ∧ c.f0 ≤ 24) ∧ (1 ≤ c.f1 ∧ c.f1 ≤ 24)) ∧ (l.map (fun c => c.f0.toNat * c.f1.toNat)).sum = r.length := by
      generalize rn (dirWordI (p.val : Int) (q.val : Int)) (r, u) (dirWordI (p.val : Int) (q.val : Int)).size = s at hr e3
      obtain ⟨G, g1, g2⟩ := impl_cyl hr.1
      have hl := outG_len (cycles s.1) G (cycles s.1).length (cycles s.1).length
      have h24 := cycles_len (p := s.1) hr.1.le
      refine ⟨_, ?_, Nat.le_trans hl h24, outG_box hr.1.pr hr.1.le G, by rw [cyl_area hr.1 g1, hr.2]⟩
      unfold impl_CylindersIn.f
      have h0 := surfB_I.mpr hs
      refine Ev.bind (impl_surf _ _) ?_
      simp only [h0, if_true]
      refine Ev.bind eslope (ev_succ ?_)
      simp only [impl_CylindersIn.j0, Bool.not_true, Bool.false_eq_true, if_false]
      refine Ev.bind d2 (Ev.bind e3 ?_)
      simp only [if_true]
      exact Ev.bind g2 (Ev.now _)
    obtain ⟨l, el, hl, hbox, hsum⟩ := ecyl
    have eone : Ev (fun k => impl_IsOneCylinder.f k (I r) (I u) (p.val : Int) (q.val : Int)) ((l.length : Int) == 1) := by
      unfold impl_IsOneCylinder.f
      refine Ev.bind el ?_
      simp only [if_true]
      exact Ev.now _
    generalize rn (dirWordI (p.val : Int) (q.val : Int)) (r, u) (dirWordI (p.val : Int) (q.val : Int)).size = s at hr e3 h3
    have hls := lens_eq hP hr.1.pr (by rw [hpl, hr.2]) hh (fun x hx => by rw [hr.2]; exact h1 x (by rw [← hpl]; exact hx)) (fun x y hx hy => h2 x y (by rw [← hpl]; exact hx) (by rw [← hpl]; exact hy)) (fun x hx => h3 x (by rw [← hpl]; exact hx))
    generalize pathL r u (slopeWordI (p.val : Int) (q.val : Int)) = P at hP hpl epath hls
    have hPle : P.length ≤ 24 := by rw [hpl]; exact hs.le
    have c24 := cycles_len (p := s.1) hr.1.le
    have p24 := cycles_len (p := P) hPle
    have harea := area_ev l hl hbox
    rw [hsum] at harea
    have hrows : Ev (fun k => impl_RowsOf.f k (I s.1) (I s.2)) (I2 (cycles s.1)) := by
      unfold impl_RowsOf.f
      refine Ev.bind (impl_surf _ _) ?_
      have h0 := surfB_I.mpr hr.1
      simp only [h0, if_true]
      exact Ev.bind (impl_cycles hr.1.pr hr.1.le) (Ev.now _)
    have slen : (sortD ((cycles P).map List.length)).length ≤ 24 := by rw [sortD_len, List.length_map]; exact p24
    refine Ev.bind e1 (Ev.bind e2 (Ev.bind d2 (Ev.bind m1 (Ev.bind e3 (Ev.bind el (Ev.bind epath (Ev.bind eslope ?_)))))))
    simp only [m2, m3, if_true, I_len']
    refine Ev.bind harea ?_
    simp only [if_true]
    refine Ev.bind hrows (Ev.bind (law_lengths _ (by omega)) (Ev.bind (impl_cycles hP hPle) (Ev.bind (law_lengths _ (by omega)) ?_)))
    rw [← hls]
    refine Ev.bind (law_same _ (by rw [I_len]; omega)) ?_
    simp only [if_true]
    refine Ev.bind eone ?_
    simp only [hpl, beq_self_eq_true, if_true]
    exact Ev.now _
end Go.Proofs.Ytbdnellgioimbaa.Pure
end
