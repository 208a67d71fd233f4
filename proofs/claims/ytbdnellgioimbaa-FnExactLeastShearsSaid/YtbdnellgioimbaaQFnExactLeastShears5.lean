/- Lemmas for the row FnExactLeastShears: the program's functions told as plain functions, and plain mathematics. No conditions. -/
import Derived.Test.YtbdnellgioimbaaQFnExactLeastShears4
section
/- One round about a corner; first places in lists. No conditions. -/
namespace Go.Proofs.Ytbdnellgioimbaa.M
set_option linter.unusedVariables false
set_option linter.unusedSimpArgs false
open Go.RowKit Go.Proofs.YtbdnellgioimbaaW.PrintWords Go.Proofs.YtbdnellgioimbaaW.PrintLast Go.Proofs.YtbdnellgioimbaaW.PrintMore Go.Proofs.Ytbdnellgioimbaa.A
theorem impl_then {p q : List Nat} (hp : IsP p) (hq : IsP q) (hl : p.length = q.length) (h24 : p.length ≤ 24) : Ev (fun k => impl_ThenPerm.f k (I p) (I q)) (I (thn p q)) := by
  unfold impl_ThenPerm.f
  refine Ev.bind (impl_permOk (I p)) ?_
  have e1 : permB (I p) = true := permB_I.mpr ⟨hp, h24⟩
  have e2 : permB (I q) = true := permB_I.mpr ⟨hq, by omega⟩
  simp only [e1, if_true]
  refine Ev.bind (impl_permOk (I q)) ?_
  have e3 : ((p.length : Int) != (q.length : Int)) = false := by simp [hl]
  simp only [e2, if_true, I_len', e3]
  refine ev_succ ?_
  have h1 : (0 : Int) ≤ (p.length : Int) := by omega
  have h2 : p.length ≤ 35184372088832 := by omega
  simp only [impl_ThenPerm.j0, Bool.false_eq_true, if_false, I_len', h1, h2, if_true, Int.toNat_natCast]
  have H : ∀ (d i : Nat) (c : List Nat), i + d = p.length → c.length = p.length → (∀ j, j < i → g c j = g q (g p j)) → Ev (fun k => impl_ThenPerm.l0 k (I q) (I c) (I p) (p.length : Int) (i : Int)) (I (thn p q)) := by
    intro d
    induction d with
    | zero =>
      intro i c h hc hx
      refine ev_succ ?_
      have h1 : ¬ ((i : Int) < (p.length : Int)) := by omega
      have e : thn p q = c := by
        refine (eq_tab hc (fun j hj => hx j (by omega))).symm
      simp only [impl_ThenPerm.l0, h1, if_false]
      rw [e]
      exact Ev.now _
    | succ d ih =>
      intro i c h hc hx
      refine ev_succ ?_
      have hi : i < p.length := by omega
      have gp := g_lt hp hi
      have c1 : (i : Int) < (p.length : Int) := by omega
      have c2 : (0 : Int) ≤ (i : Int) := by omega
      have c3 : (0 : Int) ≤ ((g p i : Nat) : Int) := by omega
      have c4 : ((g p i : Nat) : Int) < (q.length : Int) := by omega
      have c5 : (i : Int) < (c.length : Int) := by omega
      have h3 := w64s i (by omega)
      simp only [impl_ThenPerm.l0, c1, c2, c3, c4, c5, h3, rdI, I_len', I_set, if_true, Int.toNat_natCast]
      refine ih (i + 1) _ (by omega) (by rw [List.length_set]; exact hc) (fun j hj => ?_)
      rw [g_set (by omega)]
      by_cases e : i = j
      · subst e
        simp
      · rw [if_neg e]
        exact hx j (by omega)
  have := H p.length 0 (List.replicate p.length 0) (by omega) (by simp) (fun j hj => by omega)
  rw [I_rep] at this
  exact this
theorem spec_then2 {p q : List Nat} (hp : ∀ i, i < p.length → g p i < q.length) (h : p.length ≤ 1000) : Ev (fun k => spec_l02Then.f k (I p) (I q)) (I (thn p q)) := by
  unfold spec_l02Then.f
  have H : ∀ (d i : Nat), i + d = p.length → Ev (fun k => spec_l02Then.l0 k (I q) (I (tab i (fun i => g q (g p i)))) (I p) (p.length : Int) (i : Int)) (I (thn p q)) := by
    intro d
    induction d with
    | zero =>
      intro i h
      obtain rfl : i = p.length := by omega
      refine ev_succ ?_
      have h1 : ¬ ((p.length : Int) < (p.length : Int)) := by omega
      simp only [spec_l02Then.l0, h1, if_false]
      exact Ev.now _
    | succ d ih =>
      intro i h
      refine ev_succ ?_
      have hi : i < p.length := by omega
      have gp := hp i hi
      have c1 : (i : Int) < (p.length : Int) := by omega
      have c2 : (0 : Int) ≤ (i : Int) := by omega
      have c3 : (0 : Int) ≤ ((g p i : Nat) : Int) := by omega
      have c4 : ((g p i : Nat) : Int) < (q.length : Int) := by omega
      have c5 : (I (tab i (fun i => g q (g p i)))).length < 17592186044416 := by rw [I_len, tab_len]; omega
      have h3 := w64s i (by omega)
      have e : tab i (fun i => g q (g p i)) ++ [g q (g p i)] = tab (i + 1) (fun i => g q (g p i)) := by unfold tab; rw [List.range_succ]; simp
      simp only [spec_l02Then.l0, c1, c2, c3, c4, c5, h3, rdI, I_len', I_snoc, if_true, e]
      exact ih (i + 1) (by omega)
  simp only [I_len']
  exact H p.length 0 (by omega)
def arnd (r u : List Nat) : List Nat := thn (thn r u) (thn (inv r) (inv u))
theorem arnd_len (r u : List Nat) : (arnd r u).length = r.length := by unfold arnd; rw [thn_len, thn_len]
theorem g_arnd {r u : List Nat} (hs : Sf r u) {x : Nat} (hx : x < r.length) : g (arnd r u) x = ix u (ix r (g u (g r x))) := by
  have h1 := g_lt hs.pr hx
  have h2 := g_lt hs.pu (i := g r x) (by rw [hs.eq]; exact h1)
  have h2' : g u (g r x) < r.length := by rw [← hs.eq]; exact h2
  have h3 := ix_lt hs.pr h2'
  unfold arnd
  rw [g_thn (by rw [thn_len]; exact hx), g_thn hx, g_thn (by rw [inv_len]; exact h2'), g_inv h2', g_inv (by rw [hs.eq]; exact h3)]
theorem spec_around {r u : List Nat} (hs : Sf r u) : Ev (fun k => spec_l04Around.f k (I r) (I u)) (I (arnd r u)) := by
  have hle := hs.le
  have heq := hs.eq
  unfold spec_l04Around.f
  refine Ev.bind (spec_then2 (fun i hi => by have := g_lt hs.pr hi; omega) (by omega)) ?_
  refine Ev.bind (spec_inv hs.pr hs.le) (Ev.bind (spec_inv hs.pu (by omega)) ?_)
  refine Ev.bind (spec_then2 (fun i hi => by have := g_lt (isP_inv hs.pr) hi; rw [inv_len] at this hi ⊢; omega) (by rw [inv_len]; omega)) ?_
  refine Ev.bind (spec_then2 (fun i hi => by have := g_lt (isP_thn hs.pr hs.pu heq.symm) hi; rw [thn_len] at this hi ⊢; rw [inv_len]; omega) (by rw [thn_len]; omega)) ?_
  exact Ev.now _
theorem impl_around {r u : List Nat} (hs : Sf r u) : Ev (fun k => impl_AroundOf.f k (I r) (I u)) (I (arnd r u)) := by
  have hle := hs.le
  have heq := hs.eq
  unfold impl_AroundOf.f
  refine Ev.bind (impl_surf _ _) ?_
  rw [surfB_I.mpr hs]
  simp only [if_true]
  refine Ev.bind (impl_then hs.pr hs.pu heq.symm hs.le) ?_
  refine Ev.bind (impl_inv hs.pr hs.le) (Ev.bind (impl_inv hs.pu (by omega)) ?_)
  refine Ev.bind (impl_then (isP_inv hs.pr) (isP_inv hs.pu) (by rw [inv_len, inv_len, heq]) (by rw [inv_len]; omega)) ?_
  refine Ev.bind (impl_then (isP_thn hs.pr hs.pu heq.symm) (isP_thn (isP_inv hs.pr) (isP_inv hs.pu) (by rw [inv_len, inv_len, heq])) (by rw [thn_len, thn_len, inv_len]) (by rw [thn_len]; omega)) ?_
  exact Ev.now _
theorem first_split {α : Type} (P : α → Prop) : ∀ l : List α, (∃ c ∈ l, P c) → ∃ a c b, l = a ++ c :: b ∧ P c ∧ ∀ x ∈ a, ¬ P x := by
  intro l
  induction l with
  | nil => intro ⟨c, h, _⟩; simp at h
  | cons x l ih =>
    intro ⟨c, h, hc⟩
    by_cases hx : P x
    · exact ⟨[], x, l, rfl, hx, by simp⟩
    · obtain ⟨a, c', b, e, h1, h2⟩ := ih (by
        rcases List.mem_cons.mp h with rfl | h
        · exact absurd hc hx
        · exact ⟨c, h, hc⟩)
      refine ⟨x :: a, c', b, by rw [e]; rfl, h1, fun y hy => ?_⟩
      rcases List.mem_cons.mp hy with rfl | hy
      · exact hx
      · exact h2 y hy
theorem rdL_mid (a : List (List Nat)) (c : List Nat) (b : List (List Nat)) : rd_L1 (I2 (a ++ c :: b)) (a.length : Int) = I c := by
  unfold rd_L1 I2
  rw [Int.toNat_natCast, List.map_append, List.map_cons, ← List.length_map (f := I)]
  exact getD_mid _ _ _ _
theorem cyc_least {p : List Nat} (hp : IsP p) : ∀ i, i ≤ p.length → ∀ c ∈ cyc p i, ∃ s, s < i ∧ c = orb p s ∧ ∀ y ∈ c, s ≤ y := by
  intro i
  induction i with
  | zero => intro _ c h; simp [cyc] at h
  | succ i ih =>
    intro hi c hc
    by_cases h : ∃ c ∈ cyc p i, i ∈ c
    · rw [cyc_succ_old h] at hc
      obtain ⟨s, h1, h2, h3⟩ := ih (by omega) c hc
      exact ⟨s, by omega, h2, h3⟩
    · rw [cyc_succ_new h] at hc
      rcases List.mem_append.mp hc with hc | hc
      · obtain ⟨s, h1, h2, h3⟩ := ih (by omega) c hc
        exact ⟨s, by omega, h2, h3⟩
      · have e : c = orb p i := by simpa using hc
        subst e
        refine ⟨i, by omega, rfl, fun y hy => ?_⟩
        apply Classical.byContradiction
        intro hlt
        obtain ⟨c', hc', hm⟩ := cyc_all hp i (by omega) y (by omega)
        exact cyc_new hp (by omega) h hy ⟨c', hc', hm⟩
theorem orb_cons (p : List Nat) (s : Nat) : ∃ t, orb p s = s :: t := by
  have h := per_pos p s
  unfold orb orbTo
  obtain ⟨m, hm⟩ : ∃ m, per p s = m + 1 := ⟨per p s - 1, by omega⟩
  rw [hm, List.range_succ_eq_map]
  exact ⟨_, rfl⟩
theorem cycle_form {p : List Nat} (hp : IsP p) {c : List Nat} (hc : c ∈ cycles p) : ∃ s t, s < p.length ∧ c = s :: t ∧ c = orb p s ∧ ∀ y ∈ c, s ≤ y := by
  obtain ⟨s, h1, h2, h3⟩ := cyc_least hp p.length (Nat.le_refl _) c hc
  obtain ⟨t, ht⟩ := orb_cons p s
  exact ⟨s, t, h1, by rw [h2, ht], h2, h3⟩
theorem cycle_same {p : List Nat} (hp : IsP p) {c : List Nat} (hc : c ∈ cycles p) {x y : Nat} (hx : x < p.length) (hy : y ∈ orb p x) : x ∈ c ↔ y ∈ c := by
  obtain ⟨s, _, hs, _, e, _⟩ := cycle_form hp hc
  rw [e]
  constructor
  · intro h
    exact orb_trans hp hs h hy
  · intro h
    exact orb_trans hp hs h (orb_sym hp hx hy)
theorem has_nat (l : List Nat) (a : Nat) (hl : l.length ≤ 1000000000) : Ev (fun k => spec_l02Has.f k (I l) (a : Int)) (decide (a ∈ l)) := by
  have := has_ev (I l) (a : Int) (by rw [I_len]; exact hl)
  have e : decide ((a : Int) ∈ I l) = decide (a ∈ l) := by
    rw [Bool.eq_iff_iff, decide_eq_true_iff, decide_eq_true_iff]
    exact mem_I
  rw [e] at this
  exact this
end Go.Proofs.Ytbdnellgioimbaa.M
end
section
/- The row above: lookups of the program and the reference. No conditions. -/
namespace Go.Proofs.Ytbdnellgioimbaa.M
set_option linter.unusedVariables false
set_option linter.unusedSimpArgs false
open Go.RowKit Go.Proofs.YtbdnellgioimbaaW.PrintWords Go.Proofs.YtbdnellgioimbaaW.PrintLast Go.Proofs.YtbdnellgioimbaaW.PrintMore Go.Proofs.Ytbdnellgioimbaa.A
theorem index_ev (l : List Nat) (a : Nat) (hl : l.length ≤ 1000000000) : ∃ i : Int, Ev (fun k => slices_Index_int_int.f k (I l) (a : Int)) i ∧ (decide (i ≥ 0) = decide (a ∈ l)) := by
  unfold slices_Index_int_int.f
  have H : ∀ d i : Nat, i + d = l.length → a ∉ l.take i → ∃ j : Int, Ev (fun k => slices_Index_int_int.l0 k (I l) (a : Int) (l.length : Int) (i : Int)) j ∧ (decide (j ≥ 0) = decide (a ∈ l)) := by
    intro d
    induction d with
    | zero =>
      intro i h hn
      refine ⟨-1, ev_succ ?_, ?_⟩
      · have h1 : ¬ ((i : Int) < (l.length : Int)) := by omega
        simp only [slices_Index_int_int.l0, h1, if_false]
        exact Ev.now _
      · rw [List.take_of_length_le (by omega)] at hn
        simp [hn]
    | succ d ih =>
      intro i h hn
      have hi : i < l.length := by omega
      have c1 : (i : Int) < (l.length : Int) := by omega
      have c2 : (0 : Int) ≤ (i : Int) := by omega
      have h3 := w64s i (by omega)
      by_cases e : a = g l i
      · refine ⟨(i : Int), ev_succ ?_, ?_⟩
        · have e' : ((a : Nat) : Int) = ((g l i : Nat) : Int) := by rw [← e]
          simp only [slices_Index_int_int.l0, c1, c2, rdI, I_len', e', if_true]
          exact Ev.now _
        · have : a ∈ l := by rw [e]; exact g_mem hi
          simp [this]
      · obtain ⟨j, j1, j2⟩ := ih (i + 1) (by omega) (by
          rw [← List.take_append_getElem hi]
          intro hm
          rcases List.mem_append.mp hm with hm | hm
          · exact hn hm
          · rw [← g_get hi] at hm
            exact e (by simpa using hm))
        refine ⟨j, ev_succ ?_, j2⟩
        have e' : ¬ ((a : Nat) : Int) = ((g l i : Nat) : Int) := by omega
        simp only [slices_Index_int_int.l0, c1, c2, rdI, I_len', e', if_true, if_false, h3]
        exact j1
  have := H l.length 0 (by omega) (by simp)
  simp only [I_len']
  exact this
theorem contains_ev (l : List Nat) (a : Nat) (hl : l.length ≤ 1000000000) : Ev (fun k => slices_Contains_int_int.f k (I l) (a : Int)) (decide (a ∈ l)) := by
  unfold slices_Contains_int_int.f
  obtain ⟨i, h1, h2⟩ := index_ev l a hl
  refine Ev.bind h1 ?_
  rw [h2]
  exact Ev.now _
theorem min_ev (s : Nat) (t : List Nat) (h : ∀ y ∈ t, s ≤ y) (hl : t.length ≤ 1000000000) : Ev (fun k => slices_Min_int_int.f k (I (s :: t))) (s : Int) := by
  unfold slices_Min_int_int.f
  have h0 : ¬ (((I (s :: t)).length : Int) < 1) := by rw [I_len]; simp; omega
  simp only [h0, if_false]
  have e0 : rd (I (s :: t)) 0 = (s : Int) := rfl
  rw [e0]
  have H : ∀ d i : Nat, i + d = (s :: t).length → 1 ≤ i → Ev (fun k => slices_Min_int_int.l0 k (I (s :: t)) (s : Int) (i : Int)) (s : Int) := by
    intro d
    induction d with
    | zero =>
      intro i hi h1
      refine ev_succ ?_
      have h2 : ¬ ((i : Int) < ((s :: t).length : Int)) := by omega
      simp only [slices_Min_int_int.l0, I_len', h2, if_false]
      exact Ev.now _
    | succ d ih =>
      intro i hi h1
      refine ev_succ ?_
      have hi' : i < (s :: t).length := by omega
      have h2 : (i : Int) < ((s :: t).length : Int) := by omega
      have h3 : (0 : Int) ≤ (i : Int) := by omega
      have h4 := w64s i (by simp at hi; omega)
      have h5 : s ≤ g (s :: t) i := by
        have hm := g_mem hi'
        rcases List.mem_cons.mp hm with e | hm
        · rw [e]
          exact Nat.le_refl _
        · exact h _ hm
      have h6 : mn (s : Int) ((g (s :: t) i : Nat) : Int) = (s : Int) := by unfold mn; split <;> omega
      simp only [slices_Min_int_int.l0, I_len', h2, h3, rdI, h4, h6, if_true]
      exact ih (i + 1) (by omega) (by omega)
  exact H t.length 1 (by simp; omega) (Nat.le_refl _)
theorem rowOf_ev {r : List Nat} (hr : IsP r) (h24 : r.length ≤ 24) (u : List Int) {x : Nat} {a : List (List Nat)} {c : List Nat} {b : List (List Nat)} (e : cycles r = a ++ c :: b) (hc : x ∈ c) (ha : ∀ d ∈ a, x ∉ d) : Ev (fun k => impl_rowOf.f k (I r) u (x : Int)) (I c) := by
  unfold impl_rowOf.f
  refine Ev.bind (impl_cycles hr h24) ?_
  have hlen := cycles_len (p := r) h24
  have H : ∀ (a1 a0 : List (List Nat)), a = a0 ++ a1 → Ev (fun k => impl_rowOf.l0 k (x : Int) (I2 (cycles r)) ((I2 (cycles r)).length : Int) (a0.length : Int)) (I c) := by
    intro a1
    induction a1 with
    | nil =>
      intro a0 ea
      have ea' : a = a0 := by simpa using ea
      subst ea'
      refine ev_succ ?_
      have hl : a.length < (cycles r).length := by rw [e]; simp
      have c1 : (a.length : Int) < ((I2 (cycles r)).length : Int) := by rw [I2_len]; omega
      have c2 : (0 : Int) ≤ (a.length : Int) := by omega
      have e1 : rd_L1 (I2 (cycles r)) (a.length : Int) = I c := by rw [e]; exact rdL_mid a c b
      simp only [impl_rowOf.l0, c1, c2, e1, if_true]
      refine Ev.bind (contains_ev c x (by have := cycle_len hr h24 c (by rw [e]; simp); omega)) ?_
      simp only [hc, decide_true, if_true]
      exact Ev.now _
    | cons d a1 ih =>
      intro a0 ea
      refine ev_succ ?_
      have e2 : cycles r = a0 ++ d :: (a1 ++ c :: b) := by rw [e, ea]; simp
      have hl : a0.length < (cycles r).length := by rw [e2]; simp
      have c1 : (a0.length : Int) < ((I2 (cycles r)).length : Int) := by rw [I2_len]; omega
      have c2 : (0 : Int) ≤ (a0.length : Int) := by omega
      have e1 : rd_L1 (I2 (cycles r)) (a0.length : Int) = I d := by rw [e2]; exact rdL_mid a0 d _
      have hn := ha d (by rw [ea]; simp)
      have h4 := w64s a0.length (by omega)
      simp only [impl_rowOf.l0, c1, c2, e1, if_true]
      refine Ev.bind (contains_ev d x (by have := cycle_len hr h24 d (by rw [e2]; simp); omega)) ?_
      simp only [hn, decide_false, Bool.false_eq_true, if_false, h4]
      have := ih (a0 ++ [d]) (by rw [ea]; simp)
      have e3 : ((a0 ++ [d]).length : Int) = ((a0.length + 1 : Nat) : Int) := by simp
      rw [e3] at this
      exact this
  exact H a [] rfl
theorem row_ev {l : List (List Nat)} (hl : l.length ≤ 1000) (hc1 : ∀ c ∈ l, c.length ≤ 1000) {x : Nat} {a : List (List Nat)} {c : List Nat} {b : List (List Nat)} (e : l = a ++ c :: b) (hc : x ∈ c) (ha : ∀ d ∈ a, x ∉ d) : Ev (fun k => spec_l08Row.f k (I2 l) (x : Int)) (a.length : Int) := by
  unfold spec_l08Row.f
  have H : ∀ (a1 a0 : List (List Nat)), a = a0 ++ a1 → Ev (fun k => spec_l08Row.l0 k (x : Int) (I2 l) ((I2 l).length : Int) (a0.length : Int)) (a.length : Int) := by
    intro a1
    induction a1 with
    | nil =>
      intro a0 ea
      have ea' : a = a0 := by simpa using ea
      subst ea'
      refine ev_succ ?_
      have hl : a.length < l.length := by rw [e]; simp
      have c1 : (a.length : Int) < ((I2 l).length : Int) := by rw [I2_len]; omega
      have c2 : (0 : Int) ≤ (a.length : Int) := by omega
      have e1 : rd_L1 (I2 l) (a.length : Int) = I c := by rw [e]; exact rdL_mid a c b
      simp only [spec_l08Row.l0, c1, c2, e1, if_true]
      refine Ev.bind (has_nat c x (by have := hc1 c (by rw [e]; simp); omega)) ?_
      simp only [hc, decide_true, if_true]
      exact Ev.now _
    | cons d a1 ih =>
      intro a0 ea
      refine ev_succ ?_
      have e2 : l = a0 ++ d :: (a1 ++ c :: b) := by rw [e, ea]; simp
      have hl : a0.length < l.length := by rw [e2]; simp
      have c1 : (a0.length : Int) < ((I2 l).length : Int) := by rw [I2_len]; omega
      have c2 : (0 : Int) ≤ (a0.length : Int) := by omega
      have e1 : rd_L1 (I2 l) (a0.length : Int) = I d := by rw [e2]; exact rdL_mid a0 d _
      have hn := ha d (by rw [ea]; simp)
      have h4 := w64s a0.length (by omega)
      simp only [spec_l08Row.l0, c1, c2, e1, if_true]
      refine Ev.bind (has_nat d x (by have := hc1 d (by rw [e2]; simp); omega)) ?_
      simp only [hn, decide_false, Bool.false_eq_true, if_false, h4]
      have := ih (a0 ++ [d]) (by rw [ea]; simp)
      have e3 : ((a0 ++ [d]).length : Int) = ((a0.length + 1 : Nat) : Int) := by simp
      rw [e3] at this
      exact this
  exact H a [] rfl
def rowIx (l : List (List Nat)) (x : Nat) : Nat := l.findIdx (fun c => decide (x ∈ c))
theorem rowIx_eq {l : List (List Nat)} {x : Nat} {a : List (List Nat)} {c : List Nat} {b : List (List Nat)} (e : l = a ++ c :: b) (hc : x ∈ c) (ha : ∀ d ∈ a, x ∉ d) : rowIx l x = a.length := by
  unfold rowIx
  rw [e, List.findIdx_append]
  have h1 : a.findIdx (fun c => decide (x ∈ c)) = a.length := by
    rw [List.findIdx_eq_length]
    intro d hd
    simp [ha d hd]
  rw [h1]
  simp [List.findIdx_cons, hc]
theorem row_at {r : List Nat} (hr : IsP r) {x : Nat} (hx : x < r.length) : ∃ a c b, cycles r = a ++ c :: b ∧ x ∈ c ∧ ∀ d ∈ a, x ∉ d :=
  first_split (fun c => x ∈ c) (cycles r) (cyc_all hr r.length (Nat.le_refl _) x hx)
def regB (r u c : List Nat) : Bool := c.all (fun x => g (arnd r u) x == x)
def abv (r u c : List Nat) : Int := if regB r u c = true then (rowIx (cycles r) (g u (c.headD 0)) : Int) else -1
theorem reg_step {r u : List Nat} (hs : Sf r u) {x : Nat} (hx : x < r.length) (h : g (arnd r u) x = x) : g u (g r x) = g r (g u x) := by
  rw [g_arnd hs hx] at h
  have h1 := g_lt hs.pr hx
  have h2 : g u (g r x) < r.length := by rw [← hs.eq]; exact g_lt hs.pu (by rw [hs.eq]; exact h1)
  have h3 := ix_lt hs.pr h2
  have e := g_ix hs.pu (x := ix r (g u (g r x))) (by rw [hs.eq]; exact h3)
  rw [h] at e
  rw [e, g_ix hs.pr h2]
theorem reg_up {r u : List Nat} (hs : Sf r u) {s : Nat} (h0 : s < r.length) (hreg : ∀ x ∈ orb r s, g (arnd r u) x = x) (k : Nat) : g u (itr r k s) = itr r k (g u s) := by
  induction k with
  | zero => rfl
  | succ k ih =>
    have hm : itr r k s ∈ orb r s := (mem_orb hs.pr h0).mpr ⟨k, rfl⟩
    show g u (g r (itr r k s)) = g r (itr r k (g u s))
    rw [reg_step hs (itr_lt hs.pr k h0) (hreg _ hm), ih]
theorem cycle_ix {p : List Nat} (hp : IsP p) {c0 c1 : List (List Nat)} {c : List Nat} (e : cycles p = c0 ++ c :: c1) {x : Nat} (hx : x ∈ c) : rowIx (cycles p) x = c0.length := by
  refine rowIx_eq e hx (fun d hd hxd => ?_)
  have hnd := (cyc_flat_lt hp p.length (Nat.le_refl _)).2
  have e2 : cyc p p.length = c0 ++ c :: c1 := e
  rw [e2, List.flatten_append] at hnd
  have := (List.nodup_append.mp hnd).2.2 x (mem_flat.mpr ⟨d, hd, hxd⟩) x (mem_flat.mpr ⟨c, by simp, hx⟩)
  exact this rfl
theorem regB_iff {r u c : List Nat} : regB r u c = true ↔ ∀ x ∈ c, g (arnd r u) x = x := by
  unfold regB
  simp
end Go.Proofs.Ytbdnellgioimbaa.M
end
section
/- Plain mathematics: classes of what is linked. No conditions. -/
namespace Go.Proofs.Ytbdnellgioimbaa.M
set_option linter.unusedVariables false
set_option linter.unusedSimpArgs false
inductive Cn (up : Nat → Option Nat) : Nat → Nat → Prop
  | refl (i : Nat) : Cn up i i
  | up {i j k : Nat} : up i = some j → Cn up j k → Cn up i k
  | dn {i j k : Nat} : up j = some i → Cn up j k → Cn up i k
theorem Cn.trans {up : Nat → Option Nat} {i j k : Nat} (h : Cn up i j) (h' : Cn up j k) : Cn up i k := by
  induction h with
  | refl i => exact h'
  | up e _ ih => exact .up e (ih h')
  | dn e _ ih => exact .dn e (ih h')
theorem Cn.symm {up : Nat → Option Nat} {i j : Nat} (h : Cn up i j) : Cn up j i := by
  induction h with
  | refl i => exact .refl i
  | up e _ ih => exact ih.trans (.dn e (.refl _))
  | dn e _ ih => exact ih.trans (.up e (.refl _))
theorem Cn.one {up : Nat → Option Nat} {i j : Nat} (h : up i = some j) : Cn up i j := .up h (.refl _)
theorem Cn.lt {n : Nat} {up : Nat → Option Nat} (hup : ∀ i j, up i = some j → i < n ∧ j < n) {i j : Nat} (h : Cn up i j) (hi : i < n) : j < n := by
  induction h with
  | refl i => exact hi
  | up e _ ih => exact ih (hup _ _ e).2
  | dn e _ ih => exact ih (hup _ _ e).1
theorem Cn.closed {up : Nat → Option Nat} {S : Nat → Prop} (hS : ∀ i j, up i = some j → (S i ↔ S j)) {i j : Nat} (h : Cn up i j) : S i ↔ S j := by
  induction h with
  | refl i => exact Iff.rfl
  | up e _ ih => exact (hS _ _ e).trans ih
  | dn e _ ih => exact (hS _ _ e).symm.trans ih
structure Grp (n : Nat) (up : Nat → Option Nat) (t : Nat) (G : Nat → Nat) : Prop where
  le : ∀ j, j < n → G j ≤ j
  fix : ∀ j, j < n → G (G j) = G j
  cn : ∀ j, j < n → Cn up j (G j)
  ed : ∀ i j, i < t → up i = some j → G i = G j
def mgf (G : Nat → Nat) (a b : Nat) : Nat → Nat := fun j => if G j = a ∨ G j = b then min a b else G j
theorem Grp.start (n : Nat) (up : Nat → Option Nat) : Grp n up 0 (fun j => j) := ⟨fun j _ => Nat.le_refl _, fun j _ => rfl, fun j _ => .refl _, fun i j h _ => by omega⟩
theorem Grp.skip {n t : Nat} {up : Nat → Option Nat} {G : Nat → Nat} (h : Grp n up t G) (e : up t = none) : Grp n up (t + 1) G :=
  ⟨h.le, h.fix, h.cn, fun i j hi hj => by
    by_cases e2 : i = t
    · subst e2
      rw [e] at hj
      cases hj
    · exact h.ed i j (by omega) hj⟩
theorem Grp.merge {n t k : Nat} {up : Nat → Option Nat} (hup : ∀ i j, up i = some j → i < n ∧ j < n) {G : Nat → Nat} (h : Grp n up t G) (e : up t = some k) : Grp n up (t + 1) (mgf G (G t) (G k)) := by
  obtain ⟨ht, hk⟩ := hup t k e
  have ha := h.fix t ht
  have hb := h.fix k hk
  have la := h.le t ht
  have lb := h.le k hk
  have hab : Cn up (G t) (G k) := (h.cn t ht).symm.trans ((Cn.one e).trans (h.cn k hk))
  have hm : min (G t) (G k) = G t ∨ min (G t) (G k) = G k := by omega
  refine ⟨fun j hj => ?_, fun j hj => ?_, fun j hj => ?_, fun i j hi hj => ?_⟩
  · unfold mgf
    have := h.le j hj
    split <;> omega
  · have key : ∀ c, (c = G t ∨ c = G k) → mgf G (G t) (G k) c = min (G t) (G k) := by
      intro c hc
      unfold mgf
      rw [if_pos (by rcases hc with rfl | rfl; exact .inl ha; exact .inr hb)]
    by_cases hc : G j = G t ∨ G j = G k
    · have e1 : mgf G (G t) (G k) j = min (G t) (G k) := by unfold mgf; rw [if_pos hc]
      rw [e1]
      exact key _ hm
    · have e1 : mgf G (G t) (G k) j = G j := by unfold mgf; rw [if_neg hc]
      rw [e1]
      unfold mgf
      rw [h.fix j hj, if_neg hc]
  · unfold mgf
    split
    · rename_i hc
      refine (h.cn j hj).trans ?_
      rcases hc with hc | hc <;> rcases hm with hm | hm <;> rw [hc, hm]
      · exact .refl _
      · exact hab
      · exact hab.symm
      · exact .refl _
    · exact h.cn j hj
  · by_cases e2 : i = t
    · subst e2
      rw [e] at hj
      injection hj with hj
      subst hj
      unfold mgf
      simp
    · unfold mgf
      rw [h.ed i j (by omega) hj]
theorem Grp.iff {n : Nat} {up : Nat → Option Nat} (hup : ∀ i j, up i = some j → i < n ∧ j < n) {G : Nat → Nat} (h : Grp n up n G) {i j : Nat} (hi : i < n) (hj : j < n) : G i = G j ↔ Cn up i j := by
  constructor
  · intro e
    have := (h.cn i hi).trans ((by rw [e]; exact .refl _ : Cn up (G i) (G j)).trans (h.cn j hj).symm)
    exact this
  · intro hc
    induction hc with
    | refl i => rfl
    | up e _ ih => rw [h.ed _ _ (hup _ _ e).1 e]; exact ih (hup _ _ e).2 hj
    | dn e _ ih => rw [← h.ed _ _ (hup _ _ e).1 e]; exact ih (hup _ _ e).1 hj
theorem Grp.head {n : Nat} {up : Nat → Option Nat} (hup : ∀ i j, up i = some j → i < n ∧ j < n) {G : Nat → Nat} (h : Grp n up n G) {i : Nat} (hi : i < n) : G i = i ↔ ∀ j, Cn up i j → i ≤ j := by
  constructor
  · intro e j hc
    have hj := hc.lt hup hi
    have := (h.iff hup hi hj).mpr hc
    have := h.le j hj
    omega
  · intro hc
    have := hc _ (h.cn i hi)
    have := h.le i hi
    omega
def ups (up : Nat → Option Nat) : Nat → Nat → Option Nat
  | 0, i => some i
  | m + 1, i => (up i).bind (ups up m)
theorem ups_succ (up : Nat → Option Nat) (m i : Nat) : ups up (m + 1) i = (ups up m i).bind up := by
  induction m generalizing i with
  | zero =>
    simp only [ups, Option.bind_some]
    cases h : up i <;> rfl
  | succ m ih =>
    show (up i).bind (ups up (m + 1)) = ((up i).bind (ups up m)).bind up
    cases h : up i with
    | none => rfl
    | some j => exact ih j
theorem ups_lt {n : Nat} {up : Nat → Option Nat} (hup : ∀ i j, up i = some j → i < n ∧ j < n) {m i j : Nat} (hi : i < n) (h : ups up m i = some j) : j < n := by
  cases m with
  | zero => simp [ups] at h; omega
  | succ m =>
    rw [ups_succ] at h
    obtain ⟨z, _, hz⟩ := Option.bind_eq_some_iff.mp h
    exact (hup _ _ hz).2
theorem ups_cn {up : Nat → Option Nat} {m i j : Nat} (h : ups up m i = some j) : Cn up i j := by
  induction m generalizing i with
  | zero => simp [ups] at h; subst h; exact .refl _
  | succ m ih =>
    obtain ⟨z, hz, h2⟩ := Option.bind_eq_some_iff.mp h
    exact .up hz (ih h2)
theorem ups_add (up : Nat → Option Nat) (a b i : Nat) : ups up (a + b) i = (ups up a i).bind (ups up b) := by
  induction a generalizing i with
  | zero => simp [ups]
  | succ a ih =>
    have e : a + 1 + b = (a + b) + 1 := by omega
    rw [e]
    show (up i).bind (ups up (a + b)) = ((up i).bind (ups up a)).bind (ups up b)
    cases h : up i with
    | none => rfl
    | some j => exact ih j
theorem ups_few {n : Nat} {up : Nat → Option Nat} (hup : ∀ i j, up i = some j → i < n ∧ j < n) {i j : Nat} (hi : i < n) (h : ∃ m, ups up m i = some j) : ∃ m, m < n ∧ ups up m i = some j := by
  have H : ∀ m, ups up m i = some j → ∃ m', m' ≤ m ∧ ups up m' i = some j ∧ ∀ q, q < m' → ups up q i ≠ some j := by
    intro m
    induction m using Nat.strongRecOn with
    | _ m ih =>
      intro hm
      by_cases hq : ∃ q, q < m ∧ ups up q i = some j
      · obtain ⟨q, q1, q2⟩ := hq
        obtain ⟨m', a, b, c⟩ := ih q q1 q2
        exact ⟨m', by omega, b, c⟩
      · exact ⟨m, Nat.le_refl _, hm, fun q q1 q2 => hq ⟨q, q1, q2⟩⟩
  obtain ⟨m, hm⟩ := h
  obtain ⟨m', _, h2, h3⟩ := H m hm
  refine ⟨m', ?_, h2⟩
  apply Classical.byContradiction
  intro hn
  have hpt : ∀ q, q ≤ m' → ∃ x, ups up q i = some x := by
    intro q hq
    have e : m' = q + (m' - q) := by omega
    rw [e, ups_add] at h2
    obtain ⟨z, hz, _⟩ := Option.bind_eq_some_iff.mp h2
    exact ⟨z, hz⟩
  have hne : ∀ a b, a < b → b ≤ m' → ups up a i ≠ ups up b i := by
    intro a b hab hb e
    have e1 : m' = b + (m' - b) := by omega
    rw [e1, ups_add, ← e, ← ups_add] at h2
    exact h3 (a + (m' - b)) (by omega) h2
  have hd : ((List.range (m' + 1)).map (fun q => (ups up q i).getD 0)).Nodup := by
    refine List.pairwise_map.mpr ?_
    refine List.pairwise_iff_getElem.mpr ?_
    intro a b ha hb hab
    rw [List.length_range] at ha hb
    rw [List.getElem_range, List.getElem_range]
    intro e
    obtain ⟨x, hx⟩ := hpt a (by omega)
    obtain ⟨y, hy⟩ := hpt b (by omega)
    rw [hx, hy] at e
    have e2 : x = y := e
    exact hne a b hab (by omega) (by rw [hx, hy, e2])
  have := nodup_le n _ hd (fun x hx => by
    obtain ⟨q, hq, rfl⟩ := List.mem_map.mp hx
    have := List.mem_range.mp hq
    obtain ⟨y, hy⟩ := hpt q (by omega)
    rw [hy]
    exact ups_lt hup hi hy)
  simp at this
  omega
theorem nodup_sub_len : ∀ (a b : List Nat), a.Nodup → (∀ x ∈ a, x ∈ b) → a.length ≤ b.length := by
  intro a
  induction a with
  | nil => intro b _ _; simp
  | cons x a ih =>
    intro b hn hs
    have hx := List.nodup_cons.mp hn
    have h1 := ih (b.erase x) hx.2 (fun y hy => by
      have hyx : y ≠ x := fun e => hx.1 (e ▸ hy)
      exact (List.mem_erase_of_ne hyx).mpr (hs y (by simp [hy])))
    have h2 := List.length_erase_of_mem (hs x (by simp))
    have h3 : 0 < b.length := List.length_pos_of_mem (hs x (by simp))
    simp only [List.length_cons]
    omega
theorem nodup_len_eq {a b : List Nat} (ha : a.Nodup) (hb : b.Nodup) (h : ∀ x, x ∈ a ↔ x ∈ b) : a.length = b.length :=
  Nat.le_antisymm (nodup_sub_len a b ha (fun x hx => (h x).mp hx)) (nodup_sub_len b a hb (fun x hx => (h x).mpr hx))
structure Mk (n : Nat) (up : Nat → Option Nat) (row : Nat) (S0 add : List Nat) : Prop where
  nd : add.Nodup
  lt : ∀ x ∈ add, x < n
  new : ∀ x ∈ add, x ∉ S0
  p : ∀ x ∈ add, (∃ m, ups up m row = some x) ∨ (∃ m, ups up m x = some row)
theorem Mk.cn {n : Nat} {up : Nat → Option Nat} {row : Nat} {S0 add : List Nat} (h : Mk n up row S0 add) {x : Nat} (hx : x ∈ add) : Cn up row x := by
  rcases h.p x hx with ⟨m, hm⟩ | ⟨m, hm⟩
  · exact ups_cn hm
  · exact (ups_cn hm).symm
theorem Mk.add {n : Nat} {up : Nat → Option Nat} {row : Nat} {S0 add : List Nat} (h : Mk n up row S0 add) {x : Nat} (hx : x < n) (h1 : x ∉ S0) (h2 : x ∉ add) (hp : (∃ m, ups up m row = some x) ∨ (∃ m, ups up m x = some row)) : Mk n up row S0 (add ++ [x]) := by
  refine ⟨List.nodup_append.mpr ⟨h.nd, by simp, fun a ha b hb e => ?_⟩, fun y hy => ?_, fun y hy => ?_, fun y hy => ?_⟩
  · have : b = x := by simpa using hb
    exact h2 (by rw [← this, ← e]; exact ha)
  · rcases List.mem_append.mp hy with hy | hy
    · exact h.lt y hy
    · have : y = x := by simpa using hy
      omega
  · rcases List.mem_append.mp hy with hy | hy
    · exact h.new y hy
    · have : y = x := by simpa using hy
      rw [this]
      exact h1
  · rcases List.mem_append.mp hy with hy | hy
    · exact h.p y hy
    · have : y = x := by simpa using hy
      rw [this]
      exact hp
theorem Mk.full {n : Nat} {up : Nat → Option Nat} (hup : ∀ i j, up i = some j → i < n ∧ j < n) (hinj : ∀ i i' j, up i = some j → up i' = some j → i = i') {row : Nat} {S0 add : List Nat} (h : Mk n up row S0 add) (hrow : row ∈ add)
    (hS0 : ∀ i j, up i = some j → (i ∈ S0 ↔ j ∈ S0)) (c1 : ∀ x ∈ add, ∀ y, up x = some y → y ∈ S0 ∨ y ∈ add)
    (c2 : ∀ k x, up k = some x → (x ∈ S0 ∨ x ∈ add) → (∃ m, ups up m k = some row) → (k ∈ S0 ∨ k ∈ add)) : ∀ x, x ∈ add ↔ Cn up row x := by
  have hrs : row ∉ S0 := h.new row hrow
  have chain : ∀ m x, ups up m row = some x → x ∈ add := by
    intro m
    induction m with
    | zero => intro x hx; simp [ups] at hx; rw [← hx]; exact hrow
    | succ m ih =>
      intro x hx
      rw [ups_succ] at hx
      obtain ⟨z, hz, hzx⟩ := Option.bind_eq_some_iff.mp hx
      have hza := ih z hz
      rcases c1 z hza x hzx with k | k
      · exact absurd ((hS0 z x hzx).mpr k) (h.new z hza)
      · exact k
  have closed : ∀ i j, up i = some j → ((i ∈ S0 ∨ i ∈ add) ↔ (j ∈ S0 ∨ j ∈ add)) := by
    intro i j e
    constructor
    · rintro (k | k)
      · exact .inl ((hS0 i j e).mp k)
      · exact c1 i k j e
    · rintro (k | k)
      · exact .inl ((hS0 i j e).mpr k)
      · rcases h.p j k with ⟨m, hm⟩ | ⟨m, hm⟩
        · cases m with
          | zero =>
            simp [ups] at hm
            subst hm
            exact c2 i _ e (.inr k) ⟨1, by simp [ups, e]⟩
          | succ m =>
            rw [ups_succ] at hm
            obtain ⟨z, hz, hzj⟩ := Option.bind_eq_some_iff.mp hm
            have := hinj i z j e hzj
            subst this
            exact .inr (chain m _ hz)
        · exact c2 i j e (.inr k) ⟨m + 1, by simp [ups, e, hm]⟩
  intro x
  constructor
  · exact fun hx => h.cn hx
  · intro hc
    have h1 := (Cn.closed (S := fun z => z ∈ S0 ∨ z ∈ add) closed hc).mp (.inr hrow)
    rcases h1 with h1 | h1
    · exact absurd ((Cn.closed (S := fun z => z ∈ S0) hS0 hc).mpr h1) hrs
    · exact h1
end Go.Proofs.Ytbdnellgioimbaa.M
end
section
/- The links of rows. No conditions. -/
namespace Go.Proofs.Ytbdnellgioimbaa.M
set_option linter.unusedVariables false
set_option linter.unusedSimpArgs false
open Go.RowKit Go.Proofs.YtbdnellgioimbaaW.PrintWords Go.Proofs.YtbdnellgioimbaaW.PrintLast Go.Proofs.YtbdnellgioimbaaW.PrintMore Go.Proofs.Ytbdnellgioimbaa.A
theorem split_at {α : Type} (l : List α) (i : Nat) (h : i < l.length) : l = l.take i ++ l[i] :: l.drop (i + 1) ∧ (l.take i).length = i :=
  ⟨by rw [← List.drop_eq_getElem_cons h, List.take_append_drop], by rw [List.length_take]; omega⟩
def upA (A : List Int) (i : Nat) : Option Nat := if i < A.length ∧ 0 ≤ rd A (i : Int) then some (rd A (i : Int)).toNat else none
def abL (r u : List Nat) : List Int := (cycles r).map (abv r u)
theorem abL_len (r u : List Nat) : (abL r u).length = (cycles r).length := by simp [abL]
theorem rd_abL {r u : List Nat} {i : Nat} (h : i < (cycles r).length) : rd (abL r u) (i : Int) = abv r u ((cycles r)[i]) := by
  unfold abL
  rw [rd_get _ _ (by rw [List.length_map]; exact h)]
  simp
theorem rowIx_lt {r : List Nat} (hr : IsP r) {x : Nat} (hx : x < r.length) : ∃ h : rowIx (cycles r) x < (cycles r).length, x ∈ (cycles r)[rowIx (cycles r) x] := by
  obtain ⟨a, c, b, e1, e2, e3⟩ := row_at hr hx
  have h := rowIx_eq e1 e2 e3
  have hl : a.length < (cycles r).length := by rw [e1]; simp
  rw [h]
  refine ⟨hl, ?_⟩
  have : (cycles r)[a.length]'hl = c := by
    have h2 : (cycles r)[a.length]? = some c := by rw [e1]; simp
    exact (List.getElem?_eq_some_iff.mp h2).2
  rw [this]
  exact e2
theorem ix_of_mem {r : List Nat} (hr : IsP r) {i : Nat} (h : i < (cycles r).length) {x : Nat} (hx : x ∈ (cycles r)[i]) : rowIx (cycles r) x = i := by
  obtain ⟨e1, e2⟩ := split_at (cycles r) i h
  have := cycle_ix hr e1 hx
  rw [e2] at this
  exact this
theorem upA_form {r u : List Nat} (hs : Sf r u) {i j : Nat} (h : upA (abL r u) i = some j) : ∃ hi : i < (cycles r).length, ∃ s, s < r.length ∧ (cycles r)[i] = orb r s ∧ s ∈ (cycles r)[i] ∧ (∀ x ∈ (cycles r)[i], g (arnd r u) x = x) ∧ g u s < r.length ∧ j = rowIx (cycles r) (g u s) := by
  unfold upA at h
  split at h
  · rename_i hc
    obtain ⟨h1, h2⟩ := hc
    rw [abL_len] at h1
    rw [rd_abL h1] at h2 h
    unfold abv at h2 h
    by_cases hreg : regB r u ((cycles r)[i]) = true
    · rw [if_pos hreg] at h
      obtain ⟨s, t, hs0, ec, eo, _⟩ := cycle_form hs.pr (List.getElem_mem h1)
      have hhead : ((cycles r)[i]).headD 0 = s := by rw [ec]; rfl
      rw [hhead] at h
      refine ⟨h1, s, hs0, eo, by rw [ec]; simp, regB_iff.mp hreg, by rw [← hs.eq]; exact g_lt hs.pu (by rw [hs.eq]; exact hs0), ?_⟩
      injection h with h
      omega
    · rw [if_neg hreg] at h2
      omega
  · cases h
theorem upA_lt {r u : List Nat} (hs : Sf r u) : ∀ i j, upA (abL r u) i = some j → i < (cycles r).length ∧ j < (cycles r).length := by
  intro i j h
  obtain ⟨hi, s, hs0, _, _, _, hu, e⟩ := upA_form hs h
  refine ⟨hi, ?_⟩
  rw [e]
  exact (rowIx_lt hs.pr hu).1
theorem upA_inj {r u : List Nat} (hs : Sf r u) {i i' j : Nat} (h : upA (abL r u) i = some j) (h' : upA (abL r u) i' = some j) : i = i' := by
  obtain ⟨hi, s, hs0, eo, hm, hreg, hu, e⟩ := upA_form hs h
  obtain ⟨hi', s', hs0', eo', hm', hreg', hu', e'⟩ := upA_form hs h'
  obtain ⟨hj, k1⟩ := rowIx_lt hs.pr hu
  obtain ⟨hj', k2⟩ := rowIx_lt hs.pr hu'
  have ej : rowIx (cycles r) (g u s') = rowIx (cycles r) (g u s) := by rw [← e, ← e']
  simp only [ej] at k2
  obtain ⟨z, _, hz, _, ez, _⟩ := cycle_form hs.pr (List.getElem_mem hj)
  rw [ez] at k1 k2
  have k3 : g u s' ∈ orb r (g u s) := orb_trans hs.pr hu (orb_sym hs.pr hz k1) k2
  obtain ⟨m, hmm⟩ := (mem_orb hs.pr hu).mp k3
  have hup := reg_up hs hs0 (fun x hx => hreg x (by rw [eo]; exact hx)) m
  rw [hmm] at hup
  have e2 : itr r m s = s' := g_inj hs.pu (by rw [hs.eq]; exact itr_lt hs.pr m hs0) (by rw [hs.eq]; exact hs0') hup
  have hin : s' ∈ (cycles r)[i] := by
    rw [eo]
    exact (mem_orb hs.pr hs0).mpr ⟨m, e2⟩
  rw [← ix_of_mem hs.pr hi hin, ← ix_of_mem hs.pr hi' hm']
end Go.Proofs.Ytbdnellgioimbaa.M
end
section
/- The row above: the reference's list, the program's answer. No conditions. -/
namespace Go.Proofs.Ytbdnellgioimbaa.M
set_option linter.unusedVariables false
set_option linter.unusedSimpArgs false
open Go.RowKit Go.Proofs.YtbdnellgioimbaaW.PrintWords Go.Proofs.YtbdnellgioimbaaW.PrintLast Go.Proofs.YtbdnellgioimbaaW.PrintMore Go.Proofs.Ytbdnellgioimbaa.A
theorem above_ev {r u : List Nat} (hs : Sf r u) : Ev (fun k => spec_l08Above.f k (I r) (I u) (I2 (cycles r))) ((cycles r).map (abv r u)) := by
  have hle := hs.le
  have heq := hs.eq
  have hlen := cycles_len (p := r) hs.le
  unfold spec_l08Above.f
  refine Ev.bind (spec_around hs) ?_
  have H : ∀ (c1 c0 : List (List Nat)), cycles r = c0 ++ c1 → Ev (fun k => spec_l08Above.l0 k (I2 (cycles r)) (I (arnd r u)) (c0.map (abv r u)) (I2 (cycles r)) ((I2 (cycles r)).length : Int) (c0.length : Int) (I r) (I u)) ((cycles r).map (abv r u)) := by
    intro c1
    induction c1 with
    | nil =>
      intro c0 e
      have e' : cycles r = c0 := by simpa using e
      refine ev_succ ?_
      have h1 : ¬ ((c0.length : Int) < ((I2 (cycles r)).length : Int)) := by rw [I2_len, e']; omega
      simp only [spec_l08Above.l0, h1, if_false]
      rw [← e']
      exact Ev.now _
    | cons c c1 ih =>
      intro c0 e
      refine ev_succ ?_
      have hmem : c ∈ cycles r := by rw [e]; simp
      obtain ⟨s, t, hs0, ec, eo, _⟩ := cycle_form hs.pr hmem
      have hcl := cycle_len hs.pr hs.le c hmem
      have hl : c0.length < (cycles r).length := by rw [e]; simp
      have d1 : (c0.length : Int) < ((I2 (cycles r)).length : Int) := by rw [I2_len]; omega
      have d2 : (0 : Int) ≤ (c0.length : Int) := by omega
      have e1 : rd_L1 (I2 (cycles r)) (c0.length : Int) = I c := by rw [e]; exact rdL_mid c0 c c1
      have d3 : (0 : Int) < (c.length : Int) := by rw [ec]; simp
      have e2 : rd (I c) 0 = (s : Int) := by rw [ec]; rfl
      have d4 : (0 : Int) ≤ (s : Int) := by omega
      have d5 : (s : Int) < (u.length : Int) := by omega
      have hus : g u s < r.length := by rw [← heq]; exact g_lt hs.pu (by omega)
      obtain ⟨a2, c2, b2, f1, f2, f3⟩ := row_at hs.pr hus
      simp only [spec_l08Above.l0, d1, d2, e1, d3, e2, d4, d5, I_len', rdI, if_true]
      refine Ev.bind (row_ev (by omega) (fun c hc => by have := cycle_len hs.pr hs.le c hc; omega) f1 f2 f3) ?_
      have hix : rowIx (cycles r) (g u s) = a2.length := rowIx_eq f1 f2 f3
      have G : ∀ (x1 x0 : List Nat), c = x0 ++ x1 → Ev (fun k => spec_l08Above.l1 k (I2 (cycles r)) (I (arnd r u)) (c0.map (abv r u)) (if regB r u x0 = true then (a2.length : Int) else -1) (I2 (cycles r)) ((I2 (cycles r)).length : Int) (c0.length : Int) (I c) (c.length : Int) (x0.length : Int) (I r) (I u)) ((cycles r).map (abv r u)) := by
        intro x1
        induction x1 with
        | nil =>
          intro x0 ex
          have ex' : c = x0 := by simpa using ex
          refine ev_succ ?_
          have g1 : ¬ ((x0.length : Int) < (c.length : Int)) := by rw [ex']; omega
          have g2 : (c0.map (abv r u)).length < 17592186044416 := by rw [List.length_map]; omega
          have g3 := w64s c0.length (by omega)
          simp only [spec_l08Above.l1, g1, g2, if_true, if_false, g3]
          have := ih (c0 ++ [c]) (by rw [e]; simp)
          have e3 : ((c0 ++ [c]).length : Int) = ((c0.length + 1 : Nat) : Int) := by simp
          rw [e3] at this
          have e4 : (c0 ++ [c]).map (abv r u) = c0.map (abv r u) ++ [if regB r u x0 = true then (a2.length : Int) else -1] := by
            rw [List.map_append, ← ex']
            have : c.headD 0 = s := by rw [ec]; rfl
            simp only [List.map_cons, List.map_nil, abv, this, hix]
          rw [e4] at this
          exact this
        | cons x x1 ihx =>
          intro x0 ex
          refine ev_succ ?_
          have hxm : x ∈ c := by rw [ex]; simp
          have hx : x < r.length := by rw [eo] at hxm; exact orb_lt hs.pr hs0 hxm
          have hxl : x0.length < c.length := by rw [ex]; simp
          have g1 : (x0.length : Int) < (c.length : Int) := by omega
          have g2 : (0 : Int) ≤ (x0.length : Int) := by omega
          have g3 : g c x0.length = x := by rw [ex]; exact getD_mid x0 x x1 0
          have g4 : (0 : Int) ≤ (x : Int) := by omega
          have g5 : (x : Int) < ((arnd r u).length : Int) := by rw [arnd_len]; omega
          have g6 := w64s x0.length (by omega)
          have e3 : ((x0 ++ [x]).length : Int) = ((x0.length + 1 : Nat) : Int) := by simp
          have hn := ihx (x0 ++ [x]) (by rw [ex]; simp)
          rw [e3] at hn
          have hreg : regB r u (x0 ++ [x]) = (regB r u x0 && (g (arnd r u) x == x)) := by unfold regB; simp
          by_cases hq : g (arnd r u) x = x
          · have hq' : (((g (arnd r u) x : Nat) : Int) = (x : Int)) := by rw [hq]
            rw [hreg] at hn
            simp only [hq, beq_self_eq_true, Bool.and_true] at hn
            simp only [spec_l08Above.l1, g1, g2, rdI, g3, g4, g5, I_len', hq', if_true, g6]
            exact hn
          · have hq' : ¬ (((g (arnd r u) x : Nat) : Int) = (x : Int)) := by omega
            rw [hreg] at hn
            have hb : (g (arnd r u) x == x) = false := by simpa using hq
            simp only [hb, Bool.and_false, Bool.false_eq_true, if_false] at hn
            simp only [spec_l08Above.l1, g1, g2, rdI, g3, g4, g5, I_len', hq', if_true, if_false, g6]
            exact hn
      have := G c [] rfl
      simpa [regB] using this
  exact H (cycles r) [] rfl
theorem rowAbove_impl {r u : List Nat} (hs : Sf r u) {x : Nat} (hx : x < r.length) {a : List (List Nat)} {c : List Nat} {b : List (List Nat)} (e1 : cycles r = a ++ c :: b) (e2 : x ∈ c) (e3 : ∀ d ∈ a, x ∉ d) {s : Nat} (hhead : c.headD 0 = s) {a2 : List (List Nat)} {c2 : List Nat} {b2 : List (List Nat)} (f1 : cycles r = a2 ++ c2 :: b2) (f2 : g u s ∈ c2) (f3 : ∀ d ∈ a2, g u s ∉ d) : Ev (fun k => impl_RowAbove.j0 k (x : Int) false (I r) (I u)) (if regB r u c = true then ((c2.headD 0 : Nat) : Int) else -1) := by
  have hle := hs.le
  have heq := hs.eq
  have hmem : c ∈ cycles r := by rw [e1]; simp
  obtain ⟨s', t, hs0, ec, eo, hleast⟩ := cycle_form hs.pr hmem
  have hhead' : c.headD 0 = s' := by rw [ec]; rfl
  obtain rfl : s' = s := by rw [← hhead', hhead]
  have hus : g u s' < r.length := by rw [← heq]; exact g_lt hs.pu (by omega)
  have hux : g u x < r.length := by rw [← heq]; exact g_lt hs.pu (by omega)
  have hmem2 : c2 ∈ cycles r := by rw [f1]; simp
  obtain ⟨s2, t2, hs2, ec2, eo2, hleast2⟩ := cycle_form hs.pr hmem2
  have hcl := cycle_len hs.pr hs.le c hmem
  have hcl2 := cycle_len hs.pr hs.le c2 hmem2
  have h2 : c2.headD 0 = s2 := by rw [ec2]; rfl
  rw [h2]
  refine ev_succ ?_
  simp only [impl_RowAbove.j0, Bool.false_eq_true, if_false]
  refine Ev.bind (impl_around hs) (Ev.bind (rowOf_ev hs.pr hs.le (I u) e1 e2 e3) ?_)
  have G : ∀ (x1 x0 : List Nat), c = x0 ++ x1 → regB r u x0 = true → Ev (fun k => impl_RowAbove.l0 k (x : Int) (I (arnd r u)) (I c) ((I c).length : Int) (x0.length : Int) (I r) (I u)) (if regB r u c = true then (s2 : Int) else -1) := by
    intro x1
    induction x1 with
    | nil =>
      intro x0 ex hreg
      have ex' : c = x0 := by simpa using ex
      refine ev_succ ?_
      have g1 : ¬ ((x0.length : Int) < (c.length : Int)) := by rw [ex']; omega
      have g2 : (0 : Int) ≤ (x : Int) := by omega
      have g3 : (x : Int) < (u.length : Int) := by omega
      rw [← ex'] at hreg
      have hall := regB_iff.mp hreg
      have hxo : x ∈ orb r s' := by rw [← eo]; exact e2
      obtain ⟨m, hm⟩ := (mem_orb hs.pr hs0).mp hxo
      have hup := reg_up hs hs0 (fun y hy => hall y (by rw [eo]; exact hy)) m
      rw [hm] at hup
      have hin : g u x ∈ orb r (g u s') := (mem_orb hs.pr hus).mpr ⟨m, hup.symm⟩
      have k1 : g u x ∈ c2 := (cycle_same hs.pr hmem2 hus hin).mp f2
      have k2 : ∀ d ∈ a2, g u x ∉ d := fun d hd h => f3 d hd ((cycle_same hs.pr (by rw [f1]; simp [hd]) hus hin).mpr h)
      simp only [impl_RowAbove.l0, g1, g2, g3, I_len', rdI, if_true, if_false, hreg]
      refine Ev.bind (rowOf_ev hs.pr hs.le (I u) f1 k1 k2) ?_
      have k3 := min_ev s2 t2 (fun y hy => hleast2 y (by rw [ec2]; simp [hy])) (by rw [ec2] at hcl2; simp at hcl2; omega)
      rw [← ec2] at k3
      exact Ev.bind k3 (Ev.now _)
    | cons y x1 ihx =>
      intro x0 ex hreg
      refine ev_succ ?_
      have hym : y ∈ c := by rw [ex]; simp
      have hy : y < r.length := by rw [eo] at hym; exact orb_lt hs.pr hs0 hym
      have hxl : x0.length < c.length := by rw [ex]; simp
      have g1 : (x0.length : Int) < (c.length : Int) := by omega
      have g2 : (0 : Int) ≤ (x0.length : Int) := by omega
      have g3 : g c x0.length = y := by rw [ex]; exact getD_mid x0 y x1 0
      have g4 : (0 : Int) ≤ (y : Int) := by omega
      have g5 : (y : Int) < ((arnd r u).length : Int) := by rw [arnd_len]; omega
      have g6 := w64s x0.length (by omega)
      have e3 : ((x0 ++ [y]).length : Int) = ((x0.length + 1 : Nat) : Int) := by simp
      by_cases hq : g (arnd r u) y = y
      · have hq' : (((g (arnd r u) y : Nat) : Int) = (y : Int)) := by rw [hq]
        have hn := ihx (x0 ++ [y]) (by rw [ex]; simp) (by unfold regB at hreg ⊢; simp at hreg ⊢; exact ⟨hreg, hq⟩)
        rw [e3] at hn
        simp only [I_len'] at hn
        simp only [impl_RowAbove.l0, g1, g2, rdI, g3, g4, g5, I_len', hq', if_true, g6]
        exact hn
      · have hq' : ¬ (((g (arnd r u) y : Nat) : Int) = (y : Int)) := by omega
        have hr0 : ¬ regB r u c = true := fun h => hq (regB_iff.mp h y hym)
        simp only [impl_RowAbove.l0, g1, g2, rdI, g3, g4, g5, I_len', hq', if_true, if_false, hr0]
        exact Ev.now _
  exact G c [] rfl (by simp [regB])
end Go.Proofs.Ytbdnellgioimbaa.M
end
section
/- The cylinders: rows, and the program. No conditions. -/
namespace Go.Proofs.Ytbdnellgioimbaa.M
set_option linter.unusedVariables false
set_option linter.unusedSimpArgs false
open Go.RowKit Go.Proofs.YtbdnellgioimbaaW.PrintWords Go.Proofs.YtbdnellgioimbaaW.PrintLast Go.Proofs.YtbdnellgioimbaaW.PrintMore Go.Proofs.Ytbdnellgioimbaa.A
def hd (l : List (List Nat)) (j : Nat) : Nat := (l.getD j []).headD 0
theorem hd_eq {l : List (List Nat)} {j : Nat} (h : j < l.length) : hd l j = (l[j]).headD 0 := by
  unfold hd
  rw [List.getD_eq_getElem?_getD, List.getElem?_eq_getElem h]
  rfl
theorem hd_mem {r : List Nat} (hr : IsP r) {i : Nat} (h : i < (cycles r).length) : hd (cycles r) i ∈ (cycles r)[i] ∧ hd (cycles r) i < r.length := by
  obtain ⟨s, t, hs0, ec, eo, _⟩ := cycle_form hr (List.getElem_mem h)
  have e : hd (cycles r) i = s := by rw [hd_eq h, ec]; rfl
  rw [e]
  exact ⟨by rw [ec]; simp, hs0⟩
theorem hd_inj {r : List Nat} (hr : IsP r) {i j : Nat} (hi : i < (cycles r).length) (hj : j < (cycles r).length) (h : hd (cycles r) i = hd (cycles r) j) : i = j := by
  rw [← ix_of_mem hr hi (hd_mem hr hi).1, h, ix_of_mem hr hj (hd_mem hr hj).1]
theorem at_ix {l : List (List Nat)} {a : List (List Nat)} {c : List Nat} {b : List (List Nat)} (e : l = a ++ c :: b) {i : Nat} (hi : i < l.length) (h : a.length = i) : l[i] = c := by
  have h2 : l[i]? = some c := by rw [e, ← h]; simp
  exact (List.getElem?_eq_some_iff.mp h2).2
theorem rowAbove_at {r u : List Nat} (hs : Sf r u) {i : Nat} (hi : i < (cycles r).length) : rowIx (cycles r) (g u (hd (cycles r) i)) < (cycles r).length ∧ Ev (fun k => impl_RowAbove.f k (I r) (I u) ((hd (cycles r) i : Nat) : Int)) (if regB r u ((cycles r)[i]) = true then ((hd (cycles r) (rowIx (cycles r) (g u (hd (cycles r) i))) : Nat) : Int) else -1) := by
  obtain ⟨hm, hx⟩ := hd_mem hs.pr hi
  have hus : g u (hd (cycles r) i) < r.length := by rw [← hs.eq]; exact g_lt hs.pu (by rw [hs.eq]; exact hx)
  obtain ⟨a, c, b, e1, e2, e3⟩ := row_at hs.pr hx
  have ha : a.length = i := by rw [← rowIx_eq e1 e2 e3, ix_of_mem hs.pr hi hm]
  have hc := at_ix e1 hi ha
  obtain ⟨a2, c2, b2, f1, f2, f3⟩ := row_at hs.pr hus
  have ha2 := rowIx_eq f1 f2 f3
  have hl2 : a2.length < (cycles r).length := by rw [f1]; simp
  have hc2 := at_ix f1 hl2 rfl
  have hhead : c.headD 0 = hd (cycles r) i := by rw [hd_eq hi, hc]
  refine ⟨by rw [ha2]; exact hl2, ?_⟩
  have key := rowAbove_impl hs hx e1 e2 e3 hhead f1 f2 f3
  rw [ha2, hd_eq hl2, hc2, hc]
  unfold impl_RowAbove.f
  refine Ev.bind (impl_surf _ _) ?_
  have h0 := surfB_I.mpr hs
  have k1 : ¬ (((hd (cycles r) i : Nat) : Int) < 0) := by omega
  have k2 : ¬ (((hd (cycles r) i : Nat) : Int) ≥ (r.length : Int)) := by omega
  simp only [h0, k1, k2, I_len', if_true, if_false, decide_false]
  exact key
theorem rowAbove_up {r u : List Nat} (hs : Sf r u) {i j : Nat} (h : upA (abL r u) i = some j) : Ev (fun k => impl_RowAbove.f k (I r) (I u) ((hd (cycles r) i : Nat) : Int)) ((hd (cycles r) j : Nat) : Int) := by
  obtain ⟨hi, s, hs0, eo, hm, hreg, hu, e⟩ := upA_form hs h
  obtain ⟨k1, k2⟩ := rowAbove_at hs hi
  have hb : regB r u ((cycles r)[i]) = true := regB_iff.mpr hreg
  rw [if_pos hb] at k2
  unfold upA at h
  rw [abL_len] at h
  rw [rd_abL hi] at h
  have e2 : abv r u ((cycles r)[i]) = ((rowIx (cycles r) (g u (hd (cycles r) i)) : Nat) : Int) := by
    unfold abv
    rw [if_pos hb, hd_eq hi]
  rw [e2, if_pos ⟨hi, by omega⟩] at h
  injection h with h
  have h' : rowIx (cycles r) (g u (hd (cycles r) i)) = j := by omega
  rw [h'] at k2
  exact k2
theorem rowAbove_no {r u : List Nat} (hs : Sf r u) {i : Nat} (hi : i < (cycles r).length) (h : upA (abL r u) i = none) : Ev (fun k => impl_RowAbove.f k (I r) (I u) ((hd (cycles r) i : Nat) : Int)) (-1) := by
  obtain ⟨k1, k2⟩ := rowAbove_at hs hi
  have hb : ¬ regB r u ((cycles r)[i]) = true := by
    intro hb
    unfold upA at h
    rw [abL_len, rd_abL hi] at h
    have e2 : abv r u ((cycles r)[i]) = ((rowIx (cycles r) (g u (hd (cycles r) i)) : Nat) : Int) := by
      unfold abv
      rw [if_pos hb, hd_eq hi]
    rw [e2, if_pos ⟨hi, by omega⟩] at h
    cases h
  rw [if_neg hb] at k2
  exact k2
theorem idxF_ev : ∀ (L : List (List Nat)) (p j : Nat), (∀ c ∈ L, 0 < c.length) → j < L.length → (∀ i, i < j → hd L i ≠ hd L j) → idxF (I2 L) ((hd L j : Nat) : Int) p = some ((p + j : Nat) : Int) := by
  intro L
  induction L with
  | nil => intro p j _ h; simp at h
  | cons c L ih =>
    intro p j hne hj hd'
    have hc := hne c (by simp)
    have e : I2 (c :: L) = I c :: I2 L := rfl
    rw [e]
    have h1 : 0 < (I c).length := by rw [I_len]; exact hc
    have h2 : rd (I c) 0 = ((c.headD 0 : Nat) : Int) := by
      cases c with
      | nil => simp at hc
      | cons x xs => rfl
    unfold idxF
    rw [if_pos h1, h2]
    cases j with
    | zero =>
      have : hd (c :: L) 0 = c.headD 0 := rfl
      rw [this, if_pos rfl]
      rfl
    | succ j =>
      have h3 := hd' 0 (by omega)
      have h4 : hd (c :: L) 0 = c.headD 0 := rfl
      have h5 : hd (c :: L) (j + 1) = hd L j := rfl
      rw [h4, h5] at h3
      rw [h5, if_neg (by omega), ih (p + 1) j (fun d hd2 => hne d (by simp [hd2])) (by simpa using hj) (fun i hi => ?_)]
      · congr 2
        omega
      · have := hd' (i + 1) (by omega)
        rw [h5] at this
        exact this
theorem tab_set {n i v : Nat} {F : Nat → Nat} : (I (tab n F)).set i (v : Int) = I (tab n (fun j => if j = i then v else F j)) := by
  apply List.ext_getElem
  · simp [I, tab]
  · intro k h1 h2
    simp only [I, tab, List.getElem_set, List.getElem_map, List.getElem_range]
    by_cases e : i = k
    · rw [if_pos e, if_pos e.symm]; rfl
    · rw [if_neg e, if_neg (fun h => e h.symm)]
theorem rd_tab {n i : Nat} {F : Nat → Nat} (h : i < n) : rd (I (tab n F)) (i : Int) = ((F i : Nat) : Int) := by rw [rdI, g_tab h]
theorem indexFunc_ev {r : List Nat} (hr : IsP r) (h24 : r.length ≤ 24) {j : Nat} (hj : j < (cycles r).length) : slices_IndexFunc_int_int.f (I2 (cycles r)) ((hd (cycles r) j : Nat) : Int) = some (j : Int) := by
  unfold slices_IndexFunc_int_int.f
  rw [if_pos (by rw [I2_len]; have := cycles_len (p := r) h24; omega)]
  have := idxF_ev (cycles r) 0 j (fun c hc => by obtain ⟨s, t, _, ec, _⟩ := cycle_form hr hc; rw [ec]; simp) hj (fun i hi e => by have := hd_inj hr (by omega) hj e; omega)
  rw [Nat.zero_add] at this
  exact this
theorem rdL_at {l : List (List Nat)} {i : Nat} (h : i < l.length) : rd_L1 (I2 l) (i : Int) = I (l[i]) := by
  obtain ⟨e1, e2⟩ := split_at l i h
  have := rdL_mid (l.take i) (l[i]) (l.drop (i + 1))
  rw [← e1, e2] at this
  exact this
theorem rd_head {c : List Nat} (h : 0 < c.length) : rd (I c) 0 = ((c.headD 0 : Nat) : Int) := by
  cases c with
  | nil => simp at h
  | cons x xs => rfl
end Go.Proofs.Ytbdnellgioimbaa.M
end
section
/- The cylinders: what the program comes to. No conditions. -/
namespace Go.Proofs.Ytbdnellgioimbaa.M
set_option linter.unusedVariables false
set_option linter.unusedSimpArgs false
open Go.RowKit Go.Proofs.YtbdnellgioimbaaW.PrintWords Go.Proofs.YtbdnellgioimbaaW.PrintLast Go.Proofs.YtbdnellgioimbaaW.PrintMore Go.Proofs.Ytbdnellgioimbaa.A
def cntG (G : Nat → Nat) (n i : Nat) : Nat := ((List.range n).filter (fun q => decide (G q = i))).length
theorem cntG_le (G : Nat → Nat) (n i : Nat) : cntG G n i ≤ n := by
  have := List.length_filter_le (fun q => decide (G q = i)) (List.range n)
  rw [List.length_range] at this
  exact this
theorem cntG_succ (G : Nat → Nat) (n i : Nat) : cntG G (n + 1) i = cntG G n i + (if G n = i then 1 else 0) := by
  unfold cntG
  rw [List.range_succ, List.filter_append, List.length_append]
  by_cases h : G n = i <;> simp [h]
def outG (C : List (List Nat)) (G : Nat → Nat) (n i : Nat) : List S44 := ((List.range i).filter (fun q => decide (G q = q))).map (fun q => (⟨(((C.getD q []).length : Nat) : Int), ((cntG G n q : Nat) : Int)⟩ : S44))
theorem outG_len (C : List (List Nat)) (G : Nat → Nat) (n i : Nat) : (outG C G n i).length ≤ i := by
  unfold outG
  rw [List.length_map]
  have := List.length_filter_le (fun q => decide (G q = q)) (List.range i)
  rw [List.length_range] at this
  exact this
theorem outG_yes {C : List (List Nat)} {G : Nat → Nat} {n i : Nat} (h : G i = i) : outG C G n (i + 1) = outG C G n i ++ [(⟨(((C.getD i []).length : Nat) : Int), ((cntG G n i : Nat) : Int)⟩ : S44)] := by
  unfold outG
  rw [List.range_succ, List.filter_append, List.map_append]
  simp [h]
theorem outG_no {C : List (List Nat)} {G : Nat → Nat} {n i : Nat} (h : ¬ G i = i) : outG C G n (i + 1) = outG C G n i := by
  unfold outG
  rw [List.range_succ, List.filter_append, List.map_append]
  simp [h]
theorem impl_l4 {C : List (List Nat)} {G : Nat → Nat} {n i : Nat} (hn : n = C.length) (h24 : n ≤ 24) (hi : i < n) {res : List S44 × Bool}
    (h : Ev (fun k => impl_CylindersOf.l3 k (I (tab n G)) (outG C G n i ++ [(⟨(((C.getD i []).length : Nat) : Int), ((cntG G n i : Nat) : Int)⟩ : S44)]) (I2 C) (n : Int) ((i + 1 : Nat) : Int)) res) :
    ∀ d q : Nat, q + d = n → Ev (fun k => impl_CylindersOf.l4 k (I (tab n G)) (outG C G n i) (i : Int) (I2 C) (n : Int) (i : Int) (I (tab n G)) (n : Int) (q : Int) (((C.getD i []).length : Nat) : Int) ((cntG G q i : Nat) : Int)) res := by
  intro d
  induction d with
  | zero =>
    intro q hq
    obtain rfl : q = n := by omega
    refine ev_succ ?_
    have c1 : ¬ ((q : Int) < (q : Int)) := by omega
    have c2 : (outG C G q i).length < 8796093022208 := by have := outG_len C G q i; omega
    have c3 := w64s i (by omega)
    simp only [impl_CylindersOf.l4, c1, c2, c3, if_true, if_false]
    exact h
  | succ d ih =>
    intro q hq
    refine ev_succ ?_
    have hle := cntG_le G q i
    have c1 : (q : Int) < (n : Int) := by omega
    have c2 : (0 : Int) ≤ (q : Int) := by omega
    have c3 : (q : Int) < ((I (tab n G)).length : Int) := by rw [I_len, tab_len]; exact c1
    have c4 : rd (I (tab n G)) (q : Int) = ((G q : Nat) : Int) := rd_tab (by omega)
    have key := ih (q + 1) (by omega)
    rw [cntG_succ] at key
    by_cases e : G q = i
    · rw [if_pos e] at key
      have e' : ((G q : Nat) : Int) = (i : Int) := by rw [e]
      have c6 := w64s (cntG G q i) (by omega)
      have c5 := w64s q (by omega)
      simp only [impl_CylindersOf.l4, c1, c2, c3, c4, c5, c6, e', if_true]
      exact key
    · rw [if_neg e, Nat.add_zero] at key
      have e' : ¬ (((G q : Nat) : Int) = (i : Int)) := by omega
      have c5 := w64s q (by omega)
      simp only [impl_CylindersOf.l4, c1, c2, c3, c4, c5, e', if_true, if_false]
      exact key
theorem impl_l3 {C : List (List Nat)} {G : Nat → Nat} {n : Nat} (hn : n = C.length) (h24 : n ≤ 24) :
    ∀ d i : Nat, i + d = n → Ev (fun k => impl_CylindersOf.l3 k (I (tab n G)) (outG C G n i) (I2 C) (n : Int) (i : Int)) (outG C G n n, true) := by
  intro d
  induction d with
  | zero =>
    intro i hi
    obtain rfl : i = n := by omega
    refine ev_succ ?_
    have c1 : ¬ ((i : Int) < (i : Int)) := by omega
    simp only [impl_CylindersOf.l3, c1, if_false]
    exact Ev.now _
  | succ d ih =>
    intro i hi
    refine ev_succ ?_
    have hin : i < n := by omega
    have c1 : (i : Int) < (n : Int) := by omega
    have c2 : (0 : Int) ≤ (i : Int) := by omega
    have c3 : (i : Int) < ((I (tab n G)).length : Int) := by rw [I_len, tab_len]; exact c1
    have c3' : (i : Int) < ((I2 C).length : Int) := by rw [I2_len]; omega
    have c4 : rd (I (tab n G)) (i : Int) = ((G i : Nat) : Int) := rd_tab (by omega)
    have hC : i < C.length := by omega
    have c6 : rd_L1 (I2 C) (i : Int) = I (C[i]) := rdL_at hC
    have c7 : ((I (C[i])).length : Int) = (((C.getD i []).length : Nat) : Int) := by rw [I_len, List.getD_eq_getElem?_getD, List.getElem?_eq_getElem hC]; rfl
    have c8 : ((I (tab n G)).length : Int) = (n : Int) := by rw [I_len, tab_len]
    have key := ih (i + 1) (by omega)
    by_cases e : G i = i
    · have e' : ((G i : Nat) : Int) = (i : Int) := by rw [e]
      rw [outG_yes e] at key
      have := impl_l4 (C := C) (G := G) (n := n) (i := i) hn h24 hin key n 0 (Nat.zero_add n)
      rw [show cntG G 0 i = 0 from rfl] at this
      simp only [impl_CylindersOf.l3, c1, c2, c3, c3', c4, c6, c7, e', if_true]
      simp only [c8]
      exact this
    · rw [outG_no e] at key
      have e' : ¬ (((G i : Nat) : Int) = (i : Int)) := by omega
      have c5 := w64s i (by omega)
      simp only [impl_CylindersOf.l3, c1, c2, c3, c3', c4, c5, e', if_true, if_false]
      exact key
theorem impl_l2 {C : List (List Nat)} {r u : List Int} {G : Nat → Nat} {n a b t : Nat} (hn : n = C.length) (h24 : n ≤ 24) (ht : t < n) {res : List S44 × Bool}
    (h : Ev (fun k => impl_CylindersOf.l1 k (I2 C) (I (tab n (mgf G a b))) (I2 C) (n : Int) ((t + 1 : Nat) : Int) r u) res) :
    ∀ d i : Nat, i + d = n → Ev (fun k => impl_CylindersOf.l2 k (I2 C) (I (tab n (fun q => if q < i then mgf G a b q else G q))) (a : Int) (b : Int) (I2 C) (n : Int) (t : Int) (n : Int) (i : Int) r u) res := by
  intro d
  induction d with
  | zero =>
    intro i hi
    obtain rfl : i = n := by omega
    refine ev_succ ?_
    have c1 : ¬ ((i : Int) < (i : Int)) := by omega
    have e : tab i (fun q => if q < i then mgf G a b q else G q) = tab i (mgf G a b) := tab_ext (fun q hq => by rw [if_pos hq])
    have c2 := w64s t (by omega)
    simp only [impl_CylindersOf.l2, c1, c2, e, if_false]
    exact h
  | succ d ih =>
    intro i hi
    refine ev_succ ?_
    have c1 : (i : Int) < (n : Int) := by omega
    have c2 : (0 : Int) ≤ (i : Int) := by omega
    have c3 : (i : Int) < ((I (tab n (fun q => if q < i then mgf G a b q else G q))).length : Int) := by rw [I_len, tab_len]; exact c1
    have c4 : rd (I (tab n (fun q => if q < i then mgf G a b q else G q))) (i : Int) = ((G i : Nat) : Int) := by rw [rd_tab (by omega), if_neg (by omega)]
    have c6 : mn (a : Int) (b : Int) = ((min a b : Nat) : Int) := by unfold mn; split <;> omega
    have c7 : ((i : Int)).toNat = i := rfl
    have key := ih (i + 1) (by omega)
    by_cases e : G i = a ∨ G i = b
    · have e1 : (I (tab n (fun q => if q < i then mgf G a b q else G q))).set i ((min a b : Nat) : Int) = I (tab n (fun q => if q < i + 1 then mgf G a b q else G q)) := by
        rw [tab_set]
        congr 1
        refine tab_ext (fun q hq => ?_)
        by_cases h1 : q = i
        · subst h1
          rw [if_pos rfl, if_pos (by omega)]
          unfold mgf
          rw [if_pos e]
        · rw [if_neg h1]
          by_cases h2 : q < i
          · rw [if_pos h2, if_pos (by omega)]
          · rw [if_neg h2, if_neg (by omega)]
      rw [← e1] at key
      by_cases ea : G i = a
      · have e' : ((G i : Nat) : Int) = (a : Int) := by rw [ea]
        have c5 := w64s i (by omega)
        simp only [impl_CylindersOf.l2, c1, c2, c3, c4, c5, c6, c7, e', if_true]
        exact key
      · have eb : G i = b := by rcases e with e | e; exact absurd e ea; exact e
        have e' : ¬ (((G i : Nat) : Int) = (a : Int)) := by omega
        have e'' : ((G i : Nat) : Int) = (b : Int) := by rw [eb]
        have e3 : ¬ ((b : Int) = (a : Int)) := by omega
        have c5 := w64s i (by omega)
        simp only [impl_CylindersOf.l2, c1, c2, c3, c4, c5, c6, c7, e'', e3, if_true, if_false]
        exact key
    · have ea : ¬ (((G i : Nat) : Int) = (a : Int)) := fun h => e (Or.inl (by omega))
      have eb : ¬ (((G i : Nat) : Int) = (b : Int)) := fun h => e (Or.inr (by omega))
      have e1 : tab n (fun q => if q < i then mgf G a b q else G q) = tab n (fun q => if q < i + 1 then mgf G a b q else G q) := by
        refine tab_ext (fun q hq => ?_)
        by_cases h1 : q = i
        · subst h1
          rw [if_neg (by omega), if_pos (by omega)]
          unfold mgf
          rw [if_neg e]
        · by_cases h2 : q < i
          · rw [if_pos h2, if_pos (by omega)]
          · rw [if_neg h2, if_neg (by omega)]
      rw [← e1] at key
      have c5 := w64s i (by omega)
      simp only [impl_CylindersOf.l2, c1, c2, c3, c4, c5, ea, eb, if_true, if_false]
      exact key
theorem impl_l1 {r u : List Nat} (hs : Sf r u) : ∀ (d t : Nat) (G : Nat → Nat), t + d = (cycles r).length → Grp (cycles r).length (upA (abL r u)) t G →
    ∃ G', Grp (cycles r).length (upA (abL r u)) (cycles r).length G' ∧ ∀ res : List S44 × Bool, Ev (fun k => impl_CylindersOf.l3 k (I (tab (cycles r).length G')) [] (I2 (cycles r)) ((cycles r).length : Int) 0) res →
      Ev (fun k => impl_CylindersOf.l1 k (I2 (cycles r)) (I (tab (cycles r).length G)) (I2 (cycles r)) ((cycles r).length : Int) (t : Int) (I r) (I u)) res := by
  have h24 := cycles_len (p := r) hs.le
  intro d
  induction d with
  | zero =>
    intro t G ht hG
    obtain rfl : t = (cycles r).length := by omega
    refine ⟨G, hG, fun res h => ev_succ ?_⟩
    have c1 : ¬ (((cycles r).length : Int) < ((cycles r).length : Int)) := by omega
    simp only [impl_CylindersOf.l1, c1, if_false, I2_len]
    exact h
  | succ d ih =>
    intro t G ht hG
    have htl : t < (cycles r).length := by omega
    have c1 : (t : Int) < ((cycles r).length : Int) := by omega
    have c2 : (0 : Int) ≤ (t : Int) := by omega
    have c3 : (t : Int) < ((I2 (cycles r)).length : Int) := by rw [I2_len]; omega
    have c3' : (t : Int) < ((I (tab (cycles r).length G)).length : Int) := by rw [I_len, tab_len]; exact c1
    have c6 : rd_L1 (I2 (cycles r)) (t : Int) = I ((cycles r)[t]) := rdL_at htl
    obtain ⟨s, tl, hs0, ec, _, _⟩ := cycle_form hs.pr (List.getElem_mem htl)
    have hcl : 0 < ((cycles r)[t]).length := by rw [ec]; simp
    have c7 : (0 : Int) < ((I ((cycles r)[t])).length : Int) := by rw [I_len]; omega
    have c8 : rd (I ((cycles r)[t])) 0 = ((hd (cycles r) t : Nat) : Int) := by rw [hd_eq htl]; exact rd_head hcl
    cases e : upA (abL r u) t with
    | none =>
      obtain ⟨G', g1, g2⟩ := ih (t + 1) G (by omega) (hG.skip e)
      refine ⟨G', g1, fun res h => ev_succ ?_⟩
      have k1 : (-1 : Int) < 0 := by omega
      simp only [impl_CylindersOf.l1, c1, c2, c3, c6, c7, c8, if_true]
      refine Ev.bind (rowAbove_no hs htl e) ?_
      have c5 := w64s t (by omega)
      simp only [k1, c5, if_true]
      exact g2 res h
    | some j =>
      obtain ⟨hjt, hj⟩ := upA_lt hs _ _ e
      obtain ⟨G', g1, g2⟩ := ih (t + 1) (mgf G (G t) (G j)) (by omega) (hG.merge (upA_lt hs) e)
      refine ⟨G', g1, fun res h => ev_succ ?_⟩
      have k1 : ¬ (((hd (cycles r) j : Nat) : Int) < 0) := by omega
      have k2 : (0 : Int) ≤ (j : Int) := by omega
      have k3 : (j : Int) < ((I (tab (cycles r).length G)).length : Int) := by rw [I_len, tab_len]; omega
      have k4 : rd (I (tab (cycles r).length G)) (t : Int) = ((G t : Nat) : Int) := rd_tab htl
      have k5 : rd (I (tab (cycles r).length G)) (j : Int) = ((G j : Nat) : Int) := rd_tab hj
      have k6 : ((I (tab (cycles r).length G)).length : Int) = ((cycles r).length : Int) := by rw [I_len, tab_len]
      have k7 := indexFunc_ev hs.pr hs.le hj
      simp only [impl_CylindersOf.l1, c1, c2, c3, c6, c7, c8, if_true]
      refine Ev.bind (rowAbove_up hs e) ?_
      simp only [k1, k7, Option.bind_some, if_false]
      simp only [c3', k2, k3, k4, k5, if_true]
      simp only [k6]
      have := impl_l2 (r := I r) (u := I u) rfl h24 htl (g2 res h) (cycles r).length 0 (by omega)
      have e0 : tab (cycles r).length (fun q => if q < 0 then mgf G (G t) (G j) q else G q) = tab (cycles r).length G := tab_ext (fun q hq => by rw [if_neg (by omega)])
      rw [e0] at this
      exact this
theorem impl_cyl {r u : List Nat} (hs : Sf r u) : ∃ G, Grp (cycles r).length (upA (abL r u)) (cycles r).length G ∧ Ev (fun k => impl_CylindersOf.f k (I r) (I u)) (outG (cycles r) G (cycles r).length (cycles r).length, true) := by
  have h24 := cycles_len (p := r) hs.le
  obtain ⟨G, g1, g2⟩ := impl_l1 hs (cycles r).length 0 (fun j => j) (by omega) (Grp.start _ _)
  refine ⟨G, g1, ?_⟩
  have h3 := g2 _ (impl_l3 (C := cycles r) (G := G) rfl h24 (cycles r).length 0 (by omega))
  unfold impl_CylindersOf.f
  refine Ev.bind (impl_surf _ _) ?_
  have h0 := surfB_I.mpr hs
  simp only [h0, if_true]
  refine Ev.bind (impl_cycles hs.pr hs.le) ?_
  have z1 : (0 : Int) ≤ ((cycles r).length : Int) := by omega
  have z2 : (((cycles r).length : Int)).toNat = (cycles r).length := rfl
  have z3 : (cycles r).length ≤ 35184372088832 := by omega
  simp only [I2_len, z1, z2, z3, if_true, Option.bind_some, List.length_replicate]
  have L0 : ∀ d i : Nat, i + d = (cycles r).length → Ev (fun k => impl_CylindersOf.l0 k (I2 (cycles r)) (I (tab (cycles r).length (fun j => if j < i then j else 0))) ((cycles r).length : Int) (i : Int) (I r) (I u)) (outG (cycles r) G (cycles r).length (cycles r).length, true) := by
    intro d
    induction d with
    | zero =>
      intro i hi
      obtain rfl : i = (cycles r).length := by omega
      refine ev_succ ?_
      have c1 : ¬ (((cycles r).length : Int) < ((cycles r).length : Int)) := by omega
      have e : tab (cycles r).length (fun j => if j < (cycles r).length then j else 0) = tab (cycles r).length (fun j => j) := tab_ext (fun q hq => by rw [if_pos hq])
      simp only [impl_CylindersOf.l0, c1, e, if_false, I2_len]
      exact h3
    | succ d ih =>
      intro i hi
      refine ev_succ ?_
      have c1 : (i : Int) < ((cycles r).length : Int) := by omega
      have c2 : (0 : Int) ≤ (i : Int) := by omega
      have c3 : (i : Int) < ((I (tab (cycles r).length (fun j => if j < i then j else 0))).length : Int) := by rw [I_len, tab_len]; exact c1
      have c7 : ((i : Int)).toNat = i := rfl
      have e1 : (I (tab (cycles r).length (fun j => if j < i then j else 0))).set i (i : Int) = I (tab (cycles r).length (fun j => if j < i + 1 then j else 0)) := by
        rw [tab_set]
        congr 1
        refine tab_ext (fun q hq => ?_)
        by_cases h1 : q = i
        · subst h1
          rw [if_pos rfl, if_pos (by omega)]
        · rw [if_neg h1]
          by_cases h2 : q < i
          · rw [if_pos h2, if_pos (by omega)]
          · rw [if_neg h2, if_neg (by omega)]
      have c5 := w64s i (by omega)
      simp only [impl_CylindersOf.l0, c1, c2, c3, c5, c7, e1, if_true]
      exact ih (i + 1) (by omega)
  have e0 : (List.replicate (cycles r).length 0 : List Int) = I (tab (cycles r).length (fun j => if j < 0 then j else 0)) := by
    unfold I tab
    rw [List.map_map]
    apply List.ext_getElem
    · simp
    · intro k h1 h2
      simp
  rw [e0]
  exact L0 (cycles r).length 0 (by omega)
end Go.Proofs.Ytbdnellgioimbaa.M
end
section
/- The cylinders: the reference. No conditions. -/
namespace Go.Proofs.Ytbdnellgioimbaa.M
set_option linter.unusedVariables false
set_option linter.unusedSimpArgs false
open Go.RowKit Go.Proofs.YtbdnellgioimbaaW.PrintWords Go.Proofs.YtbdnellgioimbaaW.PrintLast Go.Proofs.YtbdnellgioimbaaW.PrintMore Go.Proofs.Ytbdnellgioimbaa.A
theorem upA_rd {A : List Int} {i j : Nat} (h : upA A i = some j) : rd A (i : Int) = (j : Int) ∧ i < A.length := by
  unfold upA at h
  split at h
  · rename_i hc
    injection h with h
    exact ⟨by omega, hc.1⟩
  · cases h
theorem upA_neg {A : List Int} {i : Nat} (hi : i < A.length) (h : upA A i = none) : rd A (i : Int) < 0 := by
  unfold upA at h
  split at h
  · cases h
  · rename_i hc
    have : ¬ 0 ≤ rd A (i : Int) := fun h2 => hc ⟨hi, h2⟩
    omega
theorem joined_ev {A : List Int} {n : Nat} (hn : A.length = n) (h24 : n ≤ 24) (hup : ∀ i j, upA A i = some j → i < n ∧ j < n) {f t : Nat} (hf : f < n) : ∃ b, Ev (fun k => spec_l08Joined.f k A (f : Int) (t : Int)) b ∧ (b = true ↔ ∃ m, ups (upA A) m f = some t) := by
  have H : ∀ d i c : Nat, i + d = n + 1 → c < n → ups (upA A) i f = some c → (∀ m, m < i → ups (upA A) m f ≠ some t) → ∃ b, Ev (fun k => spec_l08Joined.l0 k A (t : Int) (c : Int) (i : Int)) b ∧ (b = true ↔ ∃ m, m < n + 1 ∧ ups (upA A) m f = some t) := by
    intro d
    induction d with
    | zero =>
      intro i c hi hc h0 hno
      refine ⟨false, ev_succ ?_, ?_⟩
      · have c1 : ¬ ((i : Int) ≤ (A.length : Int)) := by omega
        simp only [spec_l08Joined.l0, c1, if_false]
        refine ev_succ ?_
        simp only [spec_l08Joined.j1, Bool.false_eq_true, if_false]
        exact Ev.now _
      · constructor
        · intro h; cases h
        · rintro ⟨m, hm, h⟩
          exact absurd h (hno m (by omega))
    | succ d ih =>
      intro i c hi hc h0 hno
      have c1 : (i : Int) ≤ (A.length : Int) := by omega
      have c2 : decide ((c : Int) ≥ 0) = true := decide_eq_true (by omega)
      have c3 : (0 : Int) ≤ (c : Int) := by omega
      have c4 : (c : Int) < (A.length : Int) := by omega
      by_cases e : c = t
      · have e' : (c : Int) = (t : Int) := by omega
        refine ⟨true, ev_succ ?_, ?_⟩
        · simp only [spec_l08Joined.l0, c1, c2, if_true]
          refine ev_succ ?_
          simp only [spec_l08Joined.j1, e', if_true]
          exact Ev.now _
        · exact ⟨fun _ => ⟨i, by omega, by rw [h0, e]⟩, fun _ => rfl⟩
      · have e' : ¬ ((c : Int) = (t : Int)) := by omega
        have hno' : ∀ m, m < i + 1 → ups (upA A) m f ≠ some t := by
          intro m hm
          by_cases h2 : m = i
          · rw [h2, h0]
            intro h3
            injection h3 with h3
            exact e h3
          · exact hno m (by omega)
        cases hu : upA A c with
        | some c' =>
          obtain ⟨hrd, _⟩ := upA_rd hu
          have hc' := (hup _ _ hu).2
          obtain ⟨b, i1, i2⟩ := ih (i + 1) c' (by omega) hc' (by rw [ups_succ, h0]; exact hu) hno'
          refine ⟨b, ev_succ ?_, i2⟩
          have c5 := w64s i (by omega)
          simp only [spec_l08Joined.l0, c1, c2, if_true]
          refine ev_succ ?_
          simp only [spec_l08Joined.j1, e', c3, c4, c5, hrd, if_true, if_false]
          exact i1
        | none =>
          have hneg := upA_neg (by omega) hu
          have hnone : ∀ m, i < m → ups (upA A) m f ≠ some t := by
            intro m hm
            obtain ⟨x, rfl⟩ : ∃ x, m = (i + 1) + x := ⟨m - (i + 1), by omega⟩
            rw [ups_add, ups_succ, h0]
            simp [hu]
          generalize hv : rd A (c : Int) = v at hneg
          have c6 : decide (v ≥ 0) = false := decide_eq_false (by omega)
          refine ⟨false, ev_succ ?_, ?_⟩
          · have c5 := w64s i (by omega)
            simp only [spec_l08Joined.l0, c1, c2, if_true]
            refine ev_succ ?_
            simp only [spec_l08Joined.j1, e', c3, c4, c5, hv, if_true, if_false]
            refine ev_succ ?_
            simp only [spec_l08Joined.l0, c6, ite_self]
            refine ev_succ ?_
            simp only [spec_l08Joined.j1, Bool.false_eq_true, if_false]
            exact Ev.now _
          · constructor
            · intro h; cases h
            · rintro ⟨m, _, h⟩
              by_cases h2 : m < i + 1
              · exact absurd h (hno' m h2)
              · exact absurd h (hnone m (by omega))
  obtain ⟨b, i1, i2⟩ := H (n + 1) 0 f (by omega) hf rfl (fun m hm => by omega)
  refine ⟨b, i1, ?_⟩
  rw [i2]
  constructor
  · rintro ⟨m, _, h⟩
    exact ⟨m, h⟩
  · intro h
    obtain ⟨m, h1, h2⟩ := ups_few hup hf h
    exact ⟨m, by omega, h2⟩
def slG (G : Nat → Nat) (n i : Nat) (add : List Nat) : List Bool := (List.range n).map (fun q => decide (G q < i ∨ q ∈ add))
theorem slG_len (G : Nat → Nat) (n i : Nat) (add : List Nat) : (slG G n i add).length = n := by simp [slG]
theorem slG_at {G : Nat → Nat} {n i : Nat} {add : List Nat} {q : Nat} (h : q < n) : rdOf false (slG G n i add) (q : Int) = decide (G q < i ∨ q ∈ add) := by
  unfold rdOf slG
  rw [List.getD_eq_getElem?_getD, List.getElem?_map]
  have : ((q : Int)).toNat = q := rfl
  rw [this, List.getElem?_range h]
  rfl
theorem slG_set {G : Nat → Nat} {n i : Nat} {add : List Nat} {q : Nat} : (slG G n i add).set q true = slG G n i (add ++ [q]) := by
  unfold slG
  apply List.ext_getElem
  · simp
  · intro k h1 h2
    simp only [List.getElem_set, List.getElem_map, List.getElem_range]
    by_cases e : q = k
    · subst e
      simp
    · rw [if_neg e]
      congr 1
      have : k ≠ q := fun h => e h.symm
      simp [this]
end Go.Proofs.Ytbdnellgioimbaa.M
end
section
/- The cylinders: the reference marks a class. No conditions. -/
namespace Go.Proofs.Ytbdnellgioimbaa.M
set_option linter.unusedVariables false
set_option linter.unusedSimpArgs false
open Go.RowKit Go.Proofs.YtbdnellgioimbaaW.PrintWords Go.Proofs.YtbdnellgioimbaaW.PrintLast Go.Proofs.YtbdnellgioimbaaW.PrintMore Go.Proofs.Ytbdnellgioimbaa.A
def S0L (G : Nat → Nat) (n i : Nat) : List Nat := (List.range n).filter (fun q => decide (G q < i))
theorem mem_S0 {G : Nat → Nat} {n i x : Nat} : x ∈ S0L G n i ↔ x < n ∧ G x < i := by simp [S0L]
theorem Mk.len {n : Nat} {up : Nat → Option Nat} {row : Nat} {S0 add : List Nat} (h : Mk n up row S0 add) : add.length ≤ n := by
  have := nodup_sub_len add (List.range n) h.nd (fun x hx => List.mem_range.mpr (h.lt x hx))
  rw [List.length_range] at this
  exact this
theorem seen_iff {G : Nat → Nat} {n i x : Nat} {add : List Nat} (hx : x < n) : (G x < i ∨ x ∈ add) ↔ (x ∈ S0L G n i ∨ x ∈ add) := by
  rw [mem_S0]
  constructor
  · rintro (h | h)
    · exact Or.inl ⟨hx, h⟩
    · exact Or.inr h
  · rintro (h | h)
    · exact Or.inl h.2
    · exact Or.inr h
def C1P (up : Nat → Option Nat) (S0 add : List Nat) : Prop := ∀ x ∈ add, ∀ y, up x = some y → y ∈ S0 ∨ y ∈ add
def C2P (up : Nat → Option Nat) (i : Nat) (S0 add : List Nat) (k : Nat) : Prop := ∀ x, up k = some x → (x ∈ S0 ∨ x ∈ add) → (∃ m, ups up m k = some i) → (k ∈ S0 ∨ k ∈ add)
theorem C1P.add {up : Nat → Option Nat} {S0 add : List Nat} (h : C1P up S0 add) {k x : Nat} (e : up k = some x) (hx : x ∈ S0 ∨ x ∈ add) : C1P up S0 (add ++ [k]) := by
  intro z hz y hy
  rcases List.mem_append.mp hz with hz | hz
  · rcases h z hz y hy with h2 | h2
    · exact Or.inl h2
    · exact Or.inr (List.mem_append.mpr (Or.inl h2))
  · have : z = k := by simpa using hz
    rw [this, e] at hy
    injection hy with hy
    rw [← hy]
    rcases hx with hx | hx
    · exact Or.inl hx
    · exact Or.inr (List.mem_append.mpr (Or.inl hx))
theorem pass {A : List Int} {n : Nat} (hn : A.length = n) (h24 : n ≤ 24) (hup : ∀ i j, upA A i = some j → i < n ∧ j < n) {G : Nat → Nat} {i : Nat} (hi : i < n) (add : List Nat) (hM : Mk n (upA A) i (S0L G n i) add) (hm : i ∈ add) (hC : C1P (upA A) (S0L G n i) add)
    (ih : ∀ add1, Mk n (upA A) i (S0L G n i) add1 → i ∈ add1 → C1P (upA A) (S0L G n i) add1 → add.length < add1.length → ∃ add', Mk n (upA A) i (S0L G n i) add' ∧ i ∈ add' ∧ C1P (upA A) (S0L G n i) add' ∧ (∀ k, k < n → C2P (upA A) i (S0L G n i) add' k) ∧ Ev (fun k => spec_l08Mark.l1 k A (i : Int) (slG G n i add1) (add1.length : Int) true) ((add'.length : Int), slG G n i add')) :
    ∃ add', Mk n (upA A) i (S0L G n i) add' ∧ i ∈ add' ∧ C1P (upA A) (S0L G n i) add' ∧ (∀ k, k < n → C2P (upA A) i (S0L G n i) add' k) ∧ Ev (fun k => spec_l08Mark.l1 k A (i : Int) (slG G n i add) (add.length : Int) true) ((add'.length : Int), slG G n i add') := by
  have L : ∀ (e j : Nat) (add1 : List Nat) (fl : Bool), j + e = n → Mk n (upA A) i (S0L G n i) add1 → i ∈ add1 → C1P (upA A) (S0L G n i) add1 → (fl = true → add.length < add1.length) → (fl = false → add1 = add ∧ ∀ k, k < j → C2P (upA A) i (S0L G n i) add k) →
      ∃ add', Mk n (upA A) i (S0L G n i) add' ∧ i ∈ add' ∧ C1P (upA A) (S0L G n i) add' ∧ (∀ k, k < n → C2P (upA A) i (S0L G n i) add' k) ∧ Ev (fun k => spec_l08Mark.l2 k A (i : Int) (slG G n i add1) (add1.length : Int) fl A (n : Int) (j : Int)) ((add'.length : Int), slG G n i add') := by
    intro e
    induction e with
    | zero =>
      intro j add1 fl hj hM1 hm1 hC1 ht hf
      obtain rfl : j = n := by omega
      have c1 : ¬ ((j : Int) < (j : Int)) := by omega
      cases fl with
      | true =>
        obtain ⟨add', a1, a2, a3, a4, a5⟩ := ih add1 hM1 hm1 hC1 (ht rfl)
        refine ⟨add', a1, a2, a3, a4, ev_succ ?_⟩
        simp only [spec_l08Mark.l2, c1, if_false]
        exact a5
      | false =>
        obtain ⟨rfl, h2⟩ := hf rfl
        refine ⟨add1, hM1, hm1, hC1, h2, ev_succ ?_⟩
        simp only [spec_l08Mark.l2, c1, if_false]
        refine ev_succ ?_
        simp only [spec_l08Mark.l1, Bool.false_eq_true, if_false]
        exact Ev.now _
    | succ e ihe =>
      intro j add1 fl hj hM1 hm1 hC1 ht hf
      have hjn : j < n := by omega
      have c1 : (j : Int) < (n : Int) := by omega
      have c2 : (0 : Int) ≤ (j : Int) := by omega
      have c3 : (j : Int) < (A.length : Int) := by omega
      have c3' : (j : Int) < ((slG G n i add1).length : Int) := by rw [slG_len]; exact c1
      have nx : (fl = false → C2P (upA A) i (S0L G n i) add j) → ∃ add', Mk n (upA A) i (S0L G n i) add' ∧ i ∈ add' ∧ C1P (upA A) (S0L G n i) add' ∧ (∀ k, k < n → C2P (upA A) i (S0L G n i) add' k) ∧ Ev (fun k => spec_l08Mark.l2 k A (i : Int) (slG G n i add1) (add1.length : Int) fl A (n : Int) ((j + 1 : Nat) : Int)) ((add'.length : Int), slG G n i add') := fun h =>
        ihe (j + 1) add1 fl (by omega) hM1 hm1 hC1 ht (fun hfl => ⟨(hf hfl).1, fun k hk => by
          by_cases hkj : k = j
          · rw [hkj]; exact h hfl
          · exact (hf hfl).2 k (by omega)⟩)
      cases hu : upA A j with
      | none =>
        have hneg := upA_neg (by omega) hu
        obtain ⟨add', a1, a2, a3, a4, a5⟩ := nx (fun _ x hx => by rw [hu] at hx; cases hx)
        refine ⟨add', a1, a2, a3, a4, ev_succ ?_⟩
        have c4 : ¬ (rd A (j : Int) ≥ 0) := by omega
        have c5 := w64s j (by omega)
        simp only [spec_l08Mark.l2, c1, c2, c3, c4, c5, if_true, if_false]
        exact a5
      | some x =>
        obtain ⟨hrd, _⟩ := upA_rd hu
        have hx := (hup _ _ hu).2
        have d1 : ((x : Nat) : Int) ≥ 0 := by omega
        have d2 : (0 : Int) ≤ ((x : Nat) : Int) := by omega
        have d3 : ((x : Nat) : Int) < ((slG G n i add1).length : Int) := by rw [slG_len]; omega
        have d4 := slG_at (G := G) (i := i) (add := add1) hx
        have d5 := slG_at (G := G) (i := i) (add := add1) hjn
        by_cases hsx : G x < i ∨ x ∈ add1
        · rw [decide_eq_true hsx] at d4
          by_cases hsj : G j < i ∨ j ∈ add1
          · rw [decide_eq_true hsj] at d5
            obtain ⟨add', a1, a2, a3, a4, a5⟩ := nx (fun hfl _ _ _ _ => by rw [← (hf hfl).1]; exact (seen_iff hjn).mp hsj)
            refine ⟨add', a1, a2, a3, a4, ev_succ ?_⟩
            have c5 := w64s j (by omega)
            simp only [spec_l08Mark.l2, c1, c2, c3, c3', c5, hrd, d1, d2, d3, d4, d5, if_true]
            exact a5
          · rw [decide_eq_false hsj] at d5
            obtain ⟨b, b1, b2⟩ := joined_ev hn h24 hup (t := i) hjn
            cases b with
            | true =>
              have hp := b2.mp rfl
              have hM2 := hM1.add hjn (fun h => hsj (Or.inl (mem_S0.mp h).2)) (fun h => hsj (Or.inr h)) (Or.inr hp)
              have hl2 : (add1 ++ [j]).length = add1.length + 1 := by simp
              have hle : add.length ≤ add1.length := by
                cases fl with
                | true => exact Nat.le_of_lt (ht rfl)
                | false => rw [(hf rfl).1]; exact Nat.le_refl _
              obtain ⟨add', a1, a2, a3, a4, a5⟩ := ihe (j + 1) (add1 ++ [j]) true (by omega) hM2 (List.mem_append.mpr (Or.inl hm1)) (hC1.add hu ((seen_iff hx).mp hsx)) (fun _ => by omega) (fun h => by cases h)
              refine ⟨add', a1, a2, a3, a4, ev_succ ?_⟩
              have hlen := hM1.len
              have c8 : ((j : Int)).toNat = j := rfl
              have e1 : ((add1 ++ [j]).length : Int) = ((add1.length + 1 : Nat) : Int) := by rw [hl2]
              rw [e1] at a5
              have c6 := w64s add1.length (by omega)
              have c5 := w64s j (Nat.le_trans (Nat.le_of_lt hjn) (Nat.le_trans h24 (by decide)))
              simp only [spec_l08Mark.l2, c1, c2, c3, c3', hrd, d1, d2, d3, d4, d5, if_true, Bool.false_eq_true, if_false]
              refine Ev.bind b1 ?_
              simp only [c5, c6, c8, slG_set, if_true]
              exact a5
            | false =>
              obtain ⟨add', a1, a2, a3, a4, a5⟩ := nx (fun hfl _ _ _ hp => by have := b2.mpr hp; cases this)
              refine ⟨add', a1, a2, a3, a4, ev_succ ?_⟩
              have c5 := w64s j (by omega)
              simp only [spec_l08Mark.l2, c1, c2, c3, c3', hrd, d1, d2, d3, d4, d5, if_true, Bool.false_eq_true, if_false]
              refine Ev.bind b1 ?_
              simp only [c5, Bool.false_eq_true, if_false]
              exact a5
        · rw [decide_eq_false hsx] at d4
          obtain ⟨add', a1, a2, a3, a4, a5⟩ := nx (fun hfl y hy hs _ => by
            rw [hu] at hy
            injection hy with hy
            rw [← hy, ← (hf hfl).1] at hs
            exact absurd ((seen_iff hx).mpr hs) hsx)
          refine ⟨add', a1, a2, a3, a4, ev_succ ?_⟩
          have c5 := w64s j (by omega)
          simp only [spec_l08Mark.l2, c1, c2, c3, c5, hrd, d1, d2, d3, d4, if_true, Bool.false_eq_true, if_false]
          exact a5
  obtain ⟨add', a1, a2, a3, a4, a5⟩ := L n 0 add false (Nat.zero_add n) hM hm hC (fun h => by cases h) (fun _ => ⟨rfl, fun k hk => by omega⟩)
  refine ⟨add', a1, a2, a3, a4, ev_succ ?_⟩
  simp only [spec_l08Mark.l1, hn, if_true]
  exact a5
theorem mark2 {A : List Int} {n : Nat} (hn : A.length = n) (h24 : n ≤ 24) (hup : ∀ i j, upA A i = some j → i < n ∧ j < n) {G : Nat → Nat} {i : Nat} (hi : i < n) :
    ∀ (d : Nat) (add : List Nat), n ≤ add.length + d → Mk n (upA A) i (S0L G n i) add → i ∈ add → C1P (upA A) (S0L G n i) add →
      ∃ add', Mk n (upA A) i (S0L G n i) add' ∧ i ∈ add' ∧ C1P (upA A) (S0L G n i) add' ∧ (∀ k, k < n → C2P (upA A) i (S0L G n i) add' k) ∧ Ev (fun k => spec_l08Mark.l1 k A (i : Int) (slG G n i add) (add.length : Int) true) ((add'.length : Int), slG G n i add') := by
  intro d
  induction d with
  | zero =>
    intro add hd hM hm hC
    exact pass hn h24 hup hi add hM hm hC (fun add1 hM1 _ _ hl => by have := hM1.len; omega)
  | succ d ih =>
    intro add hd hM hm hC
    exact pass hn h24 hup hi add hM hm hC (fun add1 hM1 hm1 hC1 hl => ih add1 (by omega) hM1 hm1 hC1)
end Go.Proofs.Ytbdnellgioimbaa.M
end
section
namespace Go.Proofs.Ytbdnellgioimbaa.A
open Go.RowKit Go.Proofs.YtbdnellgioimbaaW.PrintWords Go.Proofs.YtbdnellgioimbaaW.PrintLast Go.Proofs.YtbdnellgioimbaaW.PrintMore
attribute [local go_sem] max2_int min2_int max_two min_two max_three min_three max_four min_four
set_option linter.unusedVariables false
set_option linter.unusedSimpArgs false
def spec_CylindersOf.f (k : Nat) (l0_0 : List Int) (l0_1 : List Int) : Option ((List (S44)) × Bool) := (spec_SurfaceOk.f k l0_0 l0_1).bind fun t618 => (if t618 = true then ((spec_l08Cylinders.f k l0_0 l0_1).bind fun t619 => (some (t619, true))) else (some (([] : List (S44)), false)))
theorem spec_CylindersOf.mono : ∀ a0 a1 k, LeO (spec_CylindersOf.f k a0 a1) (spec_CylindersOf.f (k + 1) a0 a1) := by
  intro a0 a1 k
  unfold spec_CylindersOf.f
  repeat' first
      | (with_reducible exact spec_SurfaceOk.mono _ _ _)
      | (with_reducible exact spec_l08Cylinders.mono _ _ _)
      | (with_reducible exact LeO.refl _)
      | (with_reducible exact LeO.none _)
      | (with_reducible refine LeO.ite ?_ ?_)
      | (with_reducible refine LeO.bind ?_ (fun _ => ?_))
      | exact spec_SurfaceOk.mono _ _ _
      | exact spec_l08Cylinders.mono _ _ _
      | exact LeO.none _
      | refine LeO.ite ?_ ?_
      | refine LeO.bind ?_ (fun _ => ?_)
set_option maxHeartbeats 8000000 in
set_option maxRecDepth 100000 in
theorem spec_CylindersOf.calls (k : Nat) (A0_0 : Option Addr) (c0_0 : Nat) (l0_0 : List Int) (A0_1 : Option Addr) (c0_1 : Nat) (l0_1 : List Int) (r1 : List (S44)) (r2 : Bool) (w : World) (hr0_0 : Kd.C (Kd.int .i64) w A0_0 l0_0.length l0_0) (hc0_0 : l0_0.length ≤ c0_0) (hr0_1 : Kd.C (Kd.int .i64) w A0_1 l0_1.length l0_1) (hc0_1 : l0_1.length ≤ c0_1) (h : spec_CylindersOf.f k l0_0 l0_1 = some (r1, r2)) :
    Calls Try.prog 19 #[.agg #[.slice A0_0 l0_0.length c0_0, .slice A0_1 l0_1.length c0_1]] w fun e w' => ∃ v0_ : Value, e = .returned (.tuple #[v0_, .bool r2]) ∧ Kd.R k44 44 w' w.heap.size (fun _ => True) v0_ r1 ∧ Below w.heap.size w w' := by
  have hu27 := Try.underlying27
  have HR0_0 := Aside0.mk hr0_0
  have HC0_0 := Aside0.mk hc0_0
  clear hr0_0 hc0_0
  have HR0_1 := Aside0.mk hr0_1
  have HC0_1 := Aside0.mk hc0_1
  clear hr0_1 hc0_1
  have HB := Aside0.mk (Below.refl w.heap.size w)
  have H : ((spec_SurfaceOk.f k l0_0 l0_1).bind fun t618 => (if t618 = true then ((spec_l08Cylinders.f k l0_0 l0_1).bind fun t619 => (some (t619, true))) else (some (([] : List (S44)), false)))) = some (r1, r2) := h
  clear h
  replace H := Option.bind_eq_some_iff.mp H
  obtain ⟨t618, A20, H⟩ := H
  replace H : (if t618 = true then ((spec_l08Cylinders.f k l0_0 l0_1).bind fun t619 => (some (t619, true))) else (some (([] : List (S44)), false))) = some (r1, r2) := H
  have A2 := Aside0.mk A20
  clear A20
  by_cases c3 : t618 = true
  · subst c3
    have H1 : ((spec_l08Cylinders.f k l0_0 l0_1).bind fun t619 => (some (t619, true))) = some (r1, r2) := by rw [if_pos rfl] at H; exact H
    clear H
    have H := H1
    clear H1
    replace H := Option.bind_eq_some_iff.mp H
    obtain ⟨t619, A40, H⟩ := H
    replace H : (some (t619, true)) = some (r1, r2) := H
    have A4 := Aside0.mk A40
    clear A40
    simp only [Option.some.injEq, Prod.mk.injEq] at H
    obtain ⟨rfl, rfl⟩ := H
    go_enter Try.func19, Try.ntmps19
    go_wp2_with (first | ((with_reducible refine gate_dst (N := 1) rfl ?_); refine box_event ?hg (N := 1) ?hd (cs := #[.slice A0_0 l0_0.length c0_0, .slice A0_1 l0_1.length c0_1]) (t := 27) ?hr ?_; (case hd => rfl); (case hg => rfl); (case hr => first | (go_simp; done) | (go_simp; rfl)); intro gb617 hg w5 hbox hb; have n0_ := Aside0.mk (below_step (by repeat (first | (with_reducible first | exact HB.out | apply below_alloc | apply pw_below_drewN | apply below_drew1) | exact HB.out)) hb); have n1_ := Aside0.mk (hbox); have n2_ := Aside0.mk ((by rw [hg]; exact (below_size (by repeat (first | (with_reducible first | exact HB.out | apply below_alloc | apply pw_below_drewN | apply below_drew1) | exact HB.out))) : w.heap.size ≤ gb617)); have n3_ := Aside0.mk ((by rw [hg]; exact (below_size (by repeat (first | (with_reducible first | exact HB.out | apply below_alloc | apply pw_below_drewN | apply below_drew1) | exact HB.out))) : w.heap.size ≤ gb617)); clear HB; have HB := n0_; have BK617 := n1_; have GW617 := n2_; have GE617 := n3_; clear n0_ n1_ n2_ n3_; clear hb hbox hg; have hcz6_0 : w5.cell? ⟨gb617, 0, none⟩ = some (.slice A0_0 l0_0.length c0_0) := (blk_cell BK617.out 0).trans rfl; have hcz6_1 : w5.cell? ⟨gb617, 1, none⟩ = some (.slice A0_1 l0_1.length c0_1) := (blk_cell BK617.out 1).trans rfl; have hfz6_0 := blk_frozen BK617.out 0; have hfz6_1 := blk_frozen BK617.out 1) | ((with_reducible refine gate_callee (f := 63) rfl ?_); refine goesL_ (some 5) rfl rfl Try.func63 (by kernel_rfl) rfl #[.agg #[.slice A0_0 l0_0.length c0_0, .slice A0_1 l0_1.length c0_1]] rfl (by (try simp only [List.map_toArray, List.map_cons, List.map_nil]); first | done | rfl | (simp only [List.length_drop, List.length_take]; rfl)) ?_; (with_reducible refine (spec_SurfaceOk.calls k _ _ l0_0 _ _ l0_1 true _ ?side1 ?side2 ?side3 ?side4 A2.out).mono ?_); (case side1 => repeat (first | exact (Kd.C_below HR0_0.out HB.out) | (with_reducible refine Kd.C_alloc ?_ _) | (with_reducible refine Kd.C_drewN ?_ _) | (with_reducible refine Kd.C_drew ?_))); (case side2 => exact HC0_0.out); (case side3 => repeat (first | exact (Kd.C_below HR0_1.out HB.out) | (with_reducible refine Kd.C_alloc ?_ _) | (with_reducible refine Kd.C_drewN ?_ _) | (with_reducible refine Kd.C_drew ?_))); (case side4 => exact HC0_1.out); rintro e w7 ⟨rfl, hb⟩; refine ⟨_, rfl, ?_⟩; have n0_ := Aside0.mk (blk_below (g := gb617) (o := .cells #[.slice A0_0 l0_0.length c0_0, .slice A0_1 l0_1.length c0_1] 27 (0, 0)) (by (with_reducible repeat (first | refine blk_drewN ?_ _ | refine blk_drew ?_ | refine blk_alloc ?_ _)); exact BK617.out) hb); have n1_ := Aside0.mk (below_step (by repeat (first | (with_reducible first | exact HB.out | apply below_alloc | apply pw_below_drewN | apply below_drew1 | refine below_set ?_ GE617.out) | exact HB.out)) hb); clear BK617; clear HB; have BK617 := n0_; have HB := n1_; clear n0_ n1_; (try clear hb); (try clear hb2); (try clear hk); (try clear hi); have hcz8_0 : w7.cell? ⟨gb617, 0, none⟩ = some (.slice A0_0 l0_0.length c0_0) := (blk_cell BK617.out 0).trans rfl; have hcz8_1 : w7.cell? ⟨gb617, 1, none⟩ = some (.slice A0_1 l0_1.length c0_1) := (blk_cell BK617.out 1).trans rfl; have hfz8_0 := blk_frozen BK617.out 0; have hfz8_1 := blk_frozen BK617.out 1) | ((with_reducible refine gate_callee (f := 64) rfl ?_); refine goesL_ (some 8) rfl rfl Try.func64 (by kernel_rfl) rfl #[.agg #[.slice A0_0 l0_0.length c0_0, .slice A0_1 l0_1.length c0_1]] rfl (by (try simp only [List.map_toArray, List.map_cons, List.map_nil]); first | done | rfl | (simp only [List.length_drop, List.length_take]; rfl)) ?_; (with_reducible refine (spec_l08Cylinders.calls k _ _ l0_0 _ _ l0_1 t619 _ ?side1 ?side2 ?side3 ?side4 A4.out).mono ?_); (case side1 => repeat (first | exact (Kd.C_below HR0_0.out HB.out) | (with_reducible refine Kd.C_alloc ?_ _) | (with_reducible refine Kd.C_drewN ?_ _) | (with_reducible refine Kd.C_drew ?_))); (case side2 => exact HC0_0.out); (case side3 => repeat (first | exact (Kd.C_below HR0_1.out HB.out) | (with_reducible refine Kd.C_alloc ?_ _) | (with_reducible refine Kd.C_drewN ?_ _) | (with_reducible refine Kd.C_drew ?_))); (case side4 => exact HC0_1.out); rintro e w9 ⟨v620, rfl, ho0, hb⟩; refine ⟨_, rfl, ?_⟩; have n0_ := Aside0.mk (Kd.R_lower ho0 (below_size (by repeat (first | (with_reducible first | exact HB.out | apply below_alloc | apply pw_below_drewN | apply below_drew1 | refine below_set ?_ GE617.out) | exact HB.out)))); have n1_ := Aside0.mk (blk_below (g := gb617) (o := .cells #[.slice A0_0 l0_0.length c0_0, .slice A0_1 l0_1.length c0_1] 27 (0, 0)) (by (with_reducible repeat (first | refine blk_drewN ?_ _ | refine blk_drew ?_ | refine blk_alloc ?_ _)); exact BK617.out) hb); have n2_ := Aside0.mk (below_step (by repeat (first | (with_reducible first | exact HB.out | apply below_alloc | apply pw_below_drewN | apply below_drew1 | refine below_set ?_ GE617.out) | exact HB.out)) hb); clear BK617; clear HB; have HO621 := n0_; have BK617 := n1_; have HB := n2_; clear n0_ n1_ n2_; (try clear hb); (try clear hb2); (try clear hk); (try clear hi); (try clear ho0)))
    go_ret2
    exact ⟨_, by first | rfl | (simp [errW_none, errW_some] <;> rfl) | (simp [*, errW_none, errW_some] <;> rfl), by (with_reducible repeat (first | apply Kd.R_alloc | apply Kd.R_drewN | apply Kd.R_drew)); exact HO621.out, by repeat (first | (with_reducible first | exact HB.out | apply below_alloc | apply pw_below_drewN | apply below_drew1 | refine below_set ?_ GE617.out) | exact HB.out)⟩
  · replace c3 := Bool.eq_false_iff.mpr c3
    subst c3
    have H1 : (some (([] : List (S44)), false)) = some (r1, r2) := by rw [if_neg (show ¬ (false = true) by decide)] at H; exact H
    clear H
    have H := H1
    clear H1
    simp only [Option.some.injEq, Prod.mk.injEq] at H
    obtain ⟨rfl, rfl⟩ := H
    go_enter Try.func19, Try.ntmps19
    go_wp2_with (first | ((with_reducible refine gate_dst (N := 1) rfl ?_); refine box_event ?hg (N := 1) ?hd (cs := #[.slice A0_0 l0_0.length c0_0, .slice A0_1 l0_1.length c0_1]) (t := 27) ?hr ?_; (case hd => rfl); (case hg => rfl); (case hr => first | (go_simp; done) | (go_simp; rfl)); intro gb617 hg w10 hbox hb; have n0_ := Aside0.mk (below_step (by repeat (first | (with_reducible first | exact HB.out | apply below_alloc | apply pw_below_drewN | apply below_drew1) | exact HB.out)) hb); have n1_ := Aside0.mk (hbox); have n2_ := Aside0.mk ((by rw [hg]; exact (below_size (by repeat (first | (with_reducible first | exact HB.out | apply below_alloc | apply pw_below_drewN | apply below_drew1) | exact HB.out))) : w.heap.size ≤ gb617)); have n3_ := Aside0.mk ((by rw [hg]; exact (below_size (by repeat (first | (with_reducible first | exact HB.out | apply below_alloc | apply pw_below_drewN | apply below_drew1) | exact HB.out))) : w.heap.size ≤ gb617)); clear HB; have HB := n0_; have BK617 := n1_; have GW617 := n2_; have GE617 := n3_; clear n0_ n1_ n2_ n3_; clear hb hbox hg; have hcz11_0 : w10.cell? ⟨gb617, 0, none⟩ = some (.slice A0_0 l0_0.length c0_0) := (blk_cell BK617.out 0).trans rfl; have hcz11_1 : w10.cell? ⟨gb617, 1, none⟩ = some (.slice A0_1 l0_1.length c0_1) := (blk_cell BK617.out 1).trans rfl; have hfz11_0 := blk_frozen BK617.out 0; have hfz11_1 := blk_frozen BK617.out 1) | ((with_reducible refine gate_callee (f := 63) rfl ?_); refine goesL_ (some 5) rfl rfl Try.func63 (by kernel_rfl) rfl #[.agg #[.slice A0_0 l0_0.length c0_0, .slice A0_1 l0_1.length c0_1]] rfl (by (try simp only [List.map_toArray, List.map_cons, List.map_nil]); first | done | rfl | (simp only [List.length_drop, List.length_take]; rfl)) ?_; (with_reducible refine (spec_SurfaceOk.calls k _ _ l0_0 _ _ l0_1 false _ ?side1 ?side2 ?side3 ?side4 A2.out).mono ?_); (case side1 => repeat (first | exact (Kd.C_below HR0_0.out HB.out) | (with_reducible refine Kd.C_alloc ?_ _) | (with_reducible refine Kd.C_drewN ?_ _) | (with_reducible refine Kd.C_drew ?_))); (case side2 => exact HC0_0.out); (case side3 => repeat (first | exact (Kd.C_below HR0_1.out HB.out) | (with_reducible refine Kd.C_alloc ?_ _) | (with_reducible refine Kd.C_drewN ?_ _) | (with_reducible refine Kd.C_drew ?_))); (case side4 => exact HC0_1.out); rintro e w12 ⟨rfl, hb⟩; refine ⟨_, rfl, ?_⟩; have n0_ := Aside0.mk (blk_below (g := gb617) (o := .cells #[.slice A0_0 l0_0.length c0_0, .slice A0_1 l0_1.length c0_1] 27 (0, 0)) (by (with_reducible repeat (first | refine blk_drewN ?_ _ | refine blk_drew ?_ | refine blk_alloc ?_ _)); exact BK617.out) hb); have n1_ := Aside0.mk (below_step (by repeat (first | (with_reducible first | exact HB.out | apply below_alloc | apply pw_below_drewN | apply below_drew1 | refine below_set ?_ GE617.out) | exact HB.out)) hb); clear BK617; clear HB; have BK617 := n0_; have HB := n1_; clear n0_ n1_; (try clear hb); (try clear hb2); (try clear hk); (try clear hi)))
    go_ret2
    exact ⟨_, by first | rfl | (simp [errW_none, errW_some] <;> rfl) | (simp [*, errW_none, errW_some] <;> rfl), by first | exact Kd.R_nil _ _ _ _ _ | exact Kd.N_nil _ _ _ _ _ | exact Kd.V_nil _ _ _ _ _ | exact Kd.Q_nil _ _ _ _ _ | exact Kd.S_nil _ _ _ _ _, by repeat (first | (with_reducible first | exact HB.out | apply below_alloc | apply pw_below_drewN | apply below_drew1 | refine below_set ?_ GE617.out) | exact HB.out)⟩
end Go.Proofs.Ytbdnellgioimbaa.A
end
section
/- The cylinders: what the reference comes to. No conditions. -/
namespace Go.Proofs.Ytbdnellgioimbaa.M
set_option linter.unusedVariables false
set_option linter.unusedSimpArgs false
open Go.RowKit Go.Proofs.YtbdnellgioimbaaW.PrintWords Go.Proofs.YtbdnellgioimbaaW.PrintLast Go.Proofs.YtbdnellgioimbaaW.PrintMore Go.Proofs.Ytbdnellgioimbaa.A
theorem mark1 {A : List Int} {n : Nat} (hn : A.length = n) (h24 : n ≤ 24) (hup : ∀ i j, upA A i = some j → i < n ∧ j < n) {G : Nat → Nat} {i : Nat} (hi : i < n) (hGi : ¬ G i < i) :
    ∀ (d : Nat) (add : List Nat) (v : Int), n ≤ add.length + d → Mk n (upA A) i (S0L G n i) add → (∀ x ∈ add, ∀ y, upA A x = some y → y ∈ S0L G n i ∨ y ∈ add ∨ v = (y : Int)) → (add = [] ∧ v = (i : Int) ∨ i ∈ add) → (v < 0 ∨ ∃ c : Nat, v = (c : Int) ∧ c < n ∧ ∃ m, ups (upA A) m i = some c) →
      ∃ add', Mk n (upA A) i (S0L G n i) add' ∧ i ∈ add' ∧ C1P (upA A) (S0L G n i) add' ∧ (∀ k, k < n → C2P (upA A) i (S0L G n i) add' k) ∧ Ev (fun k => spec_l08Mark.l0 k A (i : Int) (slG G n i add) (add.length : Int) v) ((add'.length : Int), slG G n i add') := by
  intro d
  induction d with
  | zero =>
    intro add v hd hM hC hm hv
    by_cases hv0 : v < 0
    · have hm' : i ∈ add := by rcases hm with ⟨_, h⟩ | h; omega; exact h
      obtain ⟨add', a1, a2, a3, a4, a5⟩ := mark2 hn h24 hup hi n add (by omega) hM hm' (fun x hx y hy => by rcases hC x hx y hy with h | h | h; exact Or.inl h; exact Or.inr h; omega)
      refine ⟨add', a1, a2, a3, a4, ev_succ ?_⟩
      have c1 : ¬ (v ≥ 0) := by omega
      simp only [spec_l08Mark.l0, c1, if_false]
      refine ev_succ ?_
      simp only [spec_l08Mark.j1]
      exact a5
    · obtain ⟨c, rfl, hc, hp⟩ : ∃ c : Nat, v = (c : Int) ∧ c < n ∧ ∃ m, ups (upA A) m i = some c := by rcases hv with h | h; omega; exact h
      by_cases hs : G c < i ∨ c ∈ add
      · have hm' : i ∈ add := by
          rcases hm with ⟨h1, h⟩ | h
          · have : c = i := by omega
            rw [this, h1] at hs
            rcases hs with h2 | h2
            · exact absurd h2 hGi
            · simp at h2
          · exact h
        obtain ⟨add', a1, a2, a3, a4, a5⟩ := mark2 hn h24 hup hi n add (by omega) hM hm' (fun x hx y hy => by
          rcases hC x hx y hy with h | h | h
          · exact Or.inl h
          · exact Or.inr h
          · have : y = c := by omega
            rw [this]
            exact (seen_iff hc).mp hs)
        refine ⟨add', a1, a2, a3, a4, ev_succ ?_⟩
        have c1 : (c : Int) ≥ 0 := by omega
        have c2 : (0 : Int) ≤ (c : Int) := by omega
        have c3 : (c : Int) < ((slG G n i add).length : Int) := by rw [slG_len]; omega
        have c4 := slG_at (G := G) (i := i) (add := add) hc
        rw [decide_eq_true hs] at c4
        simp only [spec_l08Mark.l0, c1, c2, c3, c4, if_true]
        refine ev_succ ?_
        simp only [spec_l08Mark.j1]
        exact a5
      · have := (hM.add hc (fun h => hs (Or.inl (mem_S0.mp h).2)) (fun h => hs (Or.inr h)) (Or.inl hp)).len
        rw [List.length_append] at this
        simp at this
        omega
  | succ d ih =>
    intro add v hd hM hC hm hv
    by_cases hv0 : v < 0
    · have hm' : i ∈ add := by rcases hm with ⟨_, h⟩ | h; omega; exact h
      obtain ⟨add', a1, a2, a3, a4, a5⟩ := mark2 hn h24 hup hi n add (by omega) hM hm' (fun x hx y hy => by rcases hC x hx y hy with h | h | h; exact Or.inl h; exact Or.inr h; omega)
      refine ⟨add', a1, a2, a3, a4, ev_succ ?_⟩
      have c1 : ¬ (v ≥ 0) := by omega
      simp only [spec_l08Mark.l0, c1, if_false]
      refine ev_succ ?_
      simp only [spec_l08Mark.j1]
      exact a5
    · obtain ⟨c, rfl, hc, hp⟩ : ∃ c : Nat, v = (c : Int) ∧ c < n ∧ ∃ m, ups (upA A) m i = some c := by rcases hv with h | h; omega; exact h
      have c1 : (c : Int) ≥ 0 := by omega
      have c2 : (0 : Int) ≤ (c : Int) := by omega
      have c3 : (c : Int) < ((slG G n i add).length : Int) := by rw [slG_len]; omega
      have c4 := slG_at (G := G) (i := i) (add := add) hc
      by_cases hs : G c < i ∨ c ∈ add
      · have hm' : i ∈ add := by
          rcases hm with ⟨h1, h⟩ | h
          · have : c = i := by omega
            rw [this, h1] at hs
            rcases hs with h2 | h2
            · exact absurd h2 hGi
            · simp at h2
          · exact h
        obtain ⟨add', a1, a2, a3, a4, a5⟩ := mark2 hn h24 hup hi n add (by omega) hM hm' (fun x hx y hy => by
          rcases hC x hx y hy with h | h | h
          · exact Or.inl h
          · exact Or.inr h
          · have : y = c := by omega
            rw [this]
            exact (seen_iff hc).mp hs)
        refine ⟨add', a1, a2, a3, a4, ev_succ ?_⟩
        rw [decide_eq_true hs] at c4
        simp only [spec_l08Mark.l0, c1, c2, c3, c4, if_true]
        refine ev_succ ?_
        simp only [spec_l08Mark.j1]
        exact a5
      · rw [decide_eq_false hs] at c4
        have hM2 := hM.add hc (fun h => hs (Or.inl (mem_S0.mp h).2)) (fun h => hs (Or.inr h)) (Or.inl hp)
        have hl2 : (add ++ [c]).length = add.length + 1 := by simp
        have hlen := hM.len
        have hA : c < A.length := by omega
        have c5 : (c : Int) < (A.length : Int) := by omega
        have c8 : ((c : Int)).toNat = c := rfl
        have hcm : c ∈ add ++ [c] := by simp
        have hi' : i ∈ add ++ [c] := by
          rcases hm with ⟨h1, h⟩ | h
          · have : c = i := by omega
            rw [this]; simp
          · exact List.mem_append.mpr (Or.inl h)
        obtain ⟨add', a1, a2, a3, a4, a5⟩ := ih (add ++ [c]) (rd A (c : Int)) (by omega) hM2 (fun x hx y hy => by
          rcases List.mem_append.mp hx with h | h
          · rcases hC x h y hy with h2 | h2 | h2
            · exact Or.inl h2
            · exact Or.inr (Or.inl (List.mem_append.mpr (Or.inl h2)))
            · have : y = c := by omega
              rw [this]
              exact Or.inr (Or.inl hcm)
          · have : x = c := by simpa using h
            rw [this] at hy
            exact Or.inr (Or.inr (upA_rd hy).1)) (Or.inr hi') (by
          cases hu : upA A c with
          | none => exact Or.inl (upA_neg hA hu)
          | some y =>
            obtain ⟨m, hm2⟩ := hp
            exact Or.inr ⟨y, (upA_rd hu).1, (hup _ _ hu).2, m + 1, by rw [ups_succ, hm2]; exact hu⟩)
        refine ⟨add', a1, a2, a3, a4, ev_succ ?_⟩
        have e1 : ((add ++ [c]).length : Int) = ((add.length + 1 : Nat) : Int) := by rw [hl2]
        rw [e1] at a5
        have c6 := w64s add.length (by omega)
        simp only [spec_l08Mark.l0, c1, c2, c3, c4, c5, c6, c8, slG_set, if_true, Bool.false_eq_true, if_false]
        exact a5
theorem marked_ev {A : List Int} {n : Nat} (hn : A.length = n) (h24 : n ≤ 24) (hup : ∀ i j, upA A i = some j → i < n ∧ j < n) (hinj : ∀ i i' j, upA A i = some j → upA A i' = some j → i = i') {G : Nat → Nat} (hG : Grp n (upA A) n G) {i : Nat} (hi : i < n) (hGi : G i = i) :
    Ev (fun k => spec_l08Mark.f k A (i : Int) (slG G n i [])) (((cntG G n i : Nat) : Int), slG G n (i + 1) []) := by
  obtain ⟨add, a1, a2, a3, a4, a5⟩ := mark1 hn h24 hup hi (by omega : ¬ G i < i) n [] (i : Int) (by simp) ⟨List.nodup_nil, by simp, by simp, by simp⟩ (by simp) (Or.inl ⟨rfl, rfl⟩) (Or.inr ⟨i, rfl, hi, 0, rfl⟩)
  have hfull := a1.full hup hinj a2 (fun a b hab => by
    obtain ⟨ha, hb⟩ := hup _ _ hab
    rw [mem_S0, mem_S0, (hG.iff hup ha hb).mpr (Cn.one hab)]
    exact ⟨fun h => ⟨hb, h.2⟩, fun h => ⟨ha, h.2⟩⟩) a3 (fun k x hk hx hp => a4 k (hup _ _ hk).1 x hk hx hp)
  have hcls : ∀ x, x ∈ add ↔ x < n ∧ G x = i := by
    intro x
    constructor
    · intro h
      have hx := a1.lt x h
      have := (hG.iff hup hi hx).mpr ((hfull x).mp h)
      exact ⟨hx, by rw [← this]; exact hGi⟩
    · rintro ⟨hx, h⟩
      exact (hfull x).mpr ((hG.iff hup hi hx).mp (by rw [hGi, h]))
  have e1 : add.length = cntG G n i := by
    unfold cntG
    refine nodup_len_eq a1.nd (List.Pairwise.filter _ List.nodup_range) (fun x => ?_)
    rw [hcls]
    simp
  have e2 : slG G n i add = slG G n (i + 1) [] := by
    unfold slG
    refine List.map_congr_left (fun q hq => ?_)
    have hq' := List.mem_range.mp hq
    congr 1
    rw [hcls]
    simp
    omega
  rw [e1, e2] at a5
  exact a5
theorem spec_cyl {r u : List Nat} (hs : Sf r u) {G : Nat → Nat} (hG : Grp (cycles r).length (upA (abL r u)) (cycles r).length G) : Ev (fun k => spec_CylindersOf.f k (I r) (I u)) (outG (cycles r) G (cycles r).length (cycles r).length, true) := by
  have h24 := cycles_len (p := r) hs.le
  have hn := abL_len r u
  unfold spec_CylindersOf.f
  refine Ev.bind (spec_surf _ _) ?_
  have h0 := surfB_I.mpr hs
  simp only [h0, if_true]
  refine Ev.bind (a := outG (cycles r) G (cycles r).length (cycles r).length) ?_ (Ev.now _)
  unfold spec_l08Cylinders.f
  refine Ev.bind (spec_cycles hs.pr hs.le) (Ev.bind (above_ev hs) ?_)
  have z1 : (0 : Int) ≤ ((cycles r).length : Int) := by omega
  have z2 : (((cycles r).length : Int)).toNat = (cycles r).length := rfl
  have z3 : (cycles r).length ≤ 281474976710656 := by omega
  simp only [I2_len, z1, z2, z3, if_true]
  have H : ∀ d i : Nat, i + d = (cycles r).length → Ev (fun k => spec_l08Cylinders.l0 k (abL r u) (slG G (cycles r).length i []) (outG (cycles r) G (cycles r).length i) (I2 (cycles r)) ((cycles r).length : Int) (i : Int)) (outG (cycles r) G (cycles r).length (cycles r).length) := by
    intro d
    induction d with
    | zero =>
      intro i hi
      obtain rfl : i = (cycles r).length := by omega
      refine ev_succ ?_
      have c1 : ¬ (((cycles r).length : Int) < ((cycles r).length : Int)) := by omega
      simp only [spec_l08Cylinders.l0, c1, if_false]
      exact Ev.now _
    | succ d ih =>
      intro i hi
      have hin : i < (cycles r).length := by omega
      have c1 : (i : Int) < ((cycles r).length : Int) := by omega
      have c2 : (0 : Int) ≤ (i : Int) := by omega
      have c3 : (i : Int) < ((I2 (cycles r)).length : Int) := by rw [I2_len]; exact c1
      have c3' : (i : Int) < ((slG G (cycles r).length i []).length : Int) := by rw [slG_len]; exact c1
      have c4 := slG_at (G := G) (i := i) (add := []) hin
      have c6 : rd_L1 (I2 (cycles r)) (i : Int) = I ((cycles r)[i]) := rdL_at hin
      have c7 : ((I ((cycles r)[i])).length : Int) = ((((cycles r).getD i []).length : Nat) : Int) := by rw [I_len, List.getD_eq_getElem?_getD, List.getElem?_eq_getElem hin]; rfl
      have c9 : (outG (cycles r) G (cycles r).length i).length < 8796093022208 := by have := outG_len (cycles r) G (cycles r).length i; omega
      have hle := hG.le i hin
      have key := ih (i + 1) (by omega)
      by_cases e : G i = i
      · have hno : ¬ (G i < i ∨ i ∈ ([] : List Nat)) := by simp; omega
        rw [decide_eq_false hno] at c4
        rw [outG_yes e] at key
        refine ev_succ ?_
        have c5 := w64s i (by omega)
        simp only [spec_l08Cylinders.l0, c1, c2, c3, c3', c4, if_true, Bool.false_eq_true, if_false]
        refine Ev.bind (marked_ev hn h24 (upA_lt hs) (fun a b c h h' => upA_inj hs h h') hG hin e) ?_
        simp only [c5, c6, c7, c9, if_true]
        exact key
      · have hyes : G i < i ∨ i ∈ ([] : List Nat) := Or.inl (by omega)
        rw [decide_eq_true hyes] at c4
        rw [outG_no e] at key
        have e2 : slG G (cycles r).length (i + 1) [] = slG G (cycles r).length i [] := by
          unfold slG
          refine List.map_congr_left (fun q hq => ?_)
          have hq' := List.mem_range.mp hq
          have hq2 : G q ≠ i := fun h => e (by rw [← h]; exact hG.fix q hq')
          congr 1
          simp
          omega
        rw [e2] at key
        refine ev_succ ?_
        have c5 := w64s i (by omega)
        simp only [spec_l08Cylinders.l0, c1, c2, c3, c3', c4, c5, if_true]
        exact key
  have e0 : (List.replicate (cycles r).length false) = slG G (cycles r).length 0 [] := by
    unfold slG
    apply List.ext_getElem
    · simp
    · intro k h1 h2
      simp
  rw [e0]
  exact H (cycles r).length 0 (Nat.zero_add _)
end Go.Proofs.Ytbdnellgioimbaa.M
end
section
/- Lists of cylinders: marks. No conditions. -/
namespace Go.Proofs.Ytbdnellgioimbaa.M
set_option linter.unusedVariables false
set_option linter.unusedSimpArgs false
open Go.RowKit Go.Proofs.YtbdnellgioimbaaW.PrintWords Go.Proofs.YtbdnellgioimbaaW.PrintLast Go.Proofs.YtbdnellgioimbaaW.PrintMore Go.Proofs.Ytbdnellgioimbaa.A
theorem rdT_get64 (l : List S44) (i : Nat) (h : i < l.length) : rd_T44 l (i : Int) = l[i] := by
  unfold rd_T44
  simp [List.getD_eq_getElem?_getD, h]
end Go.Proofs.Ytbdnellgioimbaa.M
end
section
/- The least shears: the program and the reference answer alike. No conditions. -/
namespace Go.Proofs.Ytbdnellgioimbaa.M
set_option linter.unusedVariables false
set_option linter.unusedSimpArgs false
open Go.RowKit Go.Proofs.YtbdnellgioimbaaW.PrintWords Go.Proofs.YtbdnellgioimbaaW.PrintLast Go.Proofs.YtbdnellgioimbaaW.PrintMore Go.Proofs.Ytbdnellgioimbaa.A
theorem gcd_both : ∀ (n : Nat) (a b : Int), b.natAbs ≤ n → ¬ (a = 0 ∧ b = 0) → ∃ g, g ≠ 0 ∧ (g ∣ a ∧ g ∣ b) ∧ Ev (fun k => spec_l08Gcd.f k a b) g ∧ Ev (fun k => impl_gcd.f k a b) g := by
  have base : ∀ a : Int, a ≠ 0 → ∃ g, g ≠ 0 ∧ (g ∣ a ∧ g ∣ 0) ∧ Ev (fun k => spec_l08Gcd.f k a 0) g ∧ Ev (fun k => impl_gcd.f k a 0) g := by
    intro a ha
    refine ⟨a, ha, ⟨Int.dvd_refl a, Int.dvd_zero a⟩, ?_, ?_⟩
    · unfold spec_l08Gcd.f
      refine ev_succ ?_
      simp only [spec_l08Gcd.l0, if_true]
      exact Ev.now _
    · unfold impl_gcd.f
      refine ev_succ ?_
      simp only [impl_gcd.l0, if_true]
      exact Ev.now _
  intro n
  induction n with
  | zero =>
    intro a b hb h0
    obtain rfl : b = 0 := by omega
    exact base a (fun e => h0 ⟨e, rfl⟩)
  | succ n ih =>
    intro a b hb h0
    by_cases e : b = 0
    · subst e
      exact base a (fun e => h0 ⟨e, rfl⟩)
    · have hlt : (Int.tmod a b).natAbs < b.natAbs := by
        rw [Int.natAbs_tmod]
        exact Nat.mod_lt _ (by omega)
      obtain ⟨g, hg, ⟨d1, d2⟩, e1, e2⟩ := ih b (Int.tmod a b) (by omega) (fun h => e h.1)
      have d3 : g ∣ a := by
        rw [← Int.mul_tdiv_add_tmod a b]
        exact Int.dvd_add (Int.dvd_trans d1 (Int.dvd_mul_right _ _)) d2
      refine ⟨g, hg, ⟨d3, d1⟩, ?_, ?_⟩
      · unfold spec_l08Gcd.f at e1 ⊢
        refine ev_succ ?_
        simp only [spec_l08Gcd.l0, e, if_false]
        exact e1
      · unfold impl_gcd.f at e2 ⊢
        refine ev_succ ?_
        simp only [impl_gcd.l0, e, if_false]
        exact e2
theorem least_loop (l : List S44) (hl : l.length ≤ 1000) (hw : ∀ c ∈ l, 1 ≤ c.f0 ∧ c.f0 ≤ 24) : ∀ (d i : Nat) (x : Int), i + d = l.length → ∃ n, Ev (fun k => spec_LeastShears.l0 k x l (l.length : Int) (i : Int)) n ∧ Ev (fun k => impl_LeastShears.l0 k x l (l.length : Int) (i : Int)) n := by
  intro d
  induction d with
  | zero =>
    intro i x hi
    have c1 : ¬ ((i : Int) < (l.length : Int)) := by omega
    refine ⟨x, ev_succ ?_, ev_succ ?_⟩
    · simp only [spec_LeastShears.l0, c1, if_false]
      exact Ev.now _
    · simp only [impl_LeastShears.l0, c1, if_false]
      exact Ev.now _
  | succ d ih =>
    intro i x hi
    have hil : i < l.length := by omega
    have c1 : (i : Int) < (l.length : Int) := by omega
    have c2 : (0 : Int) ≤ (i : Int) := by omega
    have c4 : rd_T44 l (i : Int) = l[i] := rdT_get64 l i hil
    obtain ⟨w0, w1⟩ := hw (l[i]) (List.getElem_mem hil)
    obtain ⟨g, hg, ⟨d1, _⟩, e1, e2⟩ := gcd_both _ (l[i]).f0 (l[i]).f1 (Nat.le_refl _) (fun h => by omega)
    obtain ⟨q, hq⟩ := d1
    have hq0 : q ≠ 0 := by intro h; rw [h, Int.mul_zero] at hq; omega
    have hdv : Int.tdiv (l[i]).f0 g = q := by rw [hq]; exact Int.mul_tdiv_cancel_left q hg
    have hqb : q.natAbs ≤ 24 := by
      have h1 := congrArg Int.natAbs hq
      rw [Int.natAbs_mul] at h1
      have h2 : 1 ≤ g.natAbs := by omega
      have h3 := Nat.mul_le_mul_right q.natAbs h2
      omega
    have hwr : wrap64 q = q := w64 (by omega) (by omega)
    obtain ⟨g2, hg2, _, e3, e4⟩ := gcd_both _ x q (Nat.le_refl _) (fun h => hq0 h.2)
    obtain ⟨n, i1, i2⟩ := ih (i + 1) (wrap64 (wrap64 (Int.tdiv x g2) * q)) (by omega)
    have c3 := w64s i (by omega)
    refine ⟨n, ev_succ ?_, ev_succ ?_⟩
    · simp only [spec_LeastShears.l0, c1, c2, c4, if_true]
      refine Ev.bind e1 ?_
      simp only [hg, hdv, hwr, if_false]
      refine Ev.bind e3 ?_
      simp only [hg2, c3, if_false]
      exact i1
    · simp only [impl_LeastShears.l0, c1, c2, c4, if_true]
      refine Ev.bind e2 ?_
      simp only [hg, hdv, hwr, if_false]
      refine Ev.bind e4 ?_
      simp only [hg2, c3, if_false]
      exact i2
theorem spec_cyl8 {r u : List Nat} (hs : Sf r u) {l : List S44} (h : Ev (fun k => spec_CylindersOf.f k (I r) (I u)) (l, true)) : Ev (fun k => spec_l08Cylinders.f k (I r) (I u)) l := by
  obtain ⟨K1, e1⟩ := h
  obtain ⟨K2, e2⟩ := spec_surf (I r) (I u)
  refine ⟨K1 + K2, fun k hk => ?_⟩
  have h1 := e1 k (by omega)
  have h2 := e2 k (by omega)
  dsimp only at h1 h2 ⊢
  unfold spec_CylindersOf.f at h1
  rw [h2, surfB_I.mpr hs] at h1
  simp only [Option.bind_some, if_true] at h1
  cases h3 : spec_l08Cylinders.f k (I r) (I u) with
  | none => rw [h3] at h1; cases h1
  | some z =>
    rw [h3] at h1
    simp only [Option.bind_some] at h1
    have h4 := congrArg Prod.fst (Option.some.inj h1)
    exact congrArg some h4
theorem outG_wide {r : List Nat} (hr : IsP r) (h24 : r.length ≤ 24) (G : Nat → Nat) (m : Nat) : ∀ c ∈ outG (cycles r) G m (cycles r).length, 1 ≤ c.f0 ∧ c.f0 ≤ 24 := by
  intro c hc
  unfold outG at hc
  obtain ⟨q, hq, rfl⟩ := List.mem_map.mp hc
  have hq' : q < (cycles r).length := List.mem_range.mp (List.mem_filter.mp hq).1
  have hm : (cycles r).getD q [] ∈ cycles r := by
    rw [List.getD_eq_getElem?_getD, List.getElem?_eq_getElem hq']
    exact List.getElem_mem hq'
  obtain ⟨s, t, _, e, _⟩ := cycle_form hr hm
  have h1 := cycle_len hr h24 _ hm
  have h2 : 1 ≤ ((cycles r).getD q []).length := by rw [e]; simp
  exact ⟨by show (1 : Int) ≤ ((((cycles r).getD q []).length : Nat) : Int); omega, by show ((((cycles r).getD q []).length : Nat) : Int) ≤ 24; omega⟩
theorem least_both (r u : List Int) : ∃ n, Ev (fun k => spec_LeastShears.f k r u) n ∧ Ev (fun k => impl_LeastShears.f k r u) n := by
  unfold spec_LeastShears.f impl_LeastShears.f
  by_cases h : surfB r u = true
  · have h' := h
    obtain ⟨r, u, rfl, rfl, hs⟩ := surf_nat h
    obtain ⟨G, g1, g2⟩ := impl_cyl hs
    have g3 := spec_cyl8 hs (spec_cyl hs g1)
    have hl := outG_len (cycles r) G (cycles r).length (cycles r).length
    have h24 := cycles_len (p := r) hs.le
    obtain ⟨n, i1, i2⟩ := least_loop _ (by omega) (outG_wide hs.pr hs.le G (cycles r).length) _ 0 1 (Nat.zero_add _)
    refine ⟨n, Ev.bind (spec_surf _ _) ?_, Ev.bind g2 ?_⟩
    · simp only [h', if_true]
      exact Ev.bind g3 i1
    · simp only [if_true]
      exact i2
  · refine ⟨0, Ev.bind (spec_surf _ _) ?_, Ev.bind (a := (([], false) : List S44 × Bool)) ?_ ?_⟩
    · simp only [h, Bool.false_eq_true, if_false]
      exact Ev.now _
    · unfold impl_CylindersOf.f
      refine Ev.bind (impl_surf _ _) ?_
      simp only [h, Bool.false_eq_true, if_false]
      exact Ev.now _
    · simp only [Bool.false_eq_true, if_false]
      exact Ev.now _
end Go.Proofs.Ytbdnellgioimbaa.M
end
section
/- The law of least shears answers true. No conditions. -/
namespace Go.Proofs.Ytbdnellgioimbaa.Pure
set_option linter.unusedVariables false
set_option linter.unusedSimpArgs false
open Go.RowKit Go.Proofs.YtbdnellgioimbaaW.PrintWords Go.Proofs.YtbdnellgioimbaaW.PrintLast Go.Proofs.YtbdnellgioimbaaW.PrintMore Go.Proofs.Ytbdnellgioimbaa.A Go.Proofs.Ytbdnellgioimbaa.M
theorem FnExactLeastShears (r u : List Int) (hr : r.length ≤ maxLen) (_ : ∀ x ∈ r, (Lit.int .i64 x).wf = true) (hu : u.length ≤ maxLen) (_ : ∀ x ∈ u, (Lit.int .i64 x).wf = true) : ∃ k, laws_FnExactLeastShears.F k r u := by
  unfold maxLen at hr hu
  unfold laws_FnExactLeastShears.F
  by_cases h2 : r.length + u.length ≤ 1048576
  · obtain ⟨n, ⟨K1, e1⟩, ⟨K2, e2⟩⟩ := least_both r u
    obtain ⟨K3, e3⟩ := toSurf_ev r u (by omega) (by omega)
    obtain ⟨K4, e4⟩ := eqSurf_same r u (by omega) (by omega)
    exact ⟨K1 + K2 + K3 + K4, _, sz_small h2, .inr ⟨by omega, n, e3 _ (by omega), e4 _ (by omega), e1 _ (by omega), e2 _ (by omega)⟩⟩
  · exact ⟨0, _, sz_big (by omega) (by omega) h2, .inl (by omega)⟩
end Go.Proofs.Ytbdnellgioimbaa.Pure
end
