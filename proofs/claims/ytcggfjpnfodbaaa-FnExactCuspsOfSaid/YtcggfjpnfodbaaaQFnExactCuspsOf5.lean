/- Lemmas for the row FnExactCuspsOf: the program's functions told as plain functions, and plain mathematics. No conditions. -/
import Derived.Test.YtcggfjpnfodbaaaQFnExactCuspsOf4
section
/- What every law does with its arguments; inverses. No conditions. -/
namespace Go.Proofs.Ytcggfjpnfodbaaa.M
set_option linter.unusedVariables false
set_option linter.unusedSimpArgs false
open Go.RowKit Go.Proofs.YtcggfjpnfodbaaaW.PrintWords Go.Proofs.YtcggfjpnfodbaaaW.PrintLast Go.Proofs.YtcggfjpnfodbaaaW.PrintMore Go.Proofs.Ytcggfjpnfodbaaa.A
theorem rd_set {l : List Int} {i j : Nat} {x : Int} (h : i < l.length) : rd (l.set i x) (j : Int) = if i = j then x else rd l (j : Int) := by
  unfold rd
  simp only [Int.toNat_natCast]
  rw [List.getD_eq_getElem?_getD, List.getD_eq_getElem?_getD, List.getElem?_set]
  by_cases e : i = j
  · subst e
    simp [h]
  · simp [e]
theorem ext_rd {a b : List Int} (hl : a.length = b.length) (h : ∀ i : Nat, i < a.length → rd a (i : Int) = rd b (i : Int)) : a = b := by
  apply List.ext_getElem hl
  intro i h1 h2
  rw [← rd_get a i h1, ← rd_get b i h2]
  exact h i h1
theorem sz_small {r u : List Int} (h : r.length + u.length ≤ 1048576) : laws_szSurface.f r u 1048576 = some (1048576 - (r.length : Int) - (u.length : Int)) := by
  unfold laws_szSurface.f laws_szIntS.f
  have e1 : wrap64 (1048576 - (r.length : Int)) = 1048576 - (r.length : Int) := w64 (by omega) (by omega)
  have e2 : wrap64 (1048576 - (r.length : Int) - (u.length : Int)) = 1048576 - (r.length : Int) - (u.length : Int) := w64 (by omega) (by omega)
  have c1 : ¬ (1048576 - (r.length : Int) < 0) := by omega
  have c2 : ¬ (1048576 - (r.length : Int) - (u.length : Int) < 0) := by omega
  simp only [e1, c1, if_false, Option.bind_some, e2, c2]
theorem sz_big {r u : List Int} (hr : r.length ≤ 9223372036854775807) (hu : u.length ≤ 9223372036854775807) (h : ¬ r.length + u.length ≤ 1048576) : laws_szSurface.f r u 1048576 = some (-1) := by
  unfold laws_szSurface.f laws_szIntS.f
  have e1 : wrap64 (1048576 - (r.length : Int)) = 1048576 - (r.length : Int) := w64 (by omega) (by omega)
  by_cases c1 : 1048576 - (r.length : Int) < 0
  · have c3 : (-1 : Int) < 0 := by omega
    simp only [e1, c1, if_true, Option.bind_some, c3]
  · have e2 : wrap64 (1048576 - (r.length : Int) - (u.length : Int)) = 1048576 - (r.length : Int) - (u.length : Int) := w64 (by omega) (by omega)
    have c2 : 1048576 - (r.length : Int) - (u.length : Int) < 0 := by omega
    have c3 : (-1 : Int) < 0 := by omega
    simp only [e1, c1, if_false, Option.bind_some, e2, c2, if_true, c3]
theorem toInts_ev (l : List Int) (h : l.length ≤ 1048576) : Ev (fun k => laws_toIntS.f k l) l := by
  unfold laws_toIntS.f
  have h1 : (0 : Int) ≤ (l.length : Int) := by omega
  have h2 : ((l.length : Int)).toNat ≤ 35184372088832 := by omega
  simp only [h1, h2, if_true]
  have H : ∀ (d i : Nat) (c : List Int), i + d = l.length → c.length = l.length → (∀ j : Nat, j < i → rd c (j : Int) = rd l (j : Int)) → Ev (fun k => laws_toIntS.l0 k l c (i : Int)) l := by
    intro d
    induction d with
    | zero =>
      intro i c h hc hx
      refine ev_succ ?_
      have h1 : ¬ ((i : Int) < (l.length : Int)) := by omega
      have e : c = l := ext_rd hc (fun j hj => hx j (by omega))
      simp only [laws_toIntS.l0, h1, if_false]
      rw [e]
      exact Ev.now _
    | succ d ih =>
      intro i c h hc hx
      refine ev_succ ?_
      have h1 : (i : Int) < (l.length : Int) := by omega
      have h2 : (0 : Int) ≤ (i : Int) := by omega
      have h3 : (i : Int) < (c.length : Int) := by omega
      have h4 := w64s i (by omega)
      simp only [laws_toIntS.l0, h1, h2, h3, h4, if_true, Int.toNat_natCast]
      refine ih (i + 1) _ (by omega) (by rw [List.length_set]; exact hc) (fun j hj => ?_)
      rw [rd_set (by omega)]
      by_cases e : i = j
      · subst e
        simp
      · rw [if_neg e]
        exact hx j (by omega)
  exact H l.length 0 _ (by omega) (by rw [List.length_replicate]; omega) (fun j hj => by omega)
theorem toSurf_ev (r u : List Int) (hr : r.length ≤ 1048576) (hu : u.length ≤ 1048576) : Ev (fun k => laws_toSurface.f k r u) (r, u) := by
  unfold laws_toSurface.f
  exact Ev.bind (toInts_ev r hr) (Ev.bind (toInts_ev u hu) (Ev.now _))
theorem eqInts_ev (a b : List Int) (ha : a.length ≤ 9000000000000000000) : Ev (fun k => laws_eqIntS.f k a b) (decide (a = b)) := by
  unfold laws_eqIntS.f
  by_cases hl : (a.length : Int) = (b.length : Int)
  · simp only [hl, if_true]
    have hl' : a.length = b.length := by omega
    have H : ∀ d i : Nat, i + d = a.length → ∃ c, Ev (fun k => laws_eqIntS.l0 k a b (i : Int)) c ∧ (c = true ↔ ∀ j : Nat, i ≤ j → j < a.length → rd a (j : Int) = rd b (j : Int)) := by
      intro d
      induction d with
      | zero =>
        intro i h
        refine ⟨true, ev_succ ?_, by simp; intro j h1 h2; omega⟩
        have h1 : ¬ ((i : Int) < (a.length : Int)) := by omega
        simp only [laws_eqIntS.l0, h1, if_false]
        exact Ev.now _
      | succ d ih =>
        intro i h
        have h1 : (i : Int) < (a.length : Int) := by omega
        have h2 : (0 : Int) ≤ (i : Int) := by omega
        have h3 : (i : Int) < (b.length : Int) := by omega
        have h4 := w64s i (by omega)
        by_cases c : rd a (i : Int) = rd b (i : Int)
        · obtain ⟨c', i1, i2⟩ := ih (i + 1) (by omega)
          refine ⟨c', ev_succ ?_, by
            rw [i2]
            constructor
            · intro k j j1 j2
              by_cases e : j = i
              · subst e; exact c
              · exact k j (by omega) j2
            · intro k j j1 j2
              exact k j (by omega) j2⟩
          simp only [laws_eqIntS.l0, h1, h2, h3, h4, c, if_true]
          exact i1
        · refine ⟨false, ev_succ ?_, by
            simp only [Bool.false_eq_true, false_iff]
            intro k
            exact c (k i (Nat.le_refl _) (by omega))⟩
          simp only [laws_eqIntS.l0, h1, h2, h3, c, if_true, if_false]
          exact Ev.now _
    obtain ⟨c, i1, i2⟩ := H a.length 0 (by omega)
    have : decide (a = b) = c := by
      rw [Bool.eq_iff_iff, i2, decide_eq_true_iff]
      constructor
      · intro e j _ _
        rw [e]
      · intro k
        exact ext_rd hl' (fun j hj => k j (Nat.zero_le _) hj)
    rw [this]
    exact i1
  · simp only [hl, if_false]
    have : decide (a = b) = false := by
      rw [decide_eq_false_iff_not]
      intro e
      exact hl (by rw [e])
    rw [this]
    exact Ev.now _
theorem eqInts_same (a : List Int) (ha : a.length ≤ 9000000000000000000) : Ev (fun k => laws_eqIntS.f k a a) true := by
  have := eqInts_ev a a ha
  simpa using this
theorem eqSurf_same (r u : List Int) (hr : r.length ≤ 9000000000000000000) (hu : u.length ≤ 9000000000000000000) : Ev (fun k => laws_eqSurface.f k r u r u) true := by
  unfold laws_eqSurface.f
  refine Ev.bind (eqInts_same r hr) ?_
  simp only [if_true]
  refine Ev.bind (eqInts_same u hu) ?_
  simp only [if_true]
  exact Ev.now _
theorem inv_of {p c : List Nat} (hp : IsP p) (hc : c.length = p.length) (h : ∀ j, j < p.length → g c (g p j) = j) : c = inv p := by
  refine ext_g (by rw [inv_len, hc]) (fun x hx => ?_)
  rw [hc] at hx
  rw [g_inv hx]
  have := h (ix p x) (ix_lt hp hx)
  rw [g_ix hp hx] at this
  exact this
theorem inv_step {p c : List Nat} (hp : IsP p) {i : Nat} (hi : i < p.length) (hc : c.length = p.length) (h : ∀ j, j < i → g c (g p j) = j) : ∀ j, j < i + 1 → g (c.set (g p i) i) (g p j) = j := by
  intro j hj
  rw [g_set (by rw [hc]; exact g_lt hp hi)]
  by_cases e : j = i
  · subst e
    simp
  · rw [if_neg (fun k => e (g_inj hp (by omega) hi k.symm))]
    exact h j (by omega)
theorem spec_inv {p : List Nat} (hp : IsP p) (h24 : p.length ≤ 24) : Ev (fun k => spec_l02Inverse.f k (I p)) (I (inv p)) := by
  unfold spec_l02Inverse.f
  have H : ∀ (d i : Nat) (c : List Nat), i + d = p.length → c.length = p.length → (∀ j, j < i → g c (g p j) = j) → Ev (fun k => spec_l02Inverse.l0 k (I c) (I p) (p.length : Int) (i : Int)) (I (inv p)) := by
    intro d
    induction d with
    | zero =>
      intro i c h hc hx
      refine ev_succ ?_
      have h1 : ¬ ((i : Int) < (p.length : Int)) := by omega
      rw [← inv_of hp hc (fun j hj => hx j (by omega))]
      simp only [spec_l02Inverse.l0, h1, if_false]
      exact Ev.now _
    | succ d ih =>
      intro i c h hc hx
      refine ev_succ ?_
      have hi : i < p.length := by omega
      have h1 : (i : Int) < (p.length : Int) := by omega
      have h2 : (0 : Int) ≤ (i : Int) := by omega
      have h3 := w64s i (by omega)
      have h4 : (0 : Int) ≤ ((g p i : Nat) : Int) := by omega
      have h5 : ((g p i : Nat) : Int) < (c.length : Int) := by have := g_lt hp hi; omega
      simp only [spec_l02Inverse.l0, h1, h2, h3, h4, h5, rdI, I_len', I_set, if_true, Int.toNat_natCast]
      exact ih (i + 1) _ (by omega) (by rw [List.length_set]; exact hc) (inv_step hp hi hc hx)
  have h1 : (0 : Int) ≤ (p.length : Int) := by omega
  have h2 : p.length ≤ 35184372088832 := by omega
  simp only [I_len', h1, h2, if_true, Int.toNat_natCast]
  have := H p.length 0 (List.replicate p.length 0) (by omega) (by simp) (fun j hj => by omega)
  rw [I_rep] at this
  exact this
theorem impl_inv {p : List Nat} (hp : IsP p) (h24 : p.length ≤ 24) : Ev (fun k => impl_InversePerm.f k (I p)) (I (inv p)) := by
  unfold impl_InversePerm.f
  have H : ∀ (d i : Nat) (c : List Nat), i + d = p.length → c.length = p.length → (∀ j, j < i → g c (g p j) = j) → Ev (fun k => impl_InversePerm.l0 k (I c) (I p) (p.length : Int) (i : Int)) (I (inv p)) := by
    intro d
    induction d with
    | zero =>
      intro i c h hc hx
      refine ev_succ ?_
      have h1 : ¬ ((i : Int) < (p.length : Int)) := by omega
      rw [← inv_of hp hc (fun j hj => hx j (by omega))]
      simp only [impl_InversePerm.l0, h1, if_false]
      exact Ev.now _
    | succ d ih =>
      intro i c h hc hx
      refine ev_succ ?_
      have hi : i < p.length := by omega
      have h1 : (i : Int) < (p.length : Int) := by omega
      have h2 : (0 : Int) ≤ (i : Int) := by omega
      have h3 := w64s i (by omega)
      have h4 : (0 : Int) ≤ ((g p i : Nat) : Int) := by omega
      have h5 : ((g p i : Nat) : Int) < (c.length : Int) := by have := g_lt hp hi; omega
      simp only [impl_InversePerm.l0, h1, h2, h3, h4, h5, rdI, I_len', I_set, if_true, Int.toNat_natCast]
      exact ih (i + 1) _ (by omega) (by rw [List.length_set]; exact hc) (inv_step hp hi hc hx)
  refine Ev.bind (impl_permOk (I p)) ?_
  have h0 : permB (I p) = true := permB_I.mpr ⟨hp, h24⟩
  have h1 : (0 : Int) ≤ (p.length : Int) := by omega
  have h2 : p.length ≤ 35184372088832 := by omega
  simp only [h0, I_len', h1, h2, if_true, Int.toNat_natCast]
  have := H p.length 0 (List.replicate p.length 0) (by omega) (by simp) (fun j hj => by omega)
  rw [I_rep] at this
  exact this
end Go.Proofs.Ytcggfjpnfodbaaa.M
end
section
/- Names from a square, and renaming: the program and the reference act alike. No conditions. -/
namespace Go.Proofs.Ytcggfjpnfodbaaa.M
set_option linter.unusedVariables false
set_option linter.unusedSimpArgs false
open Go.RowKit Go.Proofs.YtcggfjpnfodbaaaW.PrintWords Go.Proofs.YtcggfjpnfodbaaaW.PrintLast Go.Proofs.YtcggfjpnfodbaaaW.PrintMore Go.Proofs.Ytcggfjpnfodbaaa.A
theorem set_mid5 {α : Type} (p : List α) (x y : α) (xs : List α) : (p ++ x :: xs).set p.length y = p ++ y :: xs := by
  induction p with
  | nil => rfl
  | cons a p ih => simp [ih]
theorem isP_reach {r u : List Nat} (hs : Sf r u) {s : Nat} (h : s < r.length) : IsP (reach r u s) ∧ (reach r u s).length = r.length := by
  obtain ⟨h1, h2⟩ := reach_full hs h
  have l1 := h1.le
  have l2 := nodup_sub_len5 (List.range r.length) (reach r u s) List.nodup_range (fun x hx => h2 x (List.mem_range.mp hx))
  rw [List.length_range] at l2
  have hl : (reach r u s).length = r.length := by omega
  exact ⟨⟨fun x hx => by rw [hl]; exact h1.lt x hx, h1.nd⟩, hl⟩
def nm (r u : List Nat) (s : Nat) : List Nat := inv (reach r u s)
theorem isP_nm {r u : List Nat} (hs : Sf r u) {s : Nat} (h : s < r.length) : IsP (nm r u s) ∧ (nm r u s).length = r.length := by
  obtain ⟨h1, h2⟩ := isP_reach hs h
  exact ⟨isP_inv h1, by unfold nm; rw [inv_len, h2]⟩
theorem ren_of {p q c : List Nat} (hq : IsP q) (hl : q.length = p.length) (hc : c.length = p.length) (h : ∀ j, j < p.length → g c (g q j) = g q (g p j)) : c = ren p q := by
  refine ext_g (by rw [ren_len, hc]) (fun x hx => ?_)
  rw [hc] at hx
  rw [g_ren hx]
  have hx' : ix q x < q.length := ix_lt hq (by omega)
  have := h (ix q x) (by omega)
  rw [g_ix hq (by omega)] at this
  exact this
theorem ren_step {p q c : List Nat} (hq : IsP q) (hl : q.length = p.length) {i : Nat} (hi : i < p.length) (hc : c.length = p.length) (h : ∀ j, j < i → g c (g q j) = g q (g p j)) : ∀ j, j < i + 1 → g (c.set (g q i) (g q (g p i))) (g q j) = g q (g p j) := by
  intro j hj
  have hlt : g q i < c.length := by rw [hc, ← hl]; exact g_lt hq (by omega)
  rw [g_set hlt]
  by_cases e : j = i
  · subst e
    simp
  · rw [if_neg (fun k => e (g_inj hq (by omega) (by omega) k.symm))]
    exact h j (by omega)
theorem spec_ren {p q : List Nat} (hp : IsP p) (hq : IsP q) (hl : q.length = p.length) (h24 : p.length ≤ 24) : Ev (fun k => spec_l02Rename.f k (I p) (I q)) (I (ren p q)) := by
  unfold spec_l02Rename.f
  have H : ∀ (d i : Nat) (c : List Nat), i + d = p.length → c.length = p.length → (∀ j, j < i → g c (g q j) = g q (g p j)) → Ev (fun k => spec_l02Rename.l0 k (I q) (I c) (I p) (p.length : Int) (i : Int)) (I (ren p q)) := by
    intro d
    induction d with
    | zero =>
      intro i c h hc hx
      refine ev_succ ?_
      have h1 : ¬ ((i : Int) < (p.length : Int)) := by omega
      rw [← ren_of hq hl hc (fun j hj => hx j (by omega))]
      simp only [spec_l02Rename.l0, h1, if_false]
      exact Ev.now _
    | succ d ih =>
      intro i c h hc hx
      refine ev_succ ?_
      have hi : i < p.length := by omega
      have k1 := g_lt hp hi
      have k2 := g_lt hq (i := i) (by omega)
      have h1 : (i : Int) < (p.length : Int) := by omega
      have h2 : (0 : Int) ≤ (i : Int) := by omega
      have h4 : (i : Int) < (q.length : Int) := by omega
      have h5 : (0 : Int) ≤ ((g p i : Nat) : Int) := by omega
      have h6 : ((g p i : Nat) : Int) < (q.length : Int) := by omega
      have h7 : (0 : Int) ≤ ((g q i : Nat) : Int) := by omega
      have h8 : ((g q i : Nat) : Int) < (c.length : Int) := by omega
      have h3 := w64s i (by omega)
      simp only [spec_l02Rename.l0, h1, h2, h3, h4, h5, h6, h7, h8, rdI, I_len', I_set, if_true, Int.toNat_natCast]
      exact ih (i + 1) _ (by omega) (by rw [List.length_set]; exact hc) (ren_step hq hl hi hc hx)
  have h1 : (0 : Int) ≤ (p.length : Int) := by omega
  have h2 : p.length ≤ 35184372088832 := by omega
  simp only [I_len', h1, h2, if_true, Int.toNat_natCast]
  have := H p.length 0 (List.replicate p.length 0) (by omega) (by simp) (fun j hj => by omega)
  rw [I_rep] at this
  exact this
theorem impl_ren {p q : List Nat} (hp : IsP p) (hq : IsP q) (hl : q.length = p.length) (h24 : p.length ≤ 24) : Ev (fun k => impl_RenamePerm.f k (I p) (I q)) (I (ren p q)) := by
  unfold impl_RenamePerm.f
  have H : ∀ (d i : Nat) (c : List Nat), i + d = p.length → c.length = p.length → (∀ j, j < i → g c (g q j) = g q (g p j)) → Ev (fun k => impl_RenamePerm.l0 k (I q) (I c) (I p) (p.length : Int) (i : Int)) (I (ren p q)) := by
    intro d
    induction d with
    | zero =>
      intro i c h hc hx
      refine ev_succ ?_
      have h1 : ¬ ((i : Int) < (p.length : Int)) := by omega
      rw [← ren_of hq hl hc (fun j hj => hx j (by omega))]
      simp only [impl_RenamePerm.l0, h1, if_false]
      exact Ev.now _
    | succ d ih =>
      intro i c h hc hx
      refine ev_succ ?_
      have hi : i < p.length := by omega
      have k1 := g_lt hp hi
      have k2 := g_lt hq (i := i) (by omega)
      have h1 : (i : Int) < (p.length : Int) := by omega
      have h2 : (0 : Int) ≤ (i : Int) := by omega
      have h4 : (i : Int) < (q.length : Int) := by omega
      have h5 : (0 : Int) ≤ ((g p i : Nat) : Int) := by omega
      have h6 : ((g p i : Nat) : Int) < (q.length : Int) := by omega
      have h7 : (0 : Int) ≤ ((g q i : Nat) : Int) := by omega
      have h8 : ((g q i : Nat) : Int) < (c.length : Int) := by omega
      have h3 := w64s i (by omega)
      simp only [impl_RenamePerm.l0, h1, h2, h3, h4, h5, h6, h7, h8, rdI, I_len', I_set, if_true, Int.toNat_natCast]
      exact ih (i + 1) _ (by omega) (by rw [List.length_set]; exact hc) (ren_step hq hl hi hc hx)
  have b1 : permB (I p) = true := permB_I.mpr ⟨hp, h24⟩
  have b2 : permB (I q) = true := permB_I.mpr ⟨hq, by omega⟩
  refine Ev.bind (impl_permOk _) ?_
  simp only [b1, if_true]
  refine Ev.bind (impl_permOk _) ?_
  have e : ((p.length : Int) != (q.length : Int)) = false := by rw [bne_eq_false_iff_eq]; omega
  simp only [b2, I_len', e, if_true]
  refine ev_succ ?_
  have h1 : (0 : Int) ≤ (p.length : Int) := by omega
  have h2 : p.length ≤ 35184372088832 := by omega
  simp only [impl_RenamePerm.j0, I_len', h1, h2, Bool.false_eq_true, if_false, if_true, Int.toNat_natCast]
  have := H p.length 0 (List.replicate p.length 0) (by omega) (by simp) (fun j hj => by omega)
  rw [I_rep] at this
  exact this
def rnS (r u q : List Nat) : List Nat × List Nat := (ren r q, ren u q)
theorem spec_renS {r u q : List Nat} (hs : Sf r u) (hq : IsP q) (hl : q.length = r.length) : Ev (fun k => spec_l03Rename.f k (I r) (I u) (I q)) (I (rnS r u q).1, I (rnS r u q).2) := by
  unfold spec_l03Rename.f
  exact Ev.bind (spec_ren hs.pr hq hl hs.le) (Ev.bind (spec_ren hs.pu hq (by rw [hl, hs.eq]) (by rw [hs.eq]; exact hs.le)) (Ev.now _))
theorem impl_renS {r u q : List Nat} (hs : Sf r u) (hq : IsP q) (hl : q.length = r.length) : Ev (fun k => impl_RenameSurface.f k (I r) (I u) (I q)) (I (rnS r u q).1, I (rnS r u q).2, true) := by
  unfold impl_RenameSurface.f
  have h0 := surfB_I.mpr hs
  have hle := hs.le
  have b2 : permB (I q) = true := permB_I.mpr ⟨hq, by omega⟩
  refine Ev.bind (impl_surf _ _) ?_
  simp only [h0, if_true]
  refine Ev.bind (impl_permOk _) ?_
  have e : ((q.length : Int) != (r.length : Int)) = false := by rw [bne_eq_false_iff_eq]; omega
  simp only [b2, I_len', e, if_true]
  refine ev_succ ?_
  simp only [impl_RenameSurface.j0, Bool.false_eq_true, if_false]
  exact Ev.bind (impl_ren hs.pr hq hl hs.le) (Ev.bind (impl_ren hs.pu hq (by rw [hl, hs.eq]) (by rw [hs.eq]; exact hs.le)) (Ev.now _))
theorem spec_names {r u : List Nat} (hs : Sf r u) {s : Nat} (h : s < r.length) : Ev (fun k => spec_l03Names.f k (I r) (I u) (s : Int)) (I (nm r u s)) := by
  obtain ⟨h1, h2⟩ := isP_reach hs h
  unfold spec_l03Names.f
  exact Ev.bind (reach_ev hs.pr hs.pu hs.eq hs.le s h) (Ev.bind (spec_inv h1 (by rw [h2]; exact hs.le)) (Ev.now _))
def nmP (n : Nat) (out : List Nat) : List Int := (List.range n).map (fun x => if x ∈ out then ((out.idxOf x : Nat) : Int) else -1)
theorem nmP_len (n : Nat) (out : List Nat) : (nmP n out).length = n := by simp [nmP]
theorem rd_nmP {n : Nat} {out : List Nat} {x : Nat} (h : x < n) : rd (nmP n out) (x : Int) = if x ∈ out then ((out.idxOf x : Nat) : Int) else -1 := by
  rw [rd_get _ _ (by rw [nmP_len]; exact h)]
  simp [nmP]
theorem nmP_add {n : Nat} {out : List Nat} {x : Nat} (h : x < n) (hn : x ∉ out) : (nmP n out).set x (out.length : Int) = nmP n (out ++ [x]) := by
  refine ext_rd (by rw [List.length_set, nmP_len, nmP_len]) (fun i hi => ?_)
  rw [List.length_set, nmP_len] at hi
  rw [rd_set (by rw [nmP_len]; exact h), rd_nmP hi, rd_nmP hi]
  by_cases e : x = i
  · subst e
    have : x ∈ out ++ [x] := by simp
    rw [if_pos rfl, if_pos this, List.idxOf_append, if_neg hn]
    simp
  · rw [if_neg e]
    by_cases hm : i ∈ out
    · have : i ∈ out ++ [x] := by simp [hm]
      rw [if_pos hm, if_pos this, List.idxOf_append, if_pos hm]
    · have : i ∉ out ++ [x] := by simp [hm]; omega
      rw [if_neg hm, if_neg this]
theorem nmP_full {n : Nat} {out : List Nat} (hl : out.length = n) (h : ∀ x, x < n → x ∈ out) : nmP n out = I (inv out) := by
  refine ext_rd (by rw [nmP_len, I_len, inv_len, hl]) (fun i hi => ?_)
  rw [nmP_len] at hi
  rw [rd_nmP hi, if_pos (h i hi), rdI, g_inv (by omega)]
  rfl
theorem names_one {p q : List Nat} {out pr : List Nat} (a j : Nat) (hj : j < pr.length) (hpr : pr.length ≤ 2) (hl : out.length ≤ 1000) (hx : g pr j < p.length) (res : List Int)
    (H : Ev (fun k => impl_NamesFrom.l2 k (nmP p.length (st1 out (g pr j))) (I (st1 out (g pr j))) (a : Int) (I pr) (pr.length : Int) ((j + 1 : Nat) : Int) (I p) (I q)) res) :
    Ev (fun k => impl_NamesFrom.l2 k (nmP p.length out) (I out) (a : Int) (I pr) (pr.length : Int) (j : Int) (I p) (I q)) res := by
  refine ev_succ ?_
  have h1 : (j : Int) < (pr.length : Int) := by omega
  have h2 : (0 : Int) ≤ (j : Int) := by omega
  have h4 : (I out).length < 17592186044416 := by rw [I_len]; omega
  have h5 : (0 : Int) ≤ ((g pr j : Nat) : Int) := by omega
  have h6 : ((g pr j : Nat) : Int) < ((nmP p.length out).length : Int) := by rw [nmP_len]; omega
  have h7 : rd (nmP p.length out) ((g pr j : Nat) : Int) = if g pr j ∈ out then ((out.idxOf (g pr j) : Nat) : Int) else -1 := rd_nmP hx
  have h3 := w64s j (by omega)
  by_cases hin : g pr j ∈ out
  · have e : st1 out (g pr j) = out := by unfold st1; rw [if_pos hin]
    rw [e] at H
    rw [if_pos hin] at h7
    have h8 : ¬ (((out.idxOf (g pr j) : Nat) : Int) < 0) := by omega
    simp only [impl_NamesFrom.l2, h1, h2, h3, h5, h6, h7, h8, rdI, I_len', if_true, if_false]
    exact H
  · have e : st1 out (g pr j) = out ++ [g pr j] := by unfold st1; rw [if_neg hin]
    rw [e, ← nmP_add hx hin, ← I_snoc] at H
    rw [if_neg hin] at h7
    have h8 : (-1 : Int) < 0 := by omega
    simp only [impl_NamesFrom.l2, h1, h2, h3, h4, h5, h6, h7, h8, rdI, I_len', if_true, Int.toNat_natCast]
    exact H
theorem names_loop {p q : List Nat} (hp : IsP p) (hq : IsP q) (hl : q.length = p.length) (h24 : p.length ≤ 24) (f : Nat) : ∀ (a : Nat) (out : List Nat), RInv p.length out → a ≤ out.length → p.length < f + a →
    Ev (fun k => impl_NamesFrom.l1 k (nmP p.length out) (I out) (a : Int) (I p) (I q)) (nmP p.length (bfs p q f a out)) := by
  induction f with
  | zero =>
    intro a out hr ha hf
    have := hr.le
    omega
  | succ f ih =>
    intro a out hr ha hf
    have hle := hr.le
    refine ev_succ ?_
    by_cases h : a < out.length
    · have hx := hr.g h
      have hg1 := g_lt hp hx
      have hg2 : g q (g out a) < p.length := by have := g_lt hq (i := g out a) (by omega); omega
      have r1 := hr.st hg1
      have r2 := r1.st hg2
      have h1 : (a : Int) < (out.length : Int) := by omega
      have h2 : (0 : Int) ≤ (a : Int) := by omega
      have h3 : ((g out a : Nat) : Int) < (p.length : Int) := by omega
      have h4 : (0 : Int) ≤ ((g out a : Nat) : Int) := by omega
      have h5 : ((g out a : Nat) : Int) < (q.length : Int) := by omega
      have hb : bfs p q (f + 1) a out = bfs p q f (a + 1) (st1 (st1 out (g p (g out a))) (g q (g out a))) := by
        rw [bfs, if_pos h]
      rw [hb]
      have key := ih (a + 1) _ r2 (Nat.le_trans (by omega : a + 1 ≤ out.length) (Nat.le_trans (st1_len _ _) (st1_len _ _))) (by omega)
      have hq1 : a ≤ 9000000000000000000 := by omega
      have l1 := r1.le
      simp only [impl_NamesFrom.l1, h1, h2, h3, h4, h5, rdI, I_len', if_true, Option.bind_some, I_pair]
      refine names_one (q := q) a 0 (by simp) (by simp) (by omega) hg1 _ ?_
      refine names_one (q := q) a 1 (by simp) (by simp) (by simp only [g, List.getD_cons_zero] at l1 ⊢; omega) hg2 _ ?_
      refine ev_succ ?_
      have h7 : ¬ (((1 + 1 : Nat) : Int) < (([g p (g out a), g q (g out a)] : List Nat).length : Int)) := by simp
      have h6 := w64s a hq1
      simp only [impl_NamesFrom.l2, h7, h6, if_false]
      exact key
    · have h1 : ¬ ((a : Int) < (out.length : Int)) := by omega
      have hb : bfs p q (f + 1) a out = out := by rw [bfs, if_neg h]
      rw [hb]
      simp only [impl_NamesFrom.l1, h1, I_len', if_false]
      exact Ev.now _
theorem impl_names {r u : List Nat} (hs : Sf r u) {s : Nat} (h : s < r.length) : Ev (fun k => impl_NamesFrom.f k (I r) (I u) (s : Int)) (I (nm r u s)) := by
  have hle := hs.le
  have h0 := surfB_I.mpr hs
  obtain ⟨k1, k2⟩ := reach_full hs h
  obtain ⟨_, k3⟩ := isP_reach hs h
  have fin := names_loop hs.pr hs.pu hs.eq hs.le (r.length + 1) 0 [s] ⟨by simp, by simpa using h⟩ (by simp) (by omega)
  have e1 : bfs r u (r.length + 1) 0 [s] = reach r u s := rfl
  rw [e1, nmP_full k3 k2] at fin
  have H : ∀ d i : Nat, i + d = r.length → Ev (fun k => impl_NamesFrom.l0 k (s : Int) (List.replicate i (-1) ++ List.replicate d 0) (r.length : Int) (i : Int) (I r) (I u)) (I (nm r u s)) := by
    intro d
    induction d with
    | zero =>
      intro i hi
      obtain rfl : i = r.length := by omega
      refine ev_succ ?_
      have c1 : ¬ ((r.length : Int) < (r.length : Int)) := by omega
      have c2 : (0 : Int) ≤ (s : Int) := by omega
      have c3 : (s : Int) < (((List.replicate r.length (-1) ++ List.replicate 0 0 : List Int)).length : Int) := by simp; omega
      have c4 : (List.replicate r.length (-1) ++ List.replicate 0 0 : List Int).set ((s : Int)).toNat 0 = nmP r.length [s] := by
        refine ext_rd (by rw [List.length_set, nmP_len]; simp) (fun i hi => ?_)
        rw [List.length_set] at hi
        have hi' : i < r.length := by simpa using hi
        rw [Int.toNat_natCast, rd_set (by simp; exact h), rd_nmP hi']
        by_cases e : s = i
        · subst e
          simp
        · rw [if_neg e]
          have : i ∉ [s] := by simp; omega
          rw [if_neg this, rd_get _ _ hi]
          simp
      simp only [impl_NamesFrom.l0, c1, c2, c3, c4, if_true, if_false]
      exact fin
    | succ d ih =>
      intro i hi
      refine ev_succ ?_
      have c1 : (i : Int) < (r.length : Int) := by omega
      have c2 : (0 : Int) ≤ (i : Int) := by omega
      have c3 : (i : Int) < (((List.replicate i (-1) ++ List.replicate (d + 1) 0 : List Int)).length : Int) := by simp; omega
      have c4 : (List.replicate i (-1) ++ List.replicate (d + 1) 0 : List Int).set ((i : Int)).toNat (-1) = List.replicate (i + 1) (-1) ++ List.replicate d 0 := by
        have hm := set_mid5 (List.replicate i (-1 : Int)) 0 (-1) (List.replicate d 0)
        rw [List.length_replicate] at hm
        rw [Int.toNat_natCast, List.replicate_succ, hm, List.replicate_succ', List.append_assoc]
        rfl
      have c5 := w64s i (by omega)
      simp only [impl_NamesFrom.l0, c1, c2, c3, c4, c5, if_true]
      exact ih (i + 1) (by omega)
  unfold impl_NamesFrom.f
  refine Ev.bind (impl_surf _ _) ?_
  have n1 : ¬ ((s : Int) < 0) := by omega
  have n2 : decide ((s : Int) ≥ (r.length : Int)) = false := by rw [decide_eq_false_iff_not]; omega
  simp only [h0, n1, n2, I_len', if_true, if_false]
  refine ev_succ ?_
  have z1 : (0 : Int) ≤ (r.length : Int) := by omega
  have z2 : r.length ≤ 35184372088832 := by omega
  simp only [impl_NamesFrom.j0, Bool.false_eq_true, I_len', z1, z2, if_true, if_false, Int.toNat_natCast, Option.bind_some, List.length_replicate]
  have := H r.length 0 (Nat.zero_add _)
  simpa using this
end Go.Proofs.Ytcggfjpnfodbaaa.M
end
section
/- The canonical form: the program and the reference find the same one. No conditions. -/
namespace Go.Proofs.Ytcggfjpnfodbaaa.M
set_option linter.unusedVariables false
set_option linter.unusedSimpArgs false
open Go.RowKit Go.Proofs.YtcggfjpnfodbaaaW.PrintWords Go.Proofs.YtcggfjpnfodbaaaW.PrintLast Go.Proofs.YtcggfjpnfodbaaaW.PrintMore Go.Proofs.Ytcggfjpnfodbaaa.A
def lexC : List Nat → List Nat → Int
  | [], [] => 0
  | [], _ :: _ => -1
  | _ :: _, [] => 1
  | a :: l, b :: m => if a < b then -1 else if b < a then 1 else lexC l m
theorem cmp_ev (a b : Nat) : cmp_Compare_int.f (a : Int) (b : Int) = some (if a < b then -1 else if b < a then 1 else 0) := by
  unfold cmp_Compare_int.f cmp_isNaN_int.f
  simp only [bne_self_eq_false, Option.bind_some, Bool.false_eq_true, if_false]
  by_cases h1 : a < b
  · have : (a : Int) < (b : Int) := by omega
    simp only [h1, this, if_true]
  · have n1 : ¬ (a : Int) < (b : Int) := by omega
    by_cases h2 : b < a
    · have : (a : Int) > (b : Int) := by omega
      simp only [h1, n1, h2, this, if_true, if_false]
    · have n2 : ¬ (a : Int) > (b : Int) := by omega
      simp only [h1, n1, h2, n2, if_false]
theorem lexC_eq : ∀ (a b : List Nat), lexC a b = 0 ↔ a = b := by
  intro a
  induction a with
  | nil => intro b; cases b <;> simp [lexC]
  | cons x a ih =>
    intro b
    cases b with
    | nil => simp [lexC]
    | cons y b =>
      unfold lexC
      by_cases h1 : x < y
      · simp [h1]; omega
      · by_cases h2 : y < x
        · simp [h1, h2]; omega
        · have e : x = y := by omega
          subst e
          simp [h1, ih]
theorem compare_ev (a b : List Nat) (hl : a.length ≤ 1000000) : Ev (fun k => slices_Compare_int_int.f k (I a) (I b)) (lexC a b) := by
  unfold slices_Compare_int_int.f
  have H : ∀ d i : Nat, i + d = a.length → i ≤ b.length → Ev (fun k => slices_Compare_int_int.l0 k (I a) (I b) (I a) (a.length : Int) (i : Int)) (lexC (a.drop i) (b.drop i)) := by
    intro d
    induction d with
    | zero =>
      intro i hi hb
      refine ev_succ ?_
      have c1 : ¬ ((i : Int) < (a.length : Int)) := by omega
      rw [List.drop_of_length_le (l := a) (by omega)]
      simp only [slices_Compare_int_int.l0, c1, I_len', if_false]
      by_cases h : (a.length : Int) < (b.length : Int)
      · have : lexC [] (b.drop i) = -1 := by
          rw [List.drop_eq_getElem_cons (by omega)]
          rfl
        simp only [h, if_true, this]
        exact Ev.now _
      · have : lexC [] (b.drop i) = 0 := by
          rw [List.drop_of_length_le (by omega)]
          rfl
        simp only [h, if_false, this]
        exact Ev.now _
    | succ d ih =>
      intro i hi hb
      have hia : i < a.length := by omega
      rw [List.drop_eq_getElem_cons hia, ← g_get hia]
      have c1 : (i : Int) < (a.length : Int) := by omega
      have c2 : (0 : Int) ≤ (i : Int) := by omega
      have c3 := w64s i (by omega)
      refine ev_succ ?_
      by_cases h : i < b.length
      · rw [List.drop_eq_getElem_cons h, ← g_get h]
        have n1 : ¬ ((i : Int) ≥ (b.length : Int)) := by omega
        have n2 : (i : Int) < (b.length : Int) := by omega
        simp only [slices_Compare_int_int.l0, c1, c2, c3, n1, n2, I_len', rdI, cmp_ev, Option.bind_some, if_true, if_false]
        unfold lexC
        by_cases h1 : g a i < g b i
        · have z : ¬ ((-1 : Int) = 0) := by omega
          simp only [h1, z, if_true, if_false]
          exact Ev.now _
        · by_cases h2 : g b i < g a i
          · have z : ¬ ((1 : Int) = 0) := by omega
            simp only [h1, h2, z, if_true, if_false]
            exact Ev.now _
          · simp only [h1, h2, if_true, if_false]
            exact ih (i + 1) (by omega) (by omega)
      · have n1 : (i : Int) ≥ (b.length : Int) := by omega
        rw [List.drop_of_length_le (l := b) (by omega)]
        simp only [slices_Compare_int_int.l0, c1, c2, n1, I_len', if_true]
        exact Ev.now _
  have key := H a.length 0 (Nat.zero_add _) (Nat.zero_le _)
  rw [List.drop_zero, List.drop_zero] at key
  simp only [I_len']
  exact key
theorem less_ev (a b : List Nat) (hl : a.length ≤ 1000000) (he : b.length = a.length) : Ev (fun k => spec_l03Less.f k (I a) (I b)) (decide (lexC a b < 0)) := by
  unfold spec_l03Less.f
  have H : ∀ d i : Nat, i + d = a.length → Ev (fun k => spec_l03Less.l0 k (I b) (I a) (a.length : Int) (i : Int)) (decide (lexC (a.drop i) (b.drop i) < 0)) := by
    intro d
    induction d with
    | zero =>
      intro i hi
      refine ev_succ ?_
      have c1 : ¬ ((i : Int) < (a.length : Int)) := by omega
      rw [List.drop_of_length_le (l := a) (by omega), List.drop_of_length_le (l := b) (by omega)]
      simp only [spec_l03Less.l0, c1, if_false]
      exact Ev.now _
    | succ d ih =>
      intro i hi
      have hia : i < a.length := by omega
      have hib : i < b.length := by omega
      rw [List.drop_eq_getElem_cons hia, ← g_get hia, List.drop_eq_getElem_cons hib, ← g_get hib]
      have c1 : (i : Int) < (a.length : Int) := by omega
      have c2 : (0 : Int) ≤ (i : Int) := by omega
      have n2 : (i : Int) < (b.length : Int) := by omega
      have c3 := w64s i (by omega)
      refine ev_succ ?_
      simp only [spec_l03Less.l0, c1, c2, c3, n2, I_len', rdI, if_true]
      unfold lexC
      by_cases h1 : g a i < g b i
      · have z1 : ¬ (((g a i : Nat) : Int) = ((g b i : Nat) : Int)) := by omega
        have z2 : decide (((g a i : Nat) : Int) < ((g b i : Nat) : Int)) = true := by rw [decide_eq_true_iff]; omega
        have z3 : decide ((-1 : Int) < 0) = true := by decide
        simp only [h1, z1, z2, z3, if_true, if_false]
        exact Ev.now _
      · by_cases h2 : g b i < g a i
        · have z1 : ¬ (((g a i : Nat) : Int) = ((g b i : Nat) : Int)) := by omega
          have z2 : decide (((g a i : Nat) : Int) < ((g b i : Nat) : Int)) = false := by rw [decide_eq_false_iff_not]; omega
          have z3 : decide ((1 : Int) < 0) = false := by decide
          simp only [h1, h2, z1, z2, z3, if_true, if_false]
          exact Ev.now _
        · have z1 : ((g a i : Nat) : Int) = ((g b i : Nat) : Int) := by omega
          simp only [h1, h2, z1, if_true, if_false]
          exact ih (i + 1) (by omega)
  have key := H a.length 0 (Nat.zero_add _)
  rw [List.drop_zero, List.drop_zero] at key
  simp only [I_len']
  exact key
def cmpS (a b : List Nat × List Nat) : Int := if lexC a.1 b.1 = 0 then lexC a.2 b.2 else lexC a.1 b.1
theorem impl_cmpS (a b : List Nat × List Nat) (h1 : a.1.length ≤ 1000000) (h2 : a.2.length ≤ 1000000) : Ev (fun k => impl_compareSurfaces.f k (I a.1) (I a.2) (I b.1) (I b.2)) (cmpS a b) := by
  unfold impl_compareSurfaces.f cmpS
  refine Ev.bind (compare_ev a.1 b.1 h1) ?_
  by_cases h : lexC a.1 b.1 = 0
  · simp only [h, if_true]
    exact Ev.bind (compare_ev a.2 b.2 h2) (Ev.now _)
  · simp only [h, if_false]
    exact Ev.now _
theorem sameList_nat (a b : List Nat) (h : a.length ≤ 1000000000) : Ev (fun k => spec_SameList.f k (I a) (I b)) (decide (a = b)) := by
  unfold spec_SameList.f
  by_cases hl : (a.length : Int) = (b.length : Int)
  · have hl' : a.length = b.length := by omega
    simp only [I_len', hl, ne_eq, not_true_eq_false, if_false, if_true]
    have H : ∀ d i : Nat, i + d = a.length → Ev (fun k => spec_SameList.l0 k (I b) (I a) (b.length : Int) (i : Int)) (decide (a.drop i = b.drop i)) := by
      intro d
      induction d with
      | zero =>
        intro i hi
        refine ev_succ ?_
        have c1 : ¬ ((i : Int) < (b.length : Int)) := by omega
        have e : decide (a.drop i = b.drop i) = true := by rw [List.drop_of_length_le (by omega), List.drop_of_length_le (by omega)]; simp
        simp only [spec_SameList.l0, c1, if_false, e]
        exact Ev.now _
      | succ d ih =>
        intro i hi
        have hia : i < a.length := by omega
        have hib : i < b.length := by omega
        rw [List.drop_eq_getElem_cons hia, ← g_get hia, List.drop_eq_getElem_cons hib, ← g_get hib]
        have c1 : (i : Int) < (b.length : Int) := by omega
        have c2 : (0 : Int) ≤ (i : Int) := by omega
        have c4 : (i : Int) < (a.length : Int) := by omega
        have c3 := w64s i (by omega)
        refine ev_succ ?_
        by_cases he : g a i = g b i
        · have z : ((g a i : Nat) : Int) = ((g b i : Nat) : Int) := by omega
          have e : decide (g a i :: a.drop (i + 1) = g b i :: b.drop (i + 1)) = decide (a.drop (i + 1) = b.drop (i + 1)) := by simp [he]
          rw [e]
          simp only [spec_SameList.l0, c1, c2, c3, c4, I_len', rdI, z, if_true]
          exact ih (i + 1) (by omega)
        · have z : ¬ (((g a i : Nat) : Int) = ((g b i : Nat) : Int)) := by omega
          have e : decide (g a i :: a.drop (i + 1) = g b i :: b.drop (i + 1)) = false := by simp [he]
          rw [e]
          simp only [spec_SameList.l0, c1, c2, c4, I_len', rdI, z, if_true, if_false]
          exact Ev.now _
    have key := H a.length 0 (Nat.zero_add _)
    rw [List.drop_zero, List.drop_zero] at key
    exact key
  · have e : decide (a = b) = false := by
      rw [decide_eq_false_iff_not]
      intro e
      rw [e] at hl
      exact hl rfl
    simp only [I_len', hl, ne_eq, not_false_eq_true, if_true, if_false, e]
    exact Ev.now _
theorem spec_before (a b : List Nat × List Nat) (h1 : a.1.length ≤ 1000000) (h2 : a.2.length ≤ 1000000) (e1 : b.1.length = a.1.length) (e2 : b.2.length = a.2.length) : Ev (fun k => spec_l03Before.f k (I a.1) (I a.2) (I b.1) (I b.2)) (decide (cmpS a b < 0)) := by
  unfold spec_l03Before.f cmpS
  refine Ev.bind (sameList_nat a.1 b.1 (by omega)) ?_
  by_cases h : a.1 = b.1
  · have z := (lexC_eq a.1 b.1).mpr h
    rw [z]
    simp only [h, decide_true, if_true]
    exact Ev.bind (less_ev a.2 b.2 h2 e2) (Ev.now _)
  · have z : ¬ lexC a.1 b.1 = 0 := fun k => h ((lexC_eq _ _).mp k)
    simp only [h, z, decide_false, Bool.false_eq_true, if_false]
    exact Ev.bind (less_ev a.1 b.1 h1 e1) (Ev.now _)
def rS (r u : List Nat) (s : Nat) : List Nat × List Nat := rnS r u (nm r u s)
theorem rS_len {r u : List Nat} (s : Nat) : (rS r u s).1.length = r.length ∧ (rS r u s).2.length = u.length := ⟨ren_len _ _, ren_len _ _⟩
def canK (r u : List Nat) : Nat → List Nat × List Nat
  | 0 => rS r u 0
  | k + 1 => if cmpS (rS r u (k + 1)) (canK r u k) < 0 then rS r u (k + 1) else canK r u k
theorem canK_len {r u : List Nat} (k : Nat) : (canK r u k).1.length = r.length ∧ (canK r u k).2.length = u.length := by
  induction k with
  | zero => exact rS_len 0
  | succ k ih =>
    unfold canK
    split
    · exact rS_len _
    · exact ih
def canS (r u : List Nat) : List Nat × List Nat := canK r u (r.length - 1)
theorem spec_canon {r u : List Nat} (hs : Sf r u) : Ev (fun k => spec_l03Canon.f k (I r) (I u)) (I (canS r u).1, I (canS r u).2) := by
  have hle := hs.le
  have heq := hs.eq
  have hpos := hs.pos
  unfold spec_l03Canon.f
  have e0 := spec_names hs hpos
  have q0 := isP_nm hs hpos
  refine Ev.bind e0 (Ev.bind (spec_renS hs q0.1 q0.2) ?_)
  have H : ∀ d i : Nat, i + 1 + d = r.length → Ev (fun k => spec_l03Canon.l0 k ((i + 1 : Nat) : Int) (I r) (I u) (I (canK r u i).1) (I (canK r u i).2)) (I (canS r u).1, I (canS r u).2) := by
    intro d
    induction d with
    | zero =>
      intro i hi
      refine ev_succ ?_
      have c1 : ¬ (((i + 1 : Nat) : Int) < (r.length : Int)) := by omega
      have e : canS r u = canK r u i := by
        unfold canS
        congr 1
        omega
      rw [e]
      simp only [spec_l03Canon.l0, c1, I_len', if_false]
      exact Ev.now _
    | succ d ih =>
      intro i hi
      have hi1 : i + 1 < r.length := by omega
      have q1 := isP_nm hs hi1
      have c1 : ((i + 1 : Nat) : Int) < (r.length : Int) := by omega
      have c3 := w64s (i + 1) (by omega)
      have lk := canK_len (r := r) (u := u) i
      have lr := rS_len (r := r) (u := u) (i + 1)
      refine ev_succ ?_
      simp only [spec_l03Canon.l0, c1, c3, I_len', if_true]
      refine Ev.bind (spec_names hs hi1) (Ev.bind (spec_renS hs q1.1 q1.2) ?_)
      refine Ev.bind (spec_before (rS r u (i + 1)) (canK r u i) (by rw [lr.1]; omega) (by rw [lr.2]; omega) (by rw [lr.1, lk.1]) (by rw [lr.2, lk.2])) ?_
      have key := ih (i + 1) (by omega)
      unfold canK at key
      by_cases h : cmpS (rS r u (i + 1)) (canK r u i) < 0
      · rw [if_pos h] at key
        simp only [h, decide_true, if_true]
        exact key
      · rw [if_neg h] at key
        simp only [h, decide_false, Bool.false_eq_true, if_false]
        exact key
  have key := H (r.length - 1) 0 (by omega)
  exact key
def namedL (r u : List Nat) (n : Nat) : List S25 := (List.range n).map (fun s => (⟨I (rS r u s).1, I (rS r u s).2⟩ : S25))
theorem namedL_len (r u : List Nat) (n : Nat) : (namedL r u n).length = n := by simp [namedL]
theorem rd_named {r u : List Nat} {n i : Nat} (h : i < n) : rd_T25 (namedL r u n) (i : Int) = ⟨I (rS r u i).1, I (rS r u i).2⟩ := by
  unfold rd_T25 namedL
  simp [List.getD_eq_getElem?_getD, h]
theorem count_sq {r u : List Nat} (hs : Sf r u) : Ev (fun k => impl_CountSquares.f k (I r) (I u)) (r.length : Int) := by
  unfold impl_CountSquares.f
  refine Ev.bind (impl_surf _ _) ?_
  have h0 := surfB_I.mpr hs
  simp only [h0, I_len', if_true]
  exact Ev.now _
theorem impl_named {r u : List Nat} (hs : Sf r u) : Ev (fun k => impl_namedFrom.f k (I r) (I u)) (namedL r u r.length) := by
  have hle := hs.le
  unfold impl_namedFrom.f
  have H : ∀ d i : Nat, i + d = r.length → Ev (fun k => impl_namedFrom.l0 k (namedL r u i) (i : Int) (I r) (I u)) (namedL r u r.length) := by
    intro d
    induction d with
    | zero =>
      intro i hi
      obtain rfl : i = r.length := by omega
      refine ev_succ ?_
      simp only [impl_namedFrom.l0]
      refine Ev.bind (count_sq hs) ?_
      have c1 : ¬ ((r.length : Int) < (r.length : Int)) := by omega
      simp only [c1, if_false]
      exact Ev.now _
    | succ d ih =>
      intro i hi
      have hil : i < r.length := by omega
      have q1 := isP_nm hs hil
      refine ev_succ ?_
      simp only [impl_namedFrom.l0]
      refine Ev.bind (count_sq hs) ?_
      have c1 : (i : Int) < (r.length : Int) := by omega
      have c2 : (namedL r u i).length < 2932031007402 := by rw [namedL_len]; omega
      have c3 := w64s i (by omega)
      simp only [c1, if_true]
      refine Ev.bind (impl_names hs hil) (Ev.bind (impl_renS hs q1.1 q1.2) ?_)
      have e : namedL r u i ++ [(⟨I (rnS r u (nm r u i)).1, I (rnS r u (nm r u i)).2⟩ : S25)] = namedL r u (i + 1) := by
        unfold namedL
        rw [List.range_succ, List.map_append]
        rfl
      simp only [c2, c3, e, if_true]
      exact ih (i + 1) (by omega)
  exact H r.length 0 (Nat.zero_add _)
theorem impl_canon {r u : List Nat} (hs : Sf r u) : Ev (fun k => impl_CanonOf.f k (I r) (I u)) (I (canS r u).1, I (canS r u).2, true) := by
  have hle := hs.le
  have heq := hs.eq
  have hpos := hs.pos
  unfold impl_CanonOf.f
  refine Ev.bind (impl_named hs) ?_
  have c0 : ¬ ((r.length : Int) = 0) := by omega
  simp only [namedL_len, c0, if_false]
  refine Ev.bind (a := (I (canS r u).1, I (canS r u).2)) ?_ (Ev.now _)
  unfold impl_Surface_76.f
  have c1 : ¬ ((r.length : Int) < 1) := by omega
  have c2 : (0 : Int) < (r.length : Int) := by omega
  have e0 : rd_T25 (namedL r u r.length) 0 = ⟨I (canK r u 0).1, I (canK r u 0).2⟩ := rd_named hpos
  simp only [namedL_len, c1, c2, e0, if_true, if_false]
  have H : ∀ d i : Nat, i + 1 + d = r.length → Ev (fun k => impl_Surface_76.l0 k (namedL r u r.length) ((i + 1 : Nat) : Int) (I (canK r u i).1) (I (canK r u i).2)) (I (canS r u).1, I (canS r u).2) := by
    intro d
    induction d with
    | zero =>
      intro i hi
      refine ev_succ ?_
      have c1 : ¬ (((i + 1 : Nat) : Int) < (r.length : Int)) := by omega
      have e : canS r u = canK r u i := by
        unfold canS
        congr 1
        omega
      rw [e]
      simp only [impl_Surface_76.l0, c1, namedL_len, if_false]
      exact Ev.now _
    | succ d ih =>
      intro i hi
      have hi1 : i + 1 < r.length := by omega
      have c1 : ((i + 1 : Nat) : Int) < (r.length : Int) := by omega
      have c2 : (0 : Int) ≤ ((i + 1 : Nat) : Int) := by omega
      have c4 : rd_T25 (namedL r u r.length) ((i + 1 : Nat) : Int) = ⟨I (rS r u (i + 1)).1, I (rS r u (i + 1)).2⟩ := rd_named hi1
      have c3 := w64s (i + 1) (by omega)
      have lr := rS_len (r := r) (u := u) (i + 1)
      refine ev_succ ?_
      simp only [impl_Surface_76.l0, c1, c2, c3, c4, namedL_len, if_true]
      refine Ev.bind (impl_cmpS (rS r u (i + 1)) (canK r u i) (by rw [lr.1]; omega) (by rw [lr.2]; omega)) ?_
      have key := ih (i + 1) (by omega)
      unfold canK at key
      by_cases h : cmpS (rS r u (i + 1)) (canK r u i) < 0
      · rw [if_pos h] at key
        simp only [h, if_true]
        exact key
      · rw [if_neg h] at key
        simp only [h, if_false]
        exact key
  exact H (r.length - 1) 0 (by omega)
theorem impl_canon_no {r u : List Int} (h : ¬ surfB r u = true) : Ev (fun k => impl_CanonOf.f k r u) ([], [], false) := by
  have h' := Bool.eq_false_iff.mpr h
  unfold impl_CanonOf.f
  refine Ev.bind (a := ([] : List S25)) ?_ ?_
  · unfold impl_namedFrom.f
    refine ev_succ ?_
    simp only [impl_namedFrom.l0]
    refine Ev.bind (a := (0 : Int)) ?_ ?_
    · unfold impl_CountSquares.f
      refine Ev.bind (impl_surf _ _) ?_
      simp only [h', Bool.false_eq_true, if_false]
      exact Ev.now _
    · have c1 : ¬ ((0 : Int) < 0) := by omega
      simp only [c1, if_false]
      exact Ev.now _
  · simp only [List.length_nil]
    exact Ev.now _
theorem equal_ev (a b : List Nat) (h : a.length ≤ 1000000000) : Ev (fun k => impl_SameList.f k (I a) (I b)) (decide (a = b)) := by
  unfold impl_SameList.f slices_Equal_int_int.f
  refine Ev.bind (a := decide (a = b)) ?_ (Ev.now _)
  by_cases hl : (a.length : Int) = (b.length : Int)
  · have hl' : a.length = b.length := by omega
    simp only [I_len', hl, if_true]
    have H : ∀ d i : Nat, i + d = a.length → Ev (fun k => slices_Equal_int_int.l0 k (I a) (I b) (b.length : Int) (i : Int)) (decide (a.drop i = b.drop i)) := by
      intro d
      induction d with
      | zero =>
        intro i hi
        refine ev_succ ?_
        have c1 : ¬ ((i : Int) < (b.length : Int)) := by omega
        have e : decide (a.drop i = b.drop i) = true := by rw [List.drop_of_length_le (by omega), List.drop_of_length_le (by omega)]; simp
        simp only [slices_Equal_int_int.l0, c1, if_false, e]
        exact Ev.now _
      | succ d ih =>
        intro i hi
        have hia : i < a.length := by omega
        have hib : i < b.length := by omega
        rw [List.drop_eq_getElem_cons hia, ← g_get hia, List.drop_eq_getElem_cons hib, ← g_get hib]
        have c1 : (i : Int) < (b.length : Int) := by omega
        have c2 : (0 : Int) ≤ (i : Int) := by omega
        have c4 : (i : Int) < (a.length : Int) := by omega
        have c3 := w64s i (by omega)
        refine ev_succ ?_
        by_cases he : g a i = g b i
        · have z : ((g a i : Nat) : Int) = ((g b i : Nat) : Int) := by omega
          have e : decide (g a i :: a.drop (i + 1) = g b i :: b.drop (i + 1)) = decide (a.drop (i + 1) = b.drop (i + 1)) := by simp [he]
          rw [e]
          simp only [slices_Equal_int_int.l0, c1, c2, c3, c4, I_len', rdI, z, if_true]
          exact ih (i + 1) (by omega)
        · have z : ¬ (((g a i : Nat) : Int) = ((g b i : Nat) : Int)) := by omega
          have e : decide (g a i :: a.drop (i + 1) = g b i :: b.drop (i + 1)) = false := by simp [he]
          rw [e]
          simp only [slices_Equal_int_int.l0, c1, c2, c4, I_len', rdI, z, if_true, if_false]
          exact Ev.now _
    have key := H a.length 0 (Nat.zero_add _)
    rw [List.drop_zero, List.drop_zero] at key
    exact key
  · have e : decide (a = b) = false := by
      rw [decide_eq_false_iff_not]
      intro e
      rw [e] at hl
      exact hl rfl
    simp only [I_len', hl, if_false, e]
    exact Ev.now _
end Go.Proofs.Ytcggfjpnfodbaaa.M
end
section
/- The canonical form tells which surfaces are alike. No conditions. -/
namespace Go.Proofs.Ytcggfjpnfodbaaa.M
set_option linter.unusedVariables false
set_option linter.unusedSimpArgs false
theorem is_rS {s : List Nat × List Nat} (hs : Sf s.1 s.2) {i : Nat} (hi : i < s.1.length) : Is s (rS s.1 s.2 i) (g (nm s.1 s.2 i)) := by
  obtain ⟨p, l⟩ := isP_nm hs hi
  refine ⟨(rS_len i).1, fun x hx => ?_, fun x y hx hy e => g_inj p (by rw [l]; exact hx) (by rw [l]; exact hy) e, fun x hx => ?_, fun x hx => ?_⟩
  · have := g_lt p (i := x) (by rw [l]; exact hx)
    rw [l] at this
    exact this
  · have h1 := g_lt p (i := x) (by rw [l]; exact hx)
    rw [l] at h1
    show _ = g (ren s.1 (nm s.1 s.2 i)) _
    rw [g_ren h1, ix_g p (by rw [l]; exact hx)]
  · have h1 := g_lt p (i := x) (by rw [l]; exact hx)
    rw [l] at h1
    show _ = g (ren s.2 (nm s.1 s.2 i)) _
    rw [g_ren (by rw [hs.eq]; exact h1), ix_g p (by rw [l]; exact hx)]
theorem sf_rS {s : List Nat × List Nat} (hs : Sf s.1 s.2) {i : Nat} (hi : i < s.1.length) : Sf (rS s.1 s.2 i).1 (rS s.1 s.2 i).2 := by
  obtain ⟨p, l⟩ := isP_nm hs hi
  have h := rS_len (r := s.1) (u := s.2) i
  exact hs.of_is (is_rS hs hi) (isP_ren hs.pr p l.symm) (isP_ren hs.pu p (by rw [l, hs.eq])) (by rw [h.1, h.2, hs.eq])
theorem canK_at (r u : List Nat) : ∀ k, ∃ i, i ≤ k ∧ canK r u k = rS r u i := by
  intro k
  induction k with
  | zero => exact ⟨0, Nat.le_refl _, rfl⟩
  | succ k ih =>
    obtain ⟨i, hi, e⟩ := ih
    unfold canK
    split
    · exact ⟨k + 1, Nat.le_refl _, rfl⟩
    · exact ⟨i, by omega, e⟩
theorem canS_at {r u : List Nat} (hs : Sf r u) : ∃ i, i < r.length ∧ canS r u = rS r u i := by
  obtain ⟨i, hi, e⟩ := canK_at r u (r.length - 1)
  have := hs.pos
  exact ⟨i, by omega, e⟩
theorem sf_canS {s : List Nat × List Nat} (hs : Sf s.1 s.2) : Sf (canS s.1 s.2).1 (canS s.1 s.2).2 := by
  obtain ⟨i, hi, e⟩ := canS_at hs
  rw [e]
  exact sf_rS hs hi
end Go.Proofs.Ytcggfjpnfodbaaa.M
end
section
/- Marks that laws lay and look for. No conditions. -/
namespace Go.Proofs.Ytcggfjpnfodbaaa.M
set_option linter.unusedVariables false
set_option linter.unusedSimpArgs false
open Go.RowKit Go.Proofs.YtcggfjpnfodbaaaW.PrintWords Go.Proofs.YtcggfjpnfodbaaaW.PrintLast Go.Proofs.YtcggfjpnfodbaaaW.PrintMore Go.Proofs.Ytcggfjpnfodbaaa.A
def markL (n : Nat) (a : Int) : List Int := (List.range n).map (fun (i : Nat) => a + (i : Int))
theorem markL_len (n : Nat) (a : Int) : (markL n a).length = n := by simp [markL]
theorem rd_markL {n i : Nat} {a : Int} (h : i < n) : rd (markL n a) (i : Int) = a + (i : Int) := by
  rw [rd_get _ i (by rw [markL_len]; exact h)]
  simp [markL]
theorem w64a (a : Int) (i : Nat) (h0 : 0 ≤ a) (h : a + (i : Int) ≤ 9000000000000000000) : wrap64 (a + (i : Int) + 1) = a + ((i + 1 : Nat) : Int) := by rw [w64 (by omega) (by omega)]; omega
theorem mark_ev (l : List Int) (a : Int) (h0 : 0 ≤ a) (h : a + (l.length : Int) ≤ 9000000000000000000) : Ev (fun k => laws_markIntS.f k l a) (a + (l.length : Int), markL l.length a) := by
  unfold laws_markIntS.f
  have H : ∀ (d i : Nat) (c : List Int), i + d = l.length → c.length = l.length → (∀ j : Nat, j < i → rd c (j : Int) = a + (j : Int)) → Ev (fun k => laws_markIntS.l0 k c (a + (i : Int)) (i : Int)) (a + (l.length : Int), markL l.length a) := by
    intro d
    induction d with
    | zero =>
      intro i c hi hc hx
      refine ev_succ ?_
      have h1 : ¬ ((i : Int) < (c.length : Int)) := by omega
      have e : c = markL l.length a := ext_rd (by rw [markL_len]; exact hc) (fun j hj => by rw [hx j (by omega), rd_markL (by omega)])
      have e2 : i = l.length := by omega
      simp only [laws_markIntS.l0, h1, if_false]
      rw [e, e2]
      exact Ev.now _
    | succ d ih =>
      intro i c hi hc hx
      refine ev_succ ?_
      have h1 : (i : Int) < (c.length : Int) := by omega
      have h2 : (0 : Int) ≤ (i : Int) := by omega
      have h3 := w64s i (by omega)
      have h4 := w64a a i h0 (by omega)
      simp only [laws_markIntS.l0, h1, h2, h3, h4, if_true, Int.toNat_natCast]
      refine ih (i + 1) _ (by omega) (by rw [List.length_set]; exact hc) (fun j hj => ?_)
      rw [rd_set (by omega)]
      by_cases e : i = j
      · subst e
        simp
      · rw [if_neg e]
        exact hx j (by omega)
  have := H l.length 0 l (by omega) rfl (fun j hj => by omega)
  simpa using this
theorem held_ev (n : Nat) (a : Int) (h0 : 0 ≤ a) (h : a + (n : Int) ≤ 9000000000000000000) : Ev (fun k => laws_heldIntS.f k (markL n a) a) (a + (n : Int)) := by
  unfold laws_heldIntS.f
  have H : ∀ d i : Nat, i + d = n → Ev (fun k => laws_heldIntS.l0 k (markL n a) (a + (i : Int)) (i : Int)) (a + (n : Int)) := by
    intro d
    induction d with
    | zero =>
      intro i hi
      obtain rfl : i = n := by omega
      refine ev_succ ?_
      have h1 : ¬ ((i : Int) < ((markL i a).length : Int)) := by rw [markL_len]; omega
      simp only [laws_heldIntS.l0, h1, if_false]
      exact Ev.now _
    | succ d ih =>
      intro i hi
      refine ev_succ ?_
      have h1 : (i : Int) < ((markL n a).length : Int) := by rw [markL_len]; omega
      have h2 : (0 : Int) ≤ (i : Int) := by omega
      have h3 := w64s i (by omega)
      have h4 := w64a a i h0 (by omega)
      have h5 := rd_markL (n := n) (i := i) (a := a) (by omega)
      simp only [laws_heldIntS.l0, h1, h2, h3, h4, h5, if_true]
      exact ih (i + 1) (by omega)
  have := H n 0 (by omega)
  simpa using this
theorem markSurf_ev (r u : List Int) (h : r.length + u.length ≤ 1048576) : Ev (fun k => laws_markSurface.f k r u 1) (1 + (r.length : Int) + (u.length : Int), markL r.length 1, markL u.length (1 + (r.length : Int))) := by
  unfold laws_markSurface.f
  refine Ev.bind (mark_ev r 1 (by omega) (by omega)) ?_
  refine Ev.bind (mark_ev u (1 + (r.length : Int)) (by omega) (by omega)) ?_
  exact Ev.now _
end Go.Proofs.Ytcggfjpnfodbaaa.M
end
section
/- Marks on lists of lists. No conditions. -/
namespace Go.Proofs.Ytcggfjpnfodbaaa.M
set_option linter.unusedVariables false
set_option linter.unusedSimpArgs false
open Go.RowKit Go.Proofs.YtcggfjpnfodbaaaW.PrintWords Go.Proofs.YtcggfjpnfodbaaaW.PrintLast Go.Proofs.YtcggfjpnfodbaaaW.PrintMore Go.Proofs.Ytcggfjpnfodbaaa.A
theorem set_mid {α : Type} (p : List α) (x y : α) (xs : List α) : (p ++ x :: xs).set p.length y = p ++ y :: xs := by
  rw [List.set_append_right _ _ (Nat.le_refl _)]
  simp
end Go.Proofs.Ytcggfjpnfodbaaa.M
end
section
/- One round about a corner; first places in lists. No conditions. -/
namespace Go.Proofs.Ytcggfjpnfodbaaa.M
set_option linter.unusedVariables false
set_option linter.unusedSimpArgs false
open Go.RowKit Go.Proofs.YtcggfjpnfodbaaaW.PrintWords Go.Proofs.YtcggfjpnfodbaaaW.PrintLast Go.Proofs.YtcggfjpnfodbaaaW.PrintMore Go.Proofs.Ytcggfjpnfodbaaa.A
theorem impl_then {p q : List Nat} (hp : IsP p) (hq : IsP q) (hl : p.length = q.length) (h24 : p.length ≤ 24) : Ev (fun k => impl_ThenPerm.f k (I p) (I q)) (I (thn p q)) := by
  unfold impl_ThenPerm.f
  refine Ev.bind (impl_permOk (I p)) ?_
  have e1 : permB (I p) = true := permB_I.mpr ⟨hp, h24⟩
  have e2 : permB (I q) = true := permB_I.mpr ⟨hq, by omega⟩
  simp only [e1, if_true]
  refine Ev.bind (impl_permOk (I q)) ?_
  have e3 : ((p.length : Int) != (q.length : Int)) = false := by simp [hl]
  simp only [e2, if_true, I_len', e3]
  refine ev_succ ?_
  have h1 : (0 : Int) ≤ (p.length : Int) := by omega
  have h2 : p.length ≤ 35184372088832 := by omega
  simp only [impl_ThenPerm.j0, Bool.false_eq_true, if_false, I_len', h1, h2, if_true, Int.toNat_natCast]
  have H : ∀ (d i : Nat) (c : List Nat), i + d = p.length → c.length = p.length → (∀ j, j < i → g c j = g q (g p j)) → Ev (fun k => impl_ThenPerm.l0 k (I q) (I c) (I p) (p.length : Int) (i : Int)) (I (thn p q)) := by
    intro d
    induction d with
    | zero =>
      intro i c h hc hx
      refine ev_succ ?_
      have h1 : ¬ ((i : Int) < (p.length : Int)) := by omega
      have e : thn p q = c := by
        refine (eq_tab hc (fun j hj => hx j (by omega))).symm
      simp only [impl_ThenPerm.l0, h1, if_false]
      rw [e]
      exact Ev.now _
    | succ d ih =>
      intro i c h hc hx
      refine ev_succ ?_
      have hi : i < p.length := by omega
      have gp := g_lt hp hi
      have c1 : (i : Int) < (p.length : Int) := by omega
      have c2 : (0 : Int) ≤ (i : Int) := by omega
      have c3 : (0 : Int) ≤ ((g p i : Nat) : Int) := by omega
      have c4 : ((g p i : Nat) : Int) < (q.length : Int) := by omega
      have c5 : (i : Int) < (c.length : Int) := by omega
      have h3 := w64s i (by omega)
      simp only [impl_ThenPerm.l0, c1, c2, c3, c4, c5, h3, rdI, I_len', I_set, if_true, Int.toNat_natCast]
      refine ih (i + 1) _ (by omega) (by rw [List.length_set]; exact hc) (fun j hj => ?_)
      rw [g_set (by omega)]
      by_cases e : i = j
      · subst e
        simp
      · rw [if_neg e]
        exact hx j (by omega)
  have := H p.length 0 (List.replicate p.length 0) (by omega) (by simp) (fun j hj => by omega)
  rw [I_rep] at this
  exact this
end Go.Proofs.Ytcggfjpnfodbaaa.M
end
section
/- Slopes and paths: the program and the reference answer alike. No conditions. -/
namespace Go.Proofs.Ytcggfjpnfodbaaa.M
set_option linter.unusedVariables false
set_option linter.unusedSimpArgs false
open Go.RowKit Go.Proofs.YtcggfjpnfodbaaaW.PrintWords Go.Proofs.YtcggfjpnfodbaaaW.PrintLast Go.Proofs.YtcggfjpnfodbaaaW.PrintMore Go.Proofs.Ytcggfjpnfodbaaa.A
theorem tab_snoc (i : Nat) (f : Nat → Nat) : tab i f ++ [f i] = tab (i + 1) f := by unfold tab; rw [List.range_succ]; simp
theorem spec_then {p q : List Nat} (hp : ∀ i, i < p.length → g p i < q.length) (h : p.length ≤ 1000) : Ev (fun k => spec_l02Then.f k (I p) (I q)) (I (thn p q)) := by
  unfold spec_l02Then.f
  have H : ∀ d i : Nat, i + d = p.length → Ev (fun k => spec_l02Then.l0 k (I q) (I (tab i (fun i => g q (g p i)))) (I p) (p.length : Int) (i : Int)) (I (thn p q)) := by
    intro d
    induction d with
    | zero =>
      intro i h
      obtain rfl : i = p.length := by omega
      refine ev_succ ?_
      have h1 : ¬ ((p.length : Int) < (p.length : Int)) := by omega
      simp only [spec_l02Then.l0, h1, if_false]
      exact Ev.now _
    | succ d ih =>
      intro i h
      have hi : i < p.length := by omega
      have hg := hp i hi
      refine ev_succ ?_
      have h1 : (i : Int) < (p.length : Int) := by omega
      have h2 := w64s i (by omega)
      have h3 : (I (tab i (fun i => g q (g p i)))).length < 17592186044416 := by rw [I_len, tab_len]; omega
      have h4 : (0 : Int) ≤ (i : Int) := by omega
      have h5 : (0 : Int) ≤ ((g p i : Nat) : Int) := by omega
      have h6 : ((g p i : Nat) : Int) < (q.length : Int) := by omega
      have e := tab_snoc i (fun i => g q (g p i))
      simp only [spec_l02Then.l0, h1, h2, h3, h4, h5, h6, rdI, I_len', if_true, I_snoc, e]
      exact ih (i + 1) (by omega)
  have := H p.length 0 (by omega)
  simp only [I_len']
  exact this
def wk (r u : List Nat) (w : ByteArray) : Nat → Nat → Nat
  | 0, x => x
  | j + 1, x => if bt w (j : Int) = 114 then g r (wk r u w j x) else g u (wk r u w j x)
end Go.Proofs.Ytcggfjpnfodbaaa.M
end
section
/- Words of letters: the program and the reference act alike. No conditions. -/
namespace Go.Proofs.Ytcggfjpnfodbaaa.M
set_option linter.unusedVariables false
set_option linter.unusedSimpArgs false
open Go.RowKit Go.Proofs.YtcggfjpnfodbaaaW.PrintWords Go.Proofs.YtcggfjpnfodbaaaW.PrintLast Go.Proofs.YtcggfjpnfodbaaaW.PrintMore Go.Proofs.Ytcggfjpnfodbaaa.A
def lt (c : Int) (s : List Nat × List Nat) : List Nat × List Nat := if c = 84 then (s.1, thn (inv s.1) s.2) else if c = 116 then (s.1, thn s.1 s.2) else if c = 83 then (inv s.2, s.1) else (s.2, inv s.1)
theorem sf_lt {s : List Nat × List Nat} (hs : Sf s.1 s.2) (c : Int) : Sf (lt c s).1 (lt c s).2 ∧ (lt c s).1.length = s.1.length := by
  unfold lt
  split
  · exact ⟨sf_T hs, rfl⟩
  · split
    · exact ⟨sf_t hs, rfl⟩
    · split
      · exact ⟨sf_S hs, by show (inv s.2).length = _; rw [inv_len, hs.eq]⟩
      · exact ⟨sf_s hs, hs.eq⟩
theorem thn_small {r u : List Nat} (hs : Sf r u) : (∀ i, i < (inv r).length → g (inv r) i < u.length) ∧ (∀ i, i < r.length → g r i < u.length) := by
  constructor
  · intro i hi
    have := g_lt (isP_inv hs.pr) hi
    rw [inv_len] at this
    rw [hs.eq]
    exact this
  · intro i hi
    rw [hs.eq]
    exact g_lt hs.pr hi
theorem spec_letter {s : List Nat × List Nat} (hs : Sf s.1 s.2) (c : Int) : Ev (fun k => spec_l05Letter.f k (I s.1) (I s.2) c) (I (lt c s).1, I (lt c s).2) := by
  have hle := hs.le
  have heq := hs.eq
  have c1 : ([] : List Int).length + (I s.1).length < 17592186044416 := by rw [I_len]; simp; omega
  have c2 : ([] : List Int).length + (I s.2).length < 17592186044416 := by rw [I_len]; simp; omega
  obtain ⟨t1, t2⟩ := thn_small hs
  unfold spec_l05Letter.f lt
  by_cases h1 : c = 84
  · simp only [h1, if_true]
    refine Ev.bind (a := (I s.1, I (thn (inv s.1) s.2))) ?_ (Ev.now _)
    unfold spec_l05Shear.f
    simp only [Option.bind_some, c1, if_true, List.nil_append]
    exact Ev.bind (spec_inv hs.pr hs.le) (Ev.bind (spec_then t1 (by rw [inv_len]; omega)) (Ev.now _))
  · by_cases h2 : c = 116
    · have n1 : ¬ ((116 : Int) = 84) := by omega
      simp only [h2, n1, if_true, if_false]
      refine Ev.bind (a := (I s.1, I (thn s.1 s.2))) ?_ (Ev.now _)
      unfold spec_l05Unshear.f
      simp only [Option.bind_some, c1, if_true, List.nil_append]
      exact Ev.bind (spec_then t2 (by omega)) (Ev.now _)
    · by_cases h3 : c = 83
      · have n1 : ¬ ((83 : Int) = 84) := by omega
        have n2 : ¬ ((83 : Int) = 116) := by omega
        simp only [h3, n1, n2, if_true, if_false]
        refine Ev.bind (a := (I (inv s.2), I s.1)) ?_ (Ev.now _)
        unfold spec_l05Turn.f
        refine Ev.bind (spec_inv hs.pu (by omega)) ?_
        simp only [Option.bind_some, c1, if_true, List.nil_append]
        exact Ev.now _
      · simp only [h1, h2, h3, if_false]
        refine Ev.bind (a := (I s.2, I (inv s.1))) ?_ (Ev.now _)
        unfold spec_l05Unturn.f
        simp only [Option.bind_some, c2, if_true, List.nil_append]
        exact Ev.bind (spec_inv hs.pr hs.le) (Ev.now _)
def letB (c : Int) : Bool := decide (c = 84 ∨ c = 116 ∨ c = 83 ∨ c = 115)
theorem copy_ev (l : List Int) (h : l.length ≤ 1000000) : impl_copyInts.f l = some l := by
  unfold impl_copyInts.f
  have c1 : ([] : List Int).length + l.length < 17592186044416 := by simp; omega
  simp only [Option.bind_some, c1, if_true, List.nil_append]
theorem impl_letter {s : List Nat × List Nat} (hs : Sf s.1 s.2) (c : Int) (hc : letB c = true) : Ev (fun k => impl_letterSurface.f k (I s.1) (I s.2) c) (I (lt c s).1, I (lt c s).2) := by
  have hle := hs.le
  have heq := hs.eq
  have h0 := surfB_I.mpr hs
  have k1 := copy_ev (I s.1) (by rw [I_len]; omega)
  have k2 := copy_ev (I s.2) (by rw [I_len]; omega)
  have hc := of_decide_eq_true hc
  unfold impl_letterSurface.f lt
  by_cases h1 : c = 84
  · simp only [h1, if_true]
    refine Ev.bind (a := (I s.1, I (thn (inv s.1) s.2), true)) ?_ (Ev.now _)
    unfold impl_ShearSurface.f
    refine Ev.bind (impl_surf _ _) ?_
    simp only [h0, k1, if_true, Option.bind_some]
    exact Ev.bind (impl_inv hs.pr hs.le) (Ev.bind (impl_then (isP_inv hs.pr) hs.pu (by rw [inv_len, hs.eq]) (by rw [inv_len]; exact hs.le)) (Ev.now _))
  · by_cases h2 : c = 116
    · have n1 : ¬ ((116 : Int) = 84) := by omega
      simp only [h2, n1, if_true, if_false]
      refine Ev.bind (a := (I s.1, I (thn s.1 s.2), true)) ?_ (Ev.now _)
      unfold impl_UnshearSurface.f
      refine Ev.bind (impl_surf _ _) ?_
      simp only [h0, k1, if_true, Option.bind_some]
      exact Ev.bind (impl_then hs.pr hs.pu hs.eq.symm hs.le) (Ev.now _)
    · by_cases h3 : c = 83
      · have n1 : ¬ ((83 : Int) = 84) := by omega
        have n2 : ¬ ((83 : Int) = 116) := by omega
        simp only [h3, n1, n2, if_true, if_false]
        refine Ev.bind (a := (I (inv s.2), I s.1, true)) ?_ (Ev.now _)
        unfold impl_TurnSurface.f
        refine Ev.bind (impl_surf _ _) ?_
        simp only [h0, if_true]
        refine Ev.bind (impl_inv hs.pu (by omega)) ?_
        simp only [k1, Option.bind_some]
        exact Ev.now _
      · have h4 : c = 115 := by omega
        have n1 : ¬ ((115 : Int) = 84) := by omega
        have n2 : ¬ ((115 : Int) = 116) := by omega
        have n3 : ¬ ((115 : Int) = 83) := by omega
        simp only [h4, n1, n2, n3, if_true, if_false]
        refine Ev.bind (a := (I s.2, I (inv s.1), true)) ?_ (Ev.now _)
        unfold impl_UnturnSurface.f
        refine Ev.bind (impl_surf _ _) ?_
        simp only [h0, k2, if_true, Option.bind_some]
        exact Ev.bind (impl_inv hs.pr hs.le) (Ev.now _)
end Go.Proofs.Ytcggfjpnfodbaaa.M
end
section
/- Surfaces that are alike; surfaces that a word keeps. No conditions. -/
namespace Go.Proofs.Ytcggfjpnfodbaaa.M
set_option linter.unusedVariables false
set_option linter.unusedSimpArgs false
open Go.RowKit Go.Proofs.YtcggfjpnfodbaaaW.PrintWords Go.Proofs.YtcggfjpnfodbaaaW.PrintLast Go.Proofs.YtcggfjpnfodbaaaW.PrintMore Go.Proofs.Ytcggfjpnfodbaaa.A
theorem impl_same (a b : List Nat × List Nat) (h1 : a.1.length ≤ 1000000) (h2 : a.2.length ≤ 1000000) : Ev (fun k => impl_SameSurface.f k (I a.1) (I a.2) (I b.1) (I b.2)) (decide (a = b)) := by
  unfold impl_SameSurface.f
  refine Ev.bind (equal_ev a.1 b.1 (by omega)) ?_
  by_cases h : a.1 = b.1
  · have e : decide (a = b) = decide (a.2 = b.2) := by
      rw [decide_eq_decide, Prod.ext_iff]
      simp [h]
    rw [e]
    simp only [h, decide_true, if_true]
    exact Ev.bind (equal_ev a.2 b.2 (by omega)) (Ev.now _)
  · have e : decide (a = b) = false := by
      rw [decide_eq_false_iff_not]
      intro e
      exact h (by rw [e])
    rw [e]
    simp only [h, decide_false, Bool.false_eq_true, if_false]
    exact Ev.now _
theorem spec_same (a b : List Nat × List Nat) (h1 : a.1.length ≤ 1000000) (h2 : a.2.length ≤ 1000000) : Ev (fun k => spec_SameSurface.f k (I a.1) (I a.2) (I b.1) (I b.2)) (decide (a = b)) := by
  unfold spec_SameSurface.f
  refine Ev.bind (sameList_nat a.1 b.1 (by omega)) ?_
  by_cases h : a.1 = b.1
  · have e : decide (a = b) = decide (a.2 = b.2) := by
      rw [decide_eq_decide, Prod.ext_iff]
      simp [h]
    rw [e]
    simp only [h, decide_true, if_true]
    exact Ev.bind (sameList_nat a.2 b.2 (by omega)) (Ev.now _)
  · have e : decide (a = b) = false := by
      rw [decide_eq_false_iff_not]
      intro e
      exact h (by rw [e])
    rw [e]
    simp only [h, decide_false, Bool.false_eq_true, if_false]
    exact Ev.now _
end Go.Proofs.Ytcggfjpnfodbaaa.M
end
section
/- The orbit in plain words: the program and the reference run alike. No conditions. -/
namespace Go.Proofs.Ytcggfjpnfodbaaa.M
set_option linter.unusedVariables false
set_option linter.unusedSimpArgs false
open Go.RowKit Go.Proofs.YtcggfjpnfodbaaaW.PrintWords Go.Proofs.YtcggfjpnfodbaaaW.PrintLast Go.Proofs.YtcggfjpnfodbaaaW.PrintMore Go.Proofs.Ytcggfjpnfodbaaa.A
def oS (p : List Nat × List Nat) : S25 := ⟨I p.1, I p.2⟩
def nxt (c : Int) (s : List Nat × List Nat) : List Nat × List Nat := canS (lt c s).1 (lt c s).2
theorem sf_nxt {s : List Nat × List Nat} (hs : Sf s.1 s.2) (c : Int) : Sf (nxt c s).1 (nxt c s).2 := sf_canS (s := lt c s) (sf_lt hs c).1
structure PO where
  L : List (List Nat × List Nat)
  W : List ByteArray
  F : List Int
  B : List Int
  T : List Int
  S : List Int
def PO.orb (s : PO) : Orb := ⟨s.L.map oS, s.W, s.F, s.B, s.T, s.S⟩
def fi (L : List (List Nat × List Nat)) (x : List Nat × List Nat) : Int := if x ∈ L then ((L.idxOf x : Nat) : Int) else -1
def atL (L : List (List Nat × List Nat)) (i : Nat) : List Nat × List Nat := L.getD i ([], [])
def atW (W : List ByteArray) (i : Nat) : ByteArray := rdOf ByteArray.empty W (i : Int)
def stepP (i : Nat) (c : Int) (s : PO) : Option PO :=
  if nxt c (atL s.L i) ∈ s.L then some { s with T := if c = 84 then s.T ++ [((s.L.idxOf (nxt c (atL s.L i)) : Nat) : Int)] else s.T, S := if c = 84 then s.S else s.S ++ [((s.L.idxOf (nxt c (atL s.L i)) : Nat) : Int)] }
  else if s.L.length = 120 then none
  else some ⟨s.L ++ [nxt c (atL s.L i)], s.W ++ [atW s.W i ++ strOfNums [c]], s.F ++ [(i : Int)], s.B ++ [c], if c = 84 then s.T ++ [(s.L.length : Int)] else s.T, if c = 84 then s.S else s.S ++ [(s.L.length : Int)]⟩
def roundP (i : Nat) (s : PO) : Option PO := (stepP i 84 s).bind (stepP i 83)
def lpP : Nat → PO → Nat → Option PO
  | 0, s, _ => some s
  | f + 1, s, i => if i < s.L.length then (roundP i s).bind (fun s' => lpP f s' (i + 1)) else some s
structure Good (s : PO) : Prop where
  sf : ∀ x ∈ s.L, Sf x.1 x.2
  lw : s.W.length = s.L.length
  lf : s.F.length = s.L.length
  lb : s.B.length = s.L.length
  ws : ∀ j, j < s.L.length → (atW s.W j).size ≤ j
  lt : s.T.length ≤ 200
  ls : s.S.length ≤ 200
theorem atL_get {L : List (List Nat × List Nat)} {i : Nat} (h : i < L.length) : atL L i = L[i] := by simp [atL, List.getD_eq_getElem?_getD, h]
theorem atL_mem {L : List (List Nat × List Nat)} {i : Nat} (h : i < L.length) : atL L i ∈ L := by rw [atL_get h]; exact List.getElem_mem h
theorem atL_app {L : List (List Nat × List Nat)} {i : Nat} (h : i < L.length) (x : List Nat × List Nat) : atL (L ++ [x]) i = atL L i := by
  unfold atL
  rw [List.getD_eq_getElem?_getD, List.getD_eq_getElem?_getD, List.getElem?_append_left h]
theorem rd_oS {L : List (List Nat × List Nat)} {i : Nat} (h : i < L.length) : rd_T25 (L.map oS) (i : Int) = oS (atL L i) := by
  unfold rd_T25
  rw [atL_get h]
  simp [List.getD_eq_getElem?_getD, h]
theorem str1 (c : Int) : (strOfNums [c]).size = 1 := by simp [strOfNums, ByteArray.size]
theorem oidx_ev {L : List (List Nat × List Nat)} (hL : ∀ x ∈ L, Sf x.1 x.2) (hl : L.length ≤ 1000) (x : List Nat × List Nat) : Ev (fun k => indexO k (L.map oS) (I x.1) (I x.2)) (fi L x) := by
  unfold indexO
  have c1 : (L.map oS).length < 4611686018427387904 := by rw [List.length_map]; omega
  simp only [c1, if_true]
  have H : ∀ (M : List (List Nat × List Nat)) (i : Nat), (∀ x ∈ M, Sf x.1 x.2) → Ev (fun k => idxS k (I x.1) (I x.2) (M.map oS) i) (if x ∈ M then ((i + M.idxOf x : Nat) : Int) else -1) := by
    intro M
    induction M with
    | nil => intro i _; exact Ev.now _
    | cons y M ih =>
      intro i hM
      have hy := hM y (by simp)
      have ly := hy.le
      have ly2 := hy.eq
      rw [List.map_cons]
      simp only [idxS]
      refine Ev.bind (impl_same y x (by omega) (by omega)) ?_
      by_cases e : y = x
      · subst e
        simp only [decide_true, if_true, List.mem_cons, true_or, List.idxOf_cons_self, Nat.add_zero]
        exact Ev.now _
      · have hb : (y == x) = false := beq_eq_false_iff_ne.mpr e
        simp only [e, decide_false, Bool.false_eq_true, if_false]
        have key := ih (i + 1) (fun z hz => hM z (by simp [hz]))
        have e1 : (if x ∈ y :: M then ((i + (y :: M).idxOf x : Nat) : Int) else -1) = (if x ∈ M then ((i + 1 + M.idxOf x : Nat) : Int) else -1) := by
          have e2 : x ∈ y :: M ↔ x ∈ M := by simp [Ne.symm e]
          rw [List.idxOf_cons, hb]
          by_cases hm : x ∈ M
          · rw [if_pos (e2.mpr hm), if_pos hm]
            simp only [cond_false]
            congr 1
            omega
          · rw [if_neg (fun h => hm (e2.mp h)), if_neg hm]
        rw [e1]
        exact key
  have key := H L 0 hL
  unfold fi
  simp only [Nat.zero_add] at key
  exact key
theorem ofind_ev {L : List (List Nat × List Nat)} (hL : ∀ x ∈ L, Sf x.1 x.2) (hl : L.length ≤ 1000) (x : List Nat × List Nat) : Ev (fun k => spec_l06Find.f k (L.map oS) (I x.1) (I x.2)) (fi L x) := by
  unfold spec_l06Find.f
  have H : ∀ d i : Nat, i + d = L.length → (∀ j, j < i → atL L j ≠ x) → Ev (fun k => spec_l06Find.l0 k (L.map oS) (L.length : Int) (i : Int) (I x.1) (I x.2)) (fi L x) := by
    intro d
    induction d with
    | zero =>
      intro i hi hn
      obtain rfl : i = L.length := by omega
      have e : fi L x = -1 := by
        unfold fi
        rw [if_neg]
        intro hm
        obtain ⟨j, hj, e⟩ := List.mem_iff_getElem.mp hm
        exact hn j hj (by rw [atL_get hj, e])
      refine ev_succ ?_
      have c1 : ¬ ((L.length : Int) < (L.length : Int)) := by omega
      simp only [spec_l06Find.l0, c1, if_false, e]
      exact Ev.now _
    | succ d ih =>
      intro i hi hn
      have hil : i < L.length := by omega
      have hy := hL _ (atL_mem hil)
      have ly := hy.le
      have ly2 := hy.eq
      have c1 : (i : Int) < (L.length : Int) := by omega
      have c2 : (0 : Int) ≤ (i : Int) := by omega
      have c3 := w64s i (by omega)
      refine ev_succ ?_
      simp only [spec_l06Find.l0, c1, c2, c3, List.length_map, rd_oS hil, if_true]
      refine Ev.bind (spec_same (atL L i) x (by omega) (by omega)) ?_
      by_cases e : atL L i = x
      · have ef : fi L x = (i : Int) := by
          unfold fi
          have hm : x ∈ L := by rw [← e]; exact atL_mem hil
          rw [if_pos hm]
          congr 1
          have h1 : L.idxOf x ≤ i := by
            apply Classical.byContradiction
            intro hlt
            have := List.not_of_lt_findIdx (xs := L) (p := (· == x)) (i := i) (by unfold List.idxOf at hlt; omega)
            rw [← atL_get hil, e] at this
            simp at this
          have h2 : ¬ L.idxOf x < i := by
            intro hlt
            have hlt2 : L.idxOf x < L.length := List.idxOf_lt_length_of_mem hm
            refine hn _ hlt ?_
            rw [atL_get hlt2]
            exact List.getElem_idxOf hlt2
          omega
        rw [ef]
        simp only [e, decide_true, if_true]
        exact Ev.now _
      · simp only [e, decide_false, Bool.false_eq_true, if_false]
        exact ih (i + 1) (by omega) (fun j hj => by
          by_cases ej : j = i
          · rw [ej]; exact e
          · exact hn j (by omega))
  have key := H L.length 0 (Nat.zero_add _) (fun j hj => by omega)
  rw [List.length_map]
  exact key
theorem fi_neg {L : List (List Nat × List Nat)} {x : List Nat × List Nat} : fi L x < 0 ↔ x ∉ L := by
  unfold fi
  by_cases h : x ∈ L
  · rw [if_pos h]; constructor
    · intro h2; omega
    · intro h2; exact absurd h h2
  · rw [if_neg h]; simp [h]
theorem let_ok {c : Int} (hc : c = 84 ∨ c = 83) : letB c = true := by
  rcases hc with rfl | rfl <;> rfl
theorem stpO_ev {s : PO} (hg : Good s) {i : Nat} (hi : i < s.L.length) (hl : s.L.length ≤ 120) {c : Int} (hc : c = 84 ∨ c = 83) : Ev (fun k => stpO k (i : Int) c s.orb) ((stepP i c s).map PO.orb) := by
  have hs := hg.sf _ (atL_mem hi)
  have h1 := impl_letter hs c (let_ok hc)
  have h2 := impl_canon (sf_lt hs c).1
  have h3 := oidx_ev hg.sf (by omega) (nxt c (atL s.L i))
  have c1 : (0 : Int) ≤ (i : Int) := by omega
  have c2 : (i : Int) < (s.orb.L.length : Int) := by show (i : Int) < ((s.L.map oS).length : Int); rw [List.length_map]; omega
  unfold stpO
  simp only [c1, c2, if_true]
  have e1 : rd_T25 s.orb.L (i : Int) = oS (atL s.L i) := rd_oS hi
  rw [e1]
  refine Ev.bind h1 (Ev.bind h2 (Ev.bind h3 ?_))
  have el : s.orb.L.length = s.L.length := List.length_map _
  have lw := hg.lw
  have lf := hg.lf
  have lb := hg.lb
  have lt' := hg.lt
  have ls := hg.ls
  by_cases hm : nxt c (atL s.L i) ∈ s.L
  · have hn : ¬ fi s.L (nxt c (atL s.L i)) < 0 := fun h => fi_neg.mp h hm
    have e2 : fi s.L (nxt c (atL s.L i)) = ((s.L.idxOf (nxt c (atL s.L i)) : Nat) : Int) := if_pos hm
    have c5 : s.orb.T.length < 1000000 ∧ s.orb.S.length < 1000000 := ⟨by show s.T.length < _; omega, by show s.S.length < _; omega⟩
    have e3 : stepP i c s = some { s with T := if c = 84 then s.T ++ [((s.L.idxOf (nxt c (atL s.L i)) : Nat) : Int)] else s.T, S := if c = 84 then s.S else s.S ++ [((s.L.idxOf (nxt c (atL s.L i)) : Nat) : Int)] } := if_pos hm
    rw [e3, e2]
    rw [e2] at hn
    rw [if_neg hn, if_pos c5]
    exact Ev.now _
  · have hn : fi s.L (nxt c (atL s.L i)) < 0 := fi_neg.mpr hm
    simp only [hn, if_true]
    by_cases h120 : s.L.length = 120
    · have e3 : stepP i c s = none := by unfold stepP; rw [if_neg hm, if_pos h120]
      have c6 : (s.orb.L.length : Int) = 120 := by rw [el]; omega
      rw [e3, if_pos c6]
      exact Ev.now _
    · have c6 : ¬ (s.orb.L.length : Int) = 120 := by rw [el]; omega
      have c7 : s.orb.L.length < 1000000 ∧ s.orb.W.length < 1000000 ∧ s.orb.F.length < 1000000 ∧ s.orb.B.length < 1000000 ∧ s.orb.T.length < 1000000 ∧ s.orb.S.length < 1000000 := ⟨by rw [el]; omega, by show s.W.length < _; omega, by show s.F.length < _; omega, by show s.B.length < _; omega, by show s.T.length < _; omega, by show s.S.length < _; omega⟩
      have c8 : (i : Int) < (s.orb.W.length : Int) := by show (i : Int) < (s.W.length : Int); omega
      have c9 : (rdOf ByteArray.empty s.orb.W (i : Int)).size + 1 ≤ 9223372036854775807 := by have := hg.ws i hi; show (atW s.W i).size + 1 ≤ _; omega
      have e3 : stepP i c s = some ⟨s.L ++ [nxt c (atL s.L i)], s.W ++ [atW s.W i ++ strOfNums [c]], s.F ++ [(i : Int)], s.B ++ [c], if c = 84 then s.T ++ [(s.L.length : Int)] else s.T, if c = 84 then s.S else s.S ++ [(s.L.length : Int)]⟩ := by unfold stepP; rw [if_neg hm, if_neg h120]
      rw [e3, if_neg c6, if_pos c7, if_pos c8, if_pos c9]
      have e4 : s.orb.L ++ [(⟨I (canS (lt c (atL s.L i)).1 (lt c (atL s.L i)).2).1, I (canS (lt c (atL s.L i)).1 (lt c (atL s.L i)).2).2⟩ : S25)] = (s.L ++ [nxt c (atL s.L i)]).map oS := by rw [List.map_append]; rfl
      refine Ev.of (k := 0) (fun k => LeO.refl _) ?_
      show some (some (Orb.mk _ _ _ _ _ _)) = some (some (Orb.mk _ _ _ _ _ _))
      rw [e4, el]
      rfl
theorem atW_app {W : List ByteArray} {j : Nat} (h : j < W.length) (x : ByteArray) : atW (W ++ [x]) j = atW W j := by
  unfold atW rdOf
  rw [Int.toNat_natCast, List.getD_eq_getElem?_getD, List.getD_eq_getElem?_getD, List.getElem?_append_left h]
theorem atW_last (W : List ByteArray) (x : ByteArray) : atW (W ++ [x]) W.length = x := by
  unfold atW rdOf
  rw [Int.toNat_natCast, List.getD_eq_getElem?_getD, List.getElem?_append_right (Nat.le_refl _)]
  simp
theorem step_good {s s' : PO} (hg : Good s) {i : Nat} (hi : i < s.L.length) {c : Int} (hT : s.T.length < 200) (hS : s.S.length < 200) (h : stepP i c s = some s') : Good s' ∧ i < s'.L.length ∧ s'.T.length ≤ s.T.length + 1 ∧ s'.S.length ≤ s.S.length + 1 ∧ (s.L.length ≤ 120 → s'.L.length ≤ 120) := by
  have hs := hg.sf _ (atL_mem hi)
  unfold stepP at h
  by_cases hm : nxt c (atL s.L i) ∈ s.L
  · rw [if_pos hm] at h
    have h := Option.some.inj h
    subst h
    have q1 : (if c = 84 then s.T ++ [((s.L.idxOf (nxt c (atL s.L i)) : Nat) : Int)] else s.T).length ≤ s.T.length + 1 := by split <;> simp
    have q2 : (if c = 84 then s.S else s.S ++ [((s.L.idxOf (nxt c (atL s.L i)) : Nat) : Int)]).length ≤ s.S.length + 1 := by split <;> simp
    exact ⟨⟨hg.sf, hg.lw, hg.lf, hg.lb, hg.ws, by show (if c = 84 then _ else _ : List Int).length ≤ 200; omega, by show (if c = 84 then _ else _ : List Int).length ≤ 200; omega⟩, hi, q1, q2, fun h => h⟩
  · rw [if_neg hm] at h
    by_cases h120 : s.L.length = 120
    · rw [if_pos h120] at h; cases h
    · rw [if_neg h120] at h
      have h := Option.some.inj h
      subst h
      have q1 : (if c = 84 then s.T ++ [(s.L.length : Int)] else s.T).length ≤ s.T.length + 1 := by split <;> simp
      have q2 : (if c = 84 then s.S else s.S ++ [(s.L.length : Int)]).length ≤ s.S.length + 1 := by split <;> simp
      refine ⟨⟨fun x hx => ?_, by simp [hg.lw], by simp [hg.lf], by simp [hg.lb], fun j hj => ?_, by show (if c = 84 then _ else _ : List Int).length ≤ 200; omega, by show (if c = 84 then _ else _ : List Int).length ≤ 200; omega⟩, by simp; omega, q1, q2, fun h => by simp; omega⟩
      · rcases List.mem_append.mp hx with hx | hx
        · exact hg.sf x hx
        · obtain rfl : x = nxt c (atL s.L i) := by simpa using hx
          exact sf_nxt hs c
      · have hj : j < s.L.length + 1 := by simpa using hj
        show (atW (s.W ++ [atW s.W i ++ strOfNums [c]]) j).size ≤ j
        by_cases e : j = s.L.length
        · rw [e, ← hg.lw, atW_last, ByteArray.size_append, str1, hg.lw]
          have := hg.ws i hi
          omega
        · rw [atW_app (by rw [hg.lw]; omega)]
          exact hg.ws j (by omega)
def stepU (i : Nat) (c : Int) (L : List (List Nat × List Nat)) (W : List ByteArray) : List (List Nat × List Nat) × List ByteArray := if nxt c (atL L i) ∈ L then (L, W) else (L ++ [nxt c (atL L i)], W ++ [atW W i ++ strOfNums [c]])
theorem stepU_of {s s' : PO} {i : Nat} {c : Int} (h : stepP i c s = some s') : stepU i c s.L s.W = (s'.L, s'.W) := by
  unfold stepP at h
  unfold stepU
  by_cases hm : nxt c (atL s.L i) ∈ s.L
  · rw [if_pos hm] at h ⊢
    have h := Option.some.inj h
    subst h
    rfl
  · rw [if_neg hm] at h ⊢
    by_cases h120 : s.L.length = 120
    · rw [if_pos h120] at h; cases h
    · rw [if_neg h120] at h
      have h := Option.some.inj h
      subst h
      rfl
theorem stepU_none {s : PO} {i : Nat} {c : Int} (h : stepP i c s = none) : (stepU i c s.L s.W).1.length = 121 := by
  unfold stepP at h
  unfold stepU
  by_cases hm : nxt c (atL s.L i) ∈ s.L
  · rw [if_pos hm] at h; cases h
  · rw [if_neg hm] at h ⊢
    by_cases h120 : s.L.length = 120
    · simp [h120]
    · rw [if_neg h120] at h; cases h
structure GoodU (L : List (List Nat × List Nat)) (W : List ByteArray) : Prop where
  sf : ∀ x ∈ L, Sf x.1 x.2
  lw : W.length = L.length
  ws : ∀ j, j < L.length → (atW W j).size ≤ j
theorem Good.u {s : PO} (h : Good s) : GoodU s.L s.W := ⟨h.sf, h.lw, h.ws⟩
theorem stepU_good {L : List (List Nat × List Nat)} {W : List ByteArray} (hg : GoodU L W) {i : Nat} (hi : i < L.length) (c : Int) : GoodU (stepU i c L W).1 (stepU i c L W).2 ∧ L.length ≤ (stepU i c L W).1.length ∧ (stepU i c L W).1.length ≤ L.length + 1 := by
  have hs := hg.sf _ (atL_mem hi)
  unfold stepU
  by_cases hm : nxt c (atL L i) ∈ L
  · rw [if_pos hm]; exact ⟨hg, Nat.le_refl _, by simp⟩
  · rw [if_neg hm]
    refine ⟨⟨fun x hx => ?_, by simp [hg.lw], fun j hj => ?_⟩, by simp, by simp⟩
    · rcases List.mem_append.mp hx with hx | hx
      · exact hg.sf x hx
      · obtain rfl : x = nxt c (atL L i) := by simpa using hx
        exact sf_nxt hs c
    · have hj : j < L.length + 1 := by simpa using hj
      show (atW (W ++ [atW W i ++ strOfNums [c]]) j).size ≤ j
      by_cases e : j = L.length
      · rw [e, ← hg.lw, atW_last, ByteArray.size_append, str1, hg.lw]
        have := hg.ws i hi
        omega
      · rw [atW_app (by rw [hg.lw]; omega)]
        exact hg.ws j (by omega)
theorem specU_ev {L : List (List Nat × List Nat)} {W : List ByteArray} (hg : GoodU L W) {i : Nat} (hi : i < L.length) (hl : L.length ≤ 1000) {j : Nat} {c : Int} (hj : j < 2) (hc : rd [84, 83] (j : Int) = c) (res : List S25 × List ByteArray × Bool)
    (H : Ev (fun k => spec_l06Orbit.l1 k ((stepU i c L W).1.map oS) (stepU i c L W).2 (i : Int) [84, 83] 2 ((j + 1 : Nat) : Int)) res) : Ev (fun k => spec_l06Orbit.l1 k (L.map oS) W (i : Int) [84, 83] 2 (j : Int)) res := by
  have hs := hg.sf _ (atL_mem hi)
  have h1 := spec_letter hs c
  have h2 := spec_canon (sf_lt hs c).1
  have h3 := ofind_ev hg.sf (by omega) (nxt c (atL L i))
  have c1 : (j : Int) < 2 := by omega
  have c2 : (0 : Int) ≤ (j : Int) := by omega
  have c3 := w64s j (by omega)
  have c4 : (j : Int) < (([84, 83] : List Int).length : Int) := by show (j : Int) < ((2 : Nat) : Int); omega
  have c5 : (0 : Int) ≤ (i : Int) := by omega
  have c6 : (i : Int) < ((L.map oS).length : Int) := by rw [List.length_map]; omega
  refine ev_succ ?_
  simp only [spec_l06Orbit.l1, c1, c2, c3, c4, c5, c6, hc, rd_oS hi, if_true, Option.bind_some]
  refine Ev.bind h1 (Ev.bind h2 (Ev.bind h3 ?_))
  unfold stepU at H
  by_cases hm : nxt c (atL L i) ∈ L
  · have hn : ¬ fi L (nxt c (atL L i)) < 0 := fun h => fi_neg.mp h hm
    rw [if_pos hm] at H
    simp only [hn, if_false]
    exact H
  · have hn : fi L (nxt c (atL L i)) < 0 := fi_neg.mpr hm
    rw [if_neg hm] at H
    have c7 : (L.map oS).length < 2932031007402 := by rw [List.length_map]; omega
    have c8 : (i : Int) < (W.length : Int) := by have := hg.lw; omega
    have c9 : (rdOf ByteArray.empty W (i : Int)).size + (strOfNums [c]).size ≤ 9223372036854775807 := by have := hg.ws i hi; rw [str1]; show (atW W i).size + 1 ≤ _; omega
    have c10 : W.length < 8796093022208 := by have := hg.lw; omega
    simp only [hn, c7, c8, c9, c10, if_true]
    have e4 : L.map oS ++ [(⟨I (canS (lt c (atL L i)).1 (lt c (atL L i)).2).1, I (canS (lt c (atL L i)).1 (lt c (atL L i)).2).2⟩ : S25)] = (L ++ [nxt c (atL L i)]).map oS := by rw [List.map_append]; rfl
    rw [e4]
    exact H
def specR : Option PO → List S25 × List ByteArray × Bool
  | none => ([], [], false)
  | some s => (s.L.map oS, s.W, true)
theorem orb_sim : ∀ (f i : Nat) (s : PO), 121 ≤ f + i → Good s → i ≤ s.L.length → s.L.length ≤ 120 → s.T.length ≤ i → s.S.length ≤ i → Ev (fun k => loopO k s.orb (i : Int)) ((lpP f s i).map PO.orb) ∧ Ev (fun k => spec_l06Orbit.l0 k (s.L.map oS) s.W (i : Int)) (specR (lpP f s i)) := by
  intro f
  induction f with
  | zero => intro i s h1 h2 h3 h4; omega
  | succ f ih =>
    intro i s hf hg hi0 hl hT hS
    have el : s.orb.L.length = s.L.length := List.length_map _
    by_cases hi : i < s.L.length
    · have c1 : (i : Int) < (s.orb.L.length : Int) := by rw [el]; omega
      have c2 : (i : Int) < ((s.L.map oS).length : Int) := by rw [List.length_map]; omega
      have c3 := w64s i (by omega)
      have hu := hg.u
      have e1 := stpO_ev hg hi hl (c := 84) (.inl rfl)
      have u1 := stepU_good hu hi 84
      have eL : lpP (f + 1) s i = (roundP i s).bind (fun s' => lpP f s' (i + 1)) := by rw [lpP, if_pos hi]
      have fin : ∀ (L2 : List (List Nat × List Nat)) (W2 : List ByteArray) (res : List S25 × List ByteArray × Bool), stepU i 83 (stepU i 84 s.L s.W).1 (stepU i 84 s.L s.W).2 = (L2, W2) → Ev (fun k => if ((L2.map oS).length : Int) > 120 then (some (([] : List S25), ([] : List ByteArray), false)) else spec_l06Orbit.l0 k (L2.map oS) W2 (wrap64 ((i : Int) + 1))) res → Ev (fun k => spec_l06Orbit.l0 k (s.L.map oS) s.W (i : Int)) res := by
        intro L2 W2 res e H
        refine ev_succ ?_
        simp only [spec_l06Orbit.l0, c2, if_true, Option.bind_some]
        refine specU_ev hu hi (by omega) (j := 0) (c := 84) (by omega) rfl res ?_
        have hi2 : i < (stepU i 84 s.L s.W).1.length := by omega
        refine specU_ev u1.1 hi2 (by omega) (j := 1) (c := 83) (by omega) rfl res ?_
        rw [e]
        refine ev_succ ?_
        have c9 : ¬ ((((1 + 1 : Nat) : Int)) < 2) := by omega
        simp only [spec_l06Orbit.l1, c9, if_false]
        exact H
      have impl0 : ∀ r : Option Orb, Ev (fun k => innerO k (i : Int) [84, 83] s.orb) r → Ev (fun k => match r with | none => some none | some s' => loopO k s' (wrap64 ((i : Int) + 1))) ((lpP (f + 1) s i).map PO.orb) → Ev (fun k => loopO k s.orb (i : Int)) ((lpP (f + 1) s i).map PO.orb) := by
        intro r h1 h2
        refine ev_succ ?_
        simp only [loopO, c1, if_true]
        exact Ev.bind h1 h2
      cases h84 : stepP i 84 s with
      | none =>
        have en : lpP (f + 1) s i = none := by rw [eL]; unfold roundP; rw [h84]; rfl
        have l121 := stepU_none h84
        rw [h84] at e1
        rw [en] at impl0 ⊢
        have u2 := stepU_good u1.1 (i := i) (by omega) 83
        have l2 : (stepU i 83 (stepU i 84 s.L s.W).1 (stepU i 84 s.L s.W).2).1.length > 120 := by omega
        refine ⟨impl0 none ?_ (Ev.now _), ?_⟩
        · unfold innerO
          exact Ev.bind e1 (Ev.now _)
        · revert l2
          generalize ep : stepU i 83 (stepU i 84 s.L s.W).1 (stepU i 84 s.L s.W).2 = p
          intro l2
          refine fin p.1 p.2 _ ep ?_
          have c9 : ((p.1.map oS).length : Int) > 120 := by rw [List.length_map]; omega
          simp only [c9, if_true]
          exact Ev.now _
      | some s1 =>
        obtain ⟨g1, i1, t1, ss1, l1⟩ := step_good hg hi (by omega) (by omega) h84
        have e2 := stpO_ev g1 i1 (l1 hl) (c := 83) (.inr rfl)
        have eu := stepU_of h84
        rw [h84] at e1
        have eR : lpP (f + 1) s i = (stepP i 83 s1).bind (fun s' => lpP f s' (i + 1)) := by rw [eL]; unfold roundP; rw [h84]; rfl
        cases h83 : stepP i 83 s1 with
        | none =>
          have en : lpP (f + 1) s i = none := by rw [eR, h83]; rfl
          have l121 := stepU_none h83
          rw [h83] at e2
          rw [en] at impl0 ⊢
          have l2 : (stepU i 83 (stepU i 84 s.L s.W).1 (stepU i 84 s.L s.W).2).1.length > 120 := by rw [eu, l121]; omega
          refine ⟨impl0 none ?_ (Ev.now _), ?_⟩
          · unfold innerO
            refine Ev.bind e1 ?_
            simp only [innerO]
            exact Ev.bind e2 (Ev.now _)
          · revert l2
            generalize ep : stepU i 83 (stepU i 84 s.L s.W).1 (stepU i 84 s.L s.W).2 = p
            intro l2
            refine fin p.1 p.2 _ ep ?_
            have c9 : ((p.1.map oS).length : Int) > 120 := by rw [List.length_map]; omega
            simp only [c9, if_true]
            exact Ev.now _
        | some s2 =>
          obtain ⟨g2, i2, t2, ss2, l2⟩ := step_good g1 i1 (by omega) (by omega) h83
          have eu2 := stepU_of h83
          rw [h83] at e2
          have es : lpP (f + 1) s i = lpP f s2 (i + 1) := by rw [eR, h83]; rfl
          have hT2 : s2.T.length ≤ i + 1 ∧ s2.S.length ≤ i + 1 := by
            have a1 : s1.S.length = s.S.length := by
              unfold stepP at h84
              split at h84
              · have h := Option.some.inj h84; subst h; rfl
              · split at h84
                · cases h84
                · have h := Option.some.inj h84; subst h; rfl
            have a2 : s2.T.length = s1.T.length := by
              unfold stepP at h83
              split at h83
              · have h := Option.some.inj h83; subst h; rfl
              · split at h83
                · cases h83
                · have h := Option.some.inj h83; subst h; rfl
            omega
          obtain ⟨k1, k2⟩ := ih (i + 1) s2 (by omega) g2 (by omega) (l2 (l1 hl)) hT2.1 hT2.2
          rw [es] at impl0 ⊢
          refine ⟨impl0 (some s2.orb) ?_ ?_, ?_⟩
          · unfold innerO
            refine Ev.bind e1 ?_
            simp only [innerO]
            refine Ev.bind e2 (Ev.now _)
          · simp only [c3]
            exact k1
          · refine fin s2.L s2.W _ (by rw [eu]; exact eu2) ?_
            have c9 : ¬ ((s2.L.map oS).length : Int) > 120 := by rw [List.length_map]; have := l2 (l1 hl); omega
            simp only [c9, if_false, c3]
            exact k2
    · have c1 : ¬ (i : Int) < (s.orb.L.length : Int) := by rw [el]; omega
      have c2 : ¬ (i : Int) < ((s.L.map oS).length : Int) := by rw [List.length_map]; omega
      have eL : lpP (f + 1) s i = some s := by rw [lpP, if_neg hi]
      rw [eL]
      constructor
      · refine ev_succ ?_
        simp only [loopO, c1, if_false]
        exact Ev.now _
      · refine ev_succ ?_
        simp only [spec_l06Orbit.l0, c2, if_false]
        exact Ev.now _
def start0 (a : List Nat × List Nat) : PO := ⟨[canS a.1 a.2], [⟨#[]⟩], [-1], [0], [], []⟩
def orbP (a : List Nat × List Nat) : Option PO := lpP 121 (start0 a) 0
theorem start_good {a : List Nat × List Nat} (ha : Sf a.1 a.2) : Good (start0 a) :=
  ⟨fun x hx => by obtain rfl : x = canS a.1 a.2 := (by simpa [start0] using hx); exact sf_canS ha, rfl, rfl, rfl, fun j hj => by
    have hj : j < 1 := hj
    obtain rfl : j = 0 := by omega
    exact Nat.le_refl _, by simp [start0], by simp [start0]⟩
theorem orb_both {a : List Nat × List Nat} (ha : Sf a.1 a.2) : Ev (fun k => orbitO k (I a.1) (I a.2)) ((orbP a).map PO.orb) ∧ Ev (fun k => spec_l06Orbit.f k (I a.1) (I a.2)) (specR (orbP a)) := by
  obtain ⟨h1, h2⟩ := orb_sim 121 0 (start0 a) (by omega) (start_good ha) (Nat.zero_le _) (by simp [start0]) (by simp [start0]) (by simp [start0])
  constructor
  · unfold orbitO
    refine Ev.bind (impl_canon ha) ?_
    simp only [if_true]
    exact h1
  · unfold spec_l06Orbit.f
    exact Ev.bind (spec_canon ha) h2
theorem orbO_no {r u : List Int} (h : ¬ surfB r u = true) : Ev (fun k => orbitO k r u) none := by
  unfold orbitO
  refine Ev.bind (impl_canon_no h) ?_
  simp only [Bool.false_eq_true, if_false]
  exact Ev.now _
end Go.Proofs.Ytcggfjpnfodbaaa.M
end
section
/- The orbit's size: the program and the reference agree. No conditions. -/
namespace Go.Proofs.Ytcggfjpnfodbaaa.M
set_option linter.unusedSimpArgs false
open Go.RowKit Go.Proofs.YtcggfjpnfodbaaaW.PrintWords Go.Proofs.YtcggfjpnfodbaaaW.PrintLast Go.Proofs.YtcggfjpnfodbaaaW.PrintMore Go.Proofs.Ytcggfjpnfodbaaa.A
def orbR (r u : List Int) : Option PO := if surfB r u = true then orbP (N r, N u) else none
theorem N_I' (l : List Nat) : N (I l) = l := N_I l
theorem orbR_I {a : List Nat × List Nat} (ha : Sf a.1 a.2) : orbR (I a.1) (I a.2) = orbP a := by
  unfold orbR
  rw [if_pos (surfB_I.mpr ha), N_I', N_I']
theorem orbR_ev (r u : List Int) : Ev (fun k => orbitO k r u) ((orbR r u).map PO.orb) := by
  by_cases h : surfB r u = true
  · obtain ⟨r', u', rfl, rfl, hs⟩ := surf_nat h
    rw [orbR_I (a := (r', u')) hs]
    exact (orb_both (a := (r', u')) hs).1
  · have e : orbR r u = none := if_neg h
    rw [e]
    exact orbO_no h
def outL : Option PO → List S25 × Bool
  | none => ([], false)
  | some s => (s.L.map oS, true)
theorem specOrb_ev (r u : List Int) : Ev (fun k => spec_OrbitOf.f k r u) (outL (orbR r u)) := by
  unfold spec_OrbitOf.f
  refine Ev.bind (spec_surf r u) ?_
  by_cases h : surfB r u = true
  · obtain ⟨r', u', rfl, rfl, hs⟩ := surf_nat h
    have k2 := (orb_both (a := (r', u')) hs).2
    rw [orbR_I (a := (r', u')) hs]
    simp only [h, if_true]
    refine Ev.bind k2 ?_
    cases orbP (r', u') with
    | none => exact Ev.now _
    | some s => exact Ev.now _
  · have e : orbR r u = none := if_neg h
    rw [e]
    simp only [h, if_false, Bool.false_eq_true]
    exact Ev.now _
end Go.Proofs.Ytcggfjpnfodbaaa.M
end
section
/- Is a surface in the orbit: the program and the reference agree. No conditions. -/
namespace Go.Proofs.Ytcggfjpnfodbaaa.M
set_option linter.unusedSimpArgs false
open Go.RowKit Go.Proofs.YtcggfjpnfodbaaaW.PrintWords Go.Proofs.YtcggfjpnfodbaaaW.PrintLast Go.Proofs.YtcggfjpnfodbaaaW.PrintMore Go.Proofs.Ytcggfjpnfodbaaa.A
theorem round_good {s s' : PO} {i : Nat} (hg : Good s) (hi : i < s.L.length) (hl : s.L.length ≤ 120) (hT : s.T.length ≤ i) (hS : s.S.length ≤ i) (h : roundP i s = some s') : Good s' ∧ i < s'.L.length ∧ s'.L.length ≤ 120 ∧ s'.T.length ≤ i + 1 ∧ s'.S.length ≤ i + 1 := by
  unfold roundP at h
  cases h84 : stepP i 84 s with
  | none => rw [h84] at h; cases h
  | some s1 =>
    rw [h84] at h
    have h83 : stepP i 83 s1 = some s' := h
    obtain ⟨g1, i1, t1, ss1, l1⟩ := step_good hg hi (by omega) (by omega) h84
    obtain ⟨g2, i2, t2, ss2, l2⟩ := step_good g1 i1 (by omega) (by omega) h83
    have a1 : s1.S.length = s.S.length := by
      unfold stepP at h84
      split at h84
      · have h := Option.some.inj h84; subst h; rfl
      · split at h84
        · cases h84
        · have h := Option.some.inj h84; subst h; rfl
    have a2 : s'.T.length = s1.T.length := by
      unfold stepP at h83
      split at h83
      · have h := Option.some.inj h83; subst h; rfl
      · split at h83
        · cases h83
        · have h := Option.some.inj h83; subst h; rfl
    exact ⟨g2, i2, l2 (l1 hl), by omega, by omega⟩
theorem lp_good : ∀ (f i : Nat) (s s' : PO), Good s → i ≤ s.L.length → s.L.length ≤ 120 → s.T.length ≤ i → s.S.length ≤ i → lpP f s i = some s' → Good s' ∧ s'.L.length ≤ 120 := by
  intro f
  induction f with
  | zero => intro i s s' hg _ hl _ _ h; have h := Option.some.inj h; subst h; exact ⟨hg, hl⟩
  | succ f ih =>
    intro i s s' hg hi hl hT hS h
    rw [lpP] at h
    by_cases c : i < s.L.length
    · rw [if_pos c] at h
      cases e : roundP i s with
      | none => rw [e] at h; cases h
      | some s1 =>
        rw [e] at h
        obtain ⟨g1, i1, l1, t1, u1⟩ := round_good hg c hl hT hS e
        exact ih (i + 1) s1 s' g1 (by omega) l1 t1 u1 h
    · rw [if_neg c] at h
      have h := Option.some.inj h
      subst h
      exact ⟨hg, hl⟩
theorem orbP_good {a : List Nat × List Nat} (ha : Sf a.1 a.2) {s : PO} (h : orbP a = some s) : Good s ∧ s.L.length ≤ 120 :=
  lp_good 121 0 (start0 a) s (start_good ha) (Nat.zero_le _) (by simp [start0]) (by simp [start0]) (by simp [start0]) h
theorem orbR_good {r u : List Int} {s : PO} (h : orbR r u = some s) : Good s ∧ s.L.length ≤ 120 := by
  unfold orbR at h
  by_cases c : surfB r u = true
  · rw [if_pos c] at h
    obtain ⟨r', u', rfl, rfl, hs⟩ := surf_nat c
    rw [N_I', N_I'] at h
    exact orbP_good (a := (r', u')) hs h
  · rw [if_neg c] at h; cases h
end Go.Proofs.Ytcggfjpnfodbaaa.M
end
section
/- Drawn surfaces. No conditions. -/
namespace Go.Proofs.Ytcggfjpnfodbaaa.M
set_option linter.unusedVariables false
set_option linter.unusedSimpArgs false
open Go.RowKit Go.Proofs.YtcggfjpnfodbaaaW.PrintWords Go.Proofs.YtcggfjpnfodbaaaW.PrintLast Go.Proofs.YtcggfjpnfodbaaaW.PrintMore Go.Proofs.Ytcggfjpnfodbaaa.A
theorem spec_shear {r u : List Nat} (hs : Sf r u) : Ev (fun k => spec_l05Shear.f k (I r) (I u)) (I r, I (thn (inv r) u)) := by
  have hle := hs.le
  unfold spec_l05Shear.f
  have c1 : ([] : List Int).length + (I r).length < 17592186044416 := by rw [I_len]; simp; omega
  simp only [Option.bind_some, c1, if_true, List.nil_append]
  refine Ev.bind (spec_inv hs.pr hs.le) (Ev.bind (spec_then (p := inv r) (q := u) (fun i hi => ?_) (by rw [inv_len]; omega)) (Ev.now _))
  have := g_lt (isP_inv hs.pr) hi
  rw [inv_len] at this
  rw [hs.eq]
  exact this
end Go.Proofs.Ytcggfjpnfodbaaa.M
end
section
/- The shear as a permutation of the orbit. No conditions. -/
namespace Go.Proofs.Ytcggfjpnfodbaaa.M
set_option linter.unusedVariables false
set_option linter.unusedSimpArgs false
open Go.RowKit Go.Proofs.YtcggfjpnfodbaaaW.PrintWords Go.Proofs.YtcggfjpnfodbaaaW.PrintLast Go.Proofs.YtcggfjpnfodbaaaW.PrintMore Go.Proofs.Ytcggfjpnfodbaaa.A
theorem fi_app {L X : List (List Nat × List Nat)} {y : List Nat × List Nat} (h : y ∈ L) : fi (L ++ X) y = fi L y := by
  unfold fi
  rw [if_pos h, if_pos (List.mem_append_left _ h), List.idxOf_append, if_pos h]
structure TI (s : PO) (i : Nat) : Prop where
  t : s.T = (List.range i).map (fun j => fi s.L (nxt 84 (atL s.L j)))
  m : ∀ j, j < i → nxt 84 (atL s.L j) ∈ s.L
theorem TI_app {s s' : PO} {i : Nat} (h : TI s i) (hi : i ≤ s.L.length) (x : List Nat × List Nat) (hL : s'.L = s.L ++ [x]) (hT : s'.T = s.T) : TI s' i := by
  refine ⟨?_, fun j hj => ?_⟩
  · rw [hT, h.t, hL]
    apply List.map_congr_left
    intro j hj
    have hj := List.mem_range.mp hj
    rw [atL_app (by omega), fi_app (h.m j hj)]
  · rw [hL, atL_app (by omega)]
    exact List.mem_append_left _ (h.m j hj)
theorem step84_T {s s' : PO} {i : Nat} (h : TI s i) (hi : i < s.L.length) (e : stepP i 84 s = some s') : TI s' (i + 1) := by
  unfold stepP at e
  split at e
  · rename_i hm
    have e := Option.some.inj e
    subst e
    refine ⟨?_, fun j hj => ?_⟩
    · show (if (84 : Int) = 84 then s.T ++ [((s.L.idxOf (nxt 84 (atL s.L i)) : Nat) : Int)] else s.T) = _
      rw [if_pos rfl, List.range_succ, List.map_append, ← h.t]
      congr 1
      show [_] = [fi s.L (nxt 84 (atL s.L i))]
      unfold fi
      rw [if_pos hm]
    · by_cases ej : j = i
      · rw [ej]; exact hm
      · exact h.m j (by omega)
  · rename_i hm
    split at e
    · cases e
    · have e := Option.some.inj e
      subst e
      refine ⟨?_, fun j hj => ?_⟩
      · show (if (84 : Int) = 84 then s.T ++ [(s.L.length : Int)] else s.T) = (List.range (i + 1)).map (fun j => fi (s.L ++ [nxt 84 (atL s.L i)]) (nxt 84 (atL (s.L ++ [nxt 84 (atL s.L i)]) j)))
        rw [if_pos rfl, List.range_succ, List.map_append, h.t]
        congr 1
        · apply List.map_congr_left
          intro j hj
          have hj := List.mem_range.mp hj
          rw [atL_app (by omega), fi_app (h.m j hj)]
        · show [(s.L.length : Int)] = [fi (s.L ++ [nxt 84 (atL s.L i)]) (nxt 84 (atL (s.L ++ [nxt 84 (atL s.L i)]) i))]
          rw [atL_app hi]
          unfold fi
          rw [if_pos (by simp), List.idxOf_append, if_neg hm]
          simp
      · show nxt 84 (atL (s.L ++ [nxt 84 (atL s.L i)]) j) ∈ s.L ++ [nxt 84 (atL s.L i)]
        rw [atL_app (by omega)]
        by_cases ej : j = i
        · rw [ej]; simp
        · exact List.mem_append_left _ (h.m j (by omega))
theorem step83_T {s s' : PO} {i : Nat} {n : Nat} (h : TI s n) (hn : n ≤ s.L.length) (e : stepP i 83 s = some s') : TI s' n := by
  unfold stepP at e
  split at e
  · have e := Option.some.inj e
    subst e
    exact ⟨h.t, h.m⟩
  · split at e
    · cases e
    · have e := Option.some.inj e
      subst e
      exact TI_app h hn _ rfl rfl
theorem lp_T : ∀ (f i : Nat) (s s' : PO), 121 ≤ f + i → Good s → i ≤ s.L.length → s.L.length ≤ 120 → s.T.length ≤ i → s.S.length ≤ i → TI s i → lpP f s i = some s' → TI s' s'.L.length := by
  intro f
  induction f with
  | zero => intro i s s' h1 _ h2 h3; omega
  | succ f ih =>
    intro i s s' hf hg hi hl hT hS hti h
    rw [lpP] at h
    by_cases c : i < s.L.length
    · rw [if_pos c] at h
      cases e : roundP i s with
      | none => rw [e] at h; cases h
      | some s1 =>
        rw [e] at h
        obtain ⟨g1, i1, l1, t1, u1⟩ := round_good hg c hl hT hS e
        refine ih (i + 1) s1 s' (by omega) g1 (by omega) l1 t1 u1 ?_ h
        unfold roundP at e
        cases e84 : stepP i 84 s with
        | none => rw [e84] at e; cases e
        | some s0 =>
          rw [e84] at e
          have e83 : stepP i 83 s0 = some s1 := e
          have h0 := step_good hg c (by omega) (by omega) e84
          exact step83_T (step84_T hti c e84) (by have := h0.2.1; omega) e83
    · rw [if_neg c] at h
      have h := Option.some.inj h
      subst h
      have e : s.L.length = i := by omega
      rw [e]
      exact hti
theorem orbP_T {a : List Nat × List Nat} (ha : Sf a.1 a.2) {s : PO} (h : orbP a = some s) : TI s s.L.length :=
  lp_T 121 0 (start0 a) s (by omega) (start_good ha) (Nat.zero_le _) (by simp [start0]) (by simp [start0]) (by simp [start0]) ⟨rfl, fun j hj => by omega⟩ h
theorem orbR_T {r u : List Int} {s : PO} (h : orbR r u = some s) : TI s s.L.length := by
  unfold orbR at h
  by_cases c : surfB r u = true
  · rw [if_pos c] at h
    obtain ⟨r', u', rfl, rfl, hs⟩ := surf_nat c
    rw [N_I', N_I'] at h
    exact orbP_T (a := (r', u')) hs h
  · rw [if_neg c] at h; cases h
theorem shears_ev {L : List (List Nat × List Nat)} (hL : ∀ x ∈ L, Sf x.1 x.2) (hl : L.length ≤ 1000) : Ev (fun k => spec_l06Shears.f k (L.map oS)) ((List.range L.length).map (fun j => fi L (nxt 84 (atL L j)))) := by
  unfold spec_l06Shears.f
  have H : ∀ d i : Nat, i + d = L.length → Ev (fun k => spec_l06Shears.l0 k (L.map oS) ((List.range i).map (fun j => fi L (nxt 84 (atL L j)))) (L.map oS) (L.length : Int) (i : Int)) ((List.range L.length).map (fun j => fi L (nxt 84 (atL L j)))) := by
    intro d
    induction d with
    | zero =>
      intro i hi
      obtain rfl : i = L.length := by omega
      have c1 : ¬ ((L.length : Int) < (L.length : Int)) := by omega
      refine ev_succ ?_
      simp only [spec_l06Shears.l0, c1, if_false]
      exact Ev.now _
    | succ d ih =>
      intro i hi
      have hil : i < L.length := by omega
      have hy := hL _ (atL_mem hil)
      have c1 : (i : Int) < (L.length : Int) := by omega
      have c2 : (0 : Int) ≤ (i : Int) := by omega
      have c5 : ((List.range i).map (fun j => fi L (nxt 84 (atL L j)))).length < 17592186044416 := by rw [List.length_map, List.length_range]; omega
      have key := ih (i + 1) (by omega)
      have c3 := w64s i (by omega)
      have el : lt 84 (atL L i) = ((atL L i).1, thn (inv (atL L i).1) (atL L i).2) := if_pos rfl
      have h1 : Ev (fun k => spec_l05Shear.f k (I (atL L i).1) (I (atL L i).2)) (I (lt 84 (atL L i)).1, I (lt 84 (atL L i)).2) := by rw [el]; exact spec_shear hy
      refine ev_succ ?_
      simp only [spec_l06Shears.l0, c1, c2, List.length_map, rd_oS hil, if_true]
      refine Ev.bind h1 (Ev.bind (spec_canon (sf_lt hy 84).1) (Ev.bind (ofind_ev hL hl (nxt 84 (atL L i))) ?_))
      rw [List.length_map] at c5
      simp only [c5, c3, if_true]
      rw [List.range_succ, List.map_append] at key
      exact key
  rw [List.length_map]
  exact H L.length 0 (Nat.zero_add _)
theorem step_len {s s' : PO} {i : Nat} {c : Int} (e : stepP i c s = some s') : s.L.length ≤ s'.L.length := by
  unfold stepP at e
  split at e
  · have e := Option.some.inj e
    subst e
    exact Nat.le_refl _
  · split at e
    · cases e
    · have e := Option.some.inj e
      subst e
      show s.L.length ≤ (s.L ++ [_]).length
      rw [List.length_append]
      omega
theorem lp_len : ∀ (f i : Nat) (s s' : PO), lpP f s i = some s' → s.L.length ≤ s'.L.length := by
  intro f
  induction f with
  | zero => intro i s s' h; have h := Option.some.inj h; subst h; exact Nat.le_refl _
  | succ f ih =>
    intro i s s' h
    rw [lpP] at h
    split at h
    · cases e : roundP i s with
      | none => rw [e] at h; cases h
      | some s1 =>
        rw [e] at h
        have h1 := ih _ _ _ h
        unfold roundP at e
        cases e84 : stepP i 84 s with
        | none => rw [e84] at e; cases e
        | some s0 =>
          rw [e84] at e
          have e83 : stepP i 83 s0 = some s1 := e
          exact Nat.le_trans (step_len e84) (Nat.le_trans (step_len e83) h1)
    · have h := Option.some.inj h; subst h; exact Nat.le_refl _
theorem orbR_pos {r u : List Int} {s : PO} (h : orbR r u = some s) : 0 < s.L.length := by
  unfold orbR at h
  by_cases c : surfB r u = true
  · rw [if_pos c] at h
    exact lp_len _ _ _ _ h
  · rw [if_neg c] at h; cases h
end Go.Proofs.Ytcggfjpnfodbaaa.M
end
section
/- The reference's sorting. No conditions. -/
namespace Go.Proofs.Ytcggfjpnfodbaaa.M
set_option linter.unusedVariables false
set_option linter.unusedSimpArgs false
open Go.RowKit Go.Proofs.YtcggfjpnfodbaaaW.PrintWords Go.Proofs.YtcggfjpnfodbaaaW.PrintLast Go.Proofs.YtcggfjpnfodbaaaW.PrintMore Go.Proofs.Ytcggfjpnfodbaaa.A
theorem rd_leftD (a : List Nat) (z : Int) (b : List Nat) {k : Nat} (h : k < a.length) : rd (I a ++ z :: I b) (k : Int) = ((g a k : Nat) : Int) := by
  rw [← rdI]
  unfold rd
  rw [Int.toNat_natCast, List.getD_eq_getElem?_getD, List.getD_eq_getElem?_getD, List.getElem?_append_left (by rw [I_len]; exact h)]
theorem set_atD (a : List Nat) (z v : Int) (b : List Nat) : (I a ++ z :: I b).set a.length v = I a ++ v :: I b := by
  rw [← I_len a]
  exact set_mid (I a) z v (I b)
theorem take_gD {a : List Nat} {k : Nat} (h : k < a.length) : a.take (k + 1) = a.take k ++ [g a k] := by
  rw [g_get h, List.take_append_getElem h]
theorem down_put (acc : List Nat) (hf : Fall acc) (hl : acc.length ≤ 1000) (x : Nat) (L : List Int) (n j : Int) (res : List Int)
    (h : Ev (fun k => spec_l04Down.l0 k (I (insD x acc)) L n (wrap64 (j + 1))) res) :
    ∀ (k : Nat) (z : Int), k ≤ acc.length → (∀ y ∈ acc.drop k, y < x) → Ev (fun q => spec_l04Down.l1 q (I (acc.take k) ++ z :: I (acc.drop k)) (x : Int) (k : Int) L n j) res := by
  intro k
  induction k with
  | zero =>
    intro z _ hd
    have e := insD_at hf 0 (Nat.zero_le _) hd (.inl rfl)
    have hs := set_atD (acc.take 0) z (x : Int) (acc.drop 0)
    refine ev_succ ?_
    have c1 : ¬ (((0 : Nat) : Int) > 0) := by omega
    have c2 : (0 : Int) ≤ ((0 : Nat) : Int) := by omega
    have c3 : ((0 : Nat) : Int) < ((I (acc.take 0) ++ z :: I (acc.drop 0)).length : Int) := by simp; omega
    have c4 : (I (acc.take 0) ++ z :: I (acc.drop 0)).set ((0 : Nat) : Int).toNat (x : Int) = I (insD x acc) := by
      rw [e, ← I_app]
      exact hs
    simp only [spec_l04Down.l1, c1, c2, c3, c4, if_true, if_false]
    exact h
  | succ k ih =>
    intro z hk hd
    have hk' : k < acc.length := by omega
    have htl : (acc.take (k + 1)).length = k + 1 := by rw [List.length_take]; omega
    have c1 : ((k + 1 : Nat) : Int) > 0 := by omega
    have c5 : (0 : Int) ≤ (k : Int) := by omega
    have hlen : (I (acc.take (k + 1)) ++ z :: I (acc.drop (k + 1))).length = acc.length + 1 := by
      rw [List.length_append, List.length_cons, I_len, I_len, htl, List.length_drop]
      omega
    have c6 : (k : Int) < ((I (acc.take (k + 1)) ++ z :: I (acc.drop (k + 1))).length : Int) := by rw [hlen]; omega
    have c7 : (0 : Int) ≤ ((k + 1 : Nat) : Int) := by omega
    have c8 : ((k + 1 : Nat) : Int) < ((I (acc.take (k + 1)) ++ z :: I (acc.drop (k + 1))).length : Int) := by rw [hlen]; omega
    have hgk : g (acc.take (k + 1)) k = g acc k := by
      unfold g
      rw [List.getD_eq_getElem?_getD, List.getD_eq_getElem?_getD, List.getElem?_take]
      simp
    have c9 : rd (I (acc.take (k + 1)) ++ z :: I (acc.drop (k + 1))) (k : Int) = ((g acc k : Nat) : Int) := by
      rw [rd_leftD _ _ _ (by rw [htl]; omega), hgk]
    have c3 : wrap64 (((k + 1 : Nat) : Int) - 1) = (k : Int) := by rw [w64 (by omega) (by omega)]; omega
    refine ev_succ ?_
    by_cases hlt : g acc k < x
    · have c10 : ((g acc k : Nat) : Int) < (x : Int) := by exact_mod_cast hlt
      have hs : (I (acc.take (k + 1)) ++ z :: I (acc.drop (k + 1))).set (((k + 1 : Nat) : Int)).toNat ((g acc k : Nat) : Int) = I (acc.take k) ++ ((g acc k : Nat) : Int) :: I (acc.drop k) := by
        have h1 := set_atD (acc.take (k + 1)) z ((g acc k : Nat) : Int) (acc.drop (k + 1))
        rw [htl] at h1
        rw [Int.toNat_natCast, h1, take_gD hk', ← I_app, I_one, List.append_assoc]
        have h2 : acc.drop k = g acc k :: acc.drop (k + 1) := by rw [g_get hk']; exact List.drop_eq_getElem_cons hk'
        rw [h2]
        rfl
      have key := ih ((g acc k : Nat) : Int) (by omega) (fun y hy => by
        have h2 : acc.drop k = g acc k :: acc.drop (k + 1) := by rw [g_get hk']; exact List.drop_eq_getElem_cons hk'
        rw [h2] at hy
        rcases List.mem_cons.mp hy with rfl | hy
        · exact hlt
        · exact hd y hy)
      simp only [spec_l04Down.l1, c1, c3, c5, c6, c7, c8, c9, c10, hs, if_true]
      exact key
    · have c10 : ¬ (((g acc k : Nat) : Int) < (x : Int)) := by omega
      have e := insD_at hf (k + 1) hk hd (.inr (by show x ≤ g acc k; omega))
      have c4 : (I (acc.take (k + 1)) ++ z :: I (acc.drop (k + 1))).set (((k + 1 : Nat) : Int)).toNat (x : Int) = I (insD x acc) := by
        have h1 := set_atD (acc.take (k + 1)) z (x : Int) (acc.drop (k + 1))
        rw [htl] at h1
        rw [Int.toNat_natCast, h1, e, ← I_app]
        rfl
      simp only [spec_l04Down.l1, c1, c3, c4, c5, c6, c7, c8, c9, c10, if_true, if_false]
      exact h
theorem down_sorted (l : List Nat) (hl : l.length ≤ 1000) : Ev (fun k => spec_l04Down.f k (I l)) (I (sortD l)) := by
  unfold spec_l04Down.f
  have H : ∀ d j : Nat, j + d = l.length → ∀ acc : List Nat, Fall acc → acc.length = j → (l.drop j).foldl (fun a x => insD x a) acc = sortD l → Ev (fun k => spec_l04Down.l0 k (I acc) (I l) (l.length : Int) (j : Int)) (I (sortD l)) := by
    intro d
    induction d with
    | zero =>
      intro j hj acc hf ha he
      rw [List.drop_of_length_le (by omega)] at he
      refine ev_succ ?_
      have c1 : ¬ ((j : Int) < (l.length : Int)) := by omega
      simp only [spec_l04Down.l0, c1, if_false]
      rw [← he]
      exact Ev.now _
    | succ d ih =>
      intro j hj acc hf ha he
      have hjl : j < l.length := by omega
      rw [List.drop_eq_getElem_cons hjl, List.foldl_cons, ← g_get hjl] at he
      have key := ih (j + 1) (by omega) (insD (g l j) acc) (insD_fall hf) (by rw [insD_len, ha]) he
      have c3 := w64s j (by omega)
      rw [← c3] at key
      have put := down_put acc hf (by omega) (g l j) (I l) (l.length : Int) (j : Int) _ key acc.length 0 (Nat.le_refl _) (fun y hy => by rw [List.drop_length] at hy; simp at hy)
      rw [List.take_length, List.drop_length, I_nil] at put
      have q1 : acc.length + 1 ≤ 9000000000000000000 := by omega
      have c1 : (j : Int) < (l.length : Int) := by omega
      have c2 : (0 : Int) ≤ (j : Int) := by omega
      have c5 : (I acc).length < 17592186044416 := by rw [I_len]; omega
      have c4 : wrap64 (((I acc ++ [0]).length : Int) - 1) = (acc.length : Int) := by
        have e : ((I acc ++ [0]).length : Int) - 1 = (acc.length : Int) := by rw [List.length_append, I_len]; simp
        rw [e]
        exact w64 (by omega) (by omega)
      refine ev_succ ?_
      simp only [spec_l04Down.l0, c1, c2, c4, c5, rdI, I_len', if_true, Option.bind_some]
      exact put
  have key := H l.length 0 (Nat.zero_add _) [] List.Pairwise.nil rfl (by rw [List.drop_zero]; rfl)
  rw [← I_len l] at key
  exact key
end Go.Proofs.Ytcggfjpnfodbaaa.M
end
section
/- The cusps: the program and the reference agree. No conditions. -/
namespace Go.Proofs.Ytcggfjpnfodbaaa.M
set_option linter.unusedVariables false
set_option linter.unusedSimpArgs false
open Go.RowKit Go.Proofs.YtcggfjpnfodbaaaW.PrintWords Go.Proofs.YtcggfjpnfodbaaaW.PrintLast Go.Proofs.YtcggfjpnfodbaaaW.PrintMore Go.Proofs.Ytcggfjpnfodbaaa.A
theorem sort_ints (l : List Nat) (hl : l.length ≤ 1000) (h : ∀ y ∈ l, y ≤ 1000) : slices_SortFunc_int_int.f (I l) = some (I (sortD l)) := by
  unfold slices_SortFunc_int_int.f
  have e1 : (I l).map Int.toNat = l := N_I _
  have e2 : ∀ x ∈ I l, 0 ≤ x ∧ x ≤ 4611686018427387904 := by
    intro x hx
    obtain ⟨y, hy, rfl⟩ := List.mem_map.mp hx
    have := h y hy
    show 0 ≤ (y : Int) ∧ (y : Int) ≤ 4611686018427387904
    omega
  rw [if_pos ⟨e2, by rw [I_len]; omega⟩, e1]
  rfl
theorem cnt_set {seen : List Bool} {x : Nat} (hx : x < seen.length) (h : rdOf false seen (x : Int) = false) : (seen.set x true).count false + 1 = seen.count false := by
  have e : seen[x] = false := by
    have : rdOf false seen (x : Int) = seen[x] := by unfold rdOf; rw [Int.toNat_natCast, List.getD_eq_getElem?_getD, List.getElem?_eq_getElem hx]; rfl
    rw [← this]; exact h
  have hp : 0 < seen.count false := List.count_pos_iff.mpr (by rw [← e]; exact List.getElem_mem hx)
  rw [List.count_set hx, e]
  simp
  omega
theorem cusps_both (T : List Int) (n : Nat) (hT : T.length = n) (hn : n ≤ 120) (hr : ∀ j : Nat, j < n → ∃ y : Nat, y < n ∧ rd T (j : Int) = (y : Int)) : ∀ d i : Nat, i + d = n → ∀ (out : List Nat) (seen : List Bool), seen.length = n → out.length ≤ i → (∀ y ∈ out, y ≤ n) →
    ∃ res : List Int, res.length ≤ n ∧ Ev (fun k => spec_CuspsOf.l0 k T (I out) seen (n : Int) (i : Int)) (res, true) ∧ Ev (fun k => impl_CuspsOf.l0 k T (I out) seen (n : Int) (i : Int)) (res, true) := by
  intro d
  induction d with
  | zero =>
    intro i hi out seen hs ho hy
    obtain rfl : i = n := by omega
    have c1 : ¬ ((i : Int) < (i : Int)) := by omega
    refine ⟨I (sortD out), by rw [I_len, sortD_len]; exact ho, ev_succ ?_, ev_succ ?_⟩
    · simp only [spec_CuspsOf.l0, c1, if_false]
      exact Ev.bind (down_sorted out (by omega)) (Ev.now _)
    · have e := sort_ints out (by omega) (fun y h => by have := hy y h; omega)
      simp only [impl_CuspsOf.l0, c1, if_false, e, Option.bind_some]
      exact Ev.now _
  | succ d ih =>
    intro i hi out seen hs ho hy
    have hin : i < n := by omega
    have c1 : (i : Int) < (n : Int) := by omega
    have c3 := w64s i (by omega)
    have H : ∀ (m : Nat) (seen : List Bool), seen.length = n → seen.count false = m → ∀ c x : Nat, c + m ≤ n → x < n →
        ∃ res : List Int, res.length ≤ n ∧ Ev (fun k => spec_CuspsOf.l1 k T (I out) seen (c : Int) (x : Int) (n : Int) (i : Int)) (res, true) ∧ Ev (fun k => impl_CuspsOf.l1 k T (I out) seen (c : Int) (x : Int) (n : Int) (i : Int)) (res, true) := by
      intro m
      induction m with
      | zero =>
        intro seen hs hc c x hcm hx
        have b : rdOf false seen (x : Int) = true := by
          cases e : rdOf false seen (x : Int) with
          | true => rfl
          | false => have := cnt_set (by omega) e; omega
        have d1 : (0 : Int) ≤ (x : Int) := by omega
        have d2 : (x : Int) < (seen.length : Int) := by omega
        by_cases d3 : (c : Int) > 0
        · obtain ⟨res, h0, h1, h2⟩ := ih (i + 1) (by omega) (out ++ [c]) seen hs (by rw [List.length_append, List.length_singleton]; omega) (fun y h => by
            rcases List.mem_append.mp h with h | h
            · exact hy y h
            · obtain rfl : y = c := by simpa using h
              omega)
          have d4 : (I out).length < 17592186044416 := by rw [I_len]; omega
          have e1 : I out ++ [(c : Int)] = I (out ++ [c]) := by show I out ++ I [c] = I (out ++ [c]); rw [I_app]
          refine ⟨res, h0, ev_succ ?_, ev_succ ?_⟩
          · simp only [spec_CuspsOf.l1, d1, d2, b, d3, d4, c3, e1, if_true]; exact h1
          · simp only [impl_CuspsOf.l1, d1, d2, b, d3, d4, c3, e1, if_true]; exact h2
        · obtain ⟨res, h0, h1, h2⟩ := ih (i + 1) (by omega) out seen hs (by omega) hy
          refine ⟨res, h0, ev_succ ?_, ev_succ ?_⟩
          · simp only [spec_CuspsOf.l1, d1, d2, b, d3, c3, if_true, if_false]; exact h1
          · simp only [impl_CuspsOf.l1, d1, d2, b, d3, c3, if_true, if_false]; exact h2
      | succ m ihm =>
        intro seen hs hc c x hcm hx
        have d1 : (0 : Int) ≤ (x : Int) := by omega
        have d2 : (x : Int) < (seen.length : Int) := by omega
        cases b : rdOf false seen (x : Int) with
        | true =>
          by_cases d3 : (c : Int) > 0
          · obtain ⟨res, h0, h1, h2⟩ := ih (i + 1) (by omega) (out ++ [c]) seen hs (by rw [List.length_append, List.length_singleton]; omega) (fun y h => by
              rcases List.mem_append.mp h with h | h
              · exact hy y h
              · obtain rfl : y = c := by simpa using h
                omega)
            have d4 : (I out).length < 17592186044416 := by rw [I_len]; omega
            have e1 : I out ++ [(c : Int)] = I (out ++ [c]) := by show I out ++ I [c] = I (out ++ [c]); rw [I_app]
            refine ⟨res, h0, ev_succ ?_, ev_succ ?_⟩
            · simp only [spec_CuspsOf.l1, d1, d2, b, d3, d4, c3, e1, if_true]; exact h1
            · simp only [impl_CuspsOf.l1, d1, d2, b, d3, d4, c3, e1, if_true]; exact h2
          · obtain ⟨res, h0, h1, h2⟩ := ih (i + 1) (by omega) out seen hs (by omega) hy
            refine ⟨res, h0, ev_succ ?_, ev_succ ?_⟩
            · simp only [spec_CuspsOf.l1, d1, d2, b, d3, c3, if_true, if_false]; exact h1
            · simp only [impl_CuspsOf.l1, d1, d2, b, d3, c3, if_true, if_false]; exact h2
        | false =>
          have hc2 := cnt_set (by omega) b
          obtain ⟨y, hyn, ey⟩ := hr x hx
          have hsl : (seen.set x true).length = n := by rw [List.length_set]; exact hs
          obtain ⟨res, h0, h1, h2⟩ := ihm (seen.set x true) hsl (by omega) (c + 1) y (by omega) hyn
          have d5 : (x : Int) < (T.length : Int) := by omega
          have d6 := w64s c (by omega)
          refine ⟨res, h0, ev_succ ?_, ev_succ ?_⟩
          · simp only [spec_CuspsOf.l1, d1, d2, b, d5, d6, ey, Int.toNat_natCast, if_true, if_false, Bool.false_eq_true]; exact h1
          · simp only [impl_CuspsOf.l1, d1, d2, b, d5, d6, ey, Int.toNat_natCast, if_true, if_false, Bool.false_eq_true]; exact h2
    have hcl : seen.count false ≤ n := by rw [← hs]; exact List.count_le_length
    obtain ⟨res, h0, h1, h2⟩ := H (seen.count false) seen hs rfl 0 i (by omega) hin
    refine ⟨res, h0, ev_succ ?_, ev_succ ?_⟩
    · simp only [spec_CuspsOf.l0, c1, if_true]; exact h1
    · simp only [impl_CuspsOf.l0, c1, if_true]; exact h2
theorem cusps_ev (r u : List Int) : ∃ (l : List Int) (b : Bool), l.length ≤ 120 ∧ Ev (fun k => spec_CuspsOf.f k r u) (l, b) ∧ Ev (fun k => impl_CuspsOf.f k r u) (l, b) := by
  have ho := orbR_ev r u
  have hs := specOrb_ev r u
  unfold spec_CuspsOf.f impl_CuspsOf.f
  cases e : orbR r u with
  | none =>
    rw [e] at ho hs
    refine ⟨[], false, by simp, ?_, ?_⟩
    · refine Ev.bind hs ?_
      simp only [outL, Bool.false_eq_true, if_false]
      exact Ev.now _
    · exact Ev.bind ho (Ev.now _)
  | some s =>
    obtain ⟨hg, hl⟩ := orbR_good e
    have ht := orbR_T e
    have hp := orbR_pos e
    rw [e] at ho hs
    have hTl : s.T.length = s.L.length := by rw [ht.t, List.length_map, List.length_range]
    have hrd : ∀ j : Nat, j < s.L.length → ∃ y : Nat, y < s.L.length ∧ rd s.T (j : Int) = (y : Int) := by
      intro j hj
      refine ⟨s.L.idxOf (nxt 84 (atL s.L j)), List.idxOf_lt_length_of_mem (ht.m j hj), ?_⟩
      have e1 : fi s.L (nxt 84 (atL s.L j)) = ((s.L.idxOf (nxt 84 (atL s.L j)) : Nat) : Int) := if_pos (ht.m j hj)
      rw [ht.t, ← e1]
      unfold rd
      rw [Int.toNat_natCast, List.getD_eq_getElem?_getD]
      simp [hj]
    obtain ⟨res, h0, h1, h2⟩ := cusps_both s.T s.L.length hTl hl hrd s.L.length 0 (Nat.zero_add _) [] (List.replicate s.L.length false) (by simp) (Nat.le_refl _) (fun y h => by cases h)
    refine ⟨res, true, by omega, ?_, ?_⟩
    · refine Ev.bind hs ?_
      simp only [outL, if_true]
      refine Ev.bind (shears_ev hg.sf (by omega)) ?_
      rw [← ht.t]
      have q1 : (0 : Int) ≤ (s.T.length : Int) := by omega
      have q2 : ((s.T.length : Int)).toNat ≤ 281474976710656 := by rw [Int.toNat_natCast]; omega
      simp only [q1, q2, if_true]
      rw [Int.toNat_natCast, hTl]
      exact h1
    · refine Ev.bind ho ?_
      have el : s.orb.L.length = s.L.length := List.length_map _
      have q3 : s.orb.L.length ≤ 281474976710656 ∧ 0 < s.orb.T.length := ⟨by rw [el]; omega, by show 0 < s.T.length; omega⟩
      simp only [Option.map_some, q3, if_true, and_self]
      rw [el]
      exact h2
end Go.Proofs.Ytcggfjpnfodbaaa.M
end
section
/- The law of cusps answers true. No conditions. -/
namespace Go.Proofs.Ytcggfjpnfodbaaa.Pure
set_option linter.unusedVariables false
set_option linter.unusedSimpArgs false
open Go.RowKit Go.Proofs.YtcggfjpnfodbaaaW.PrintWords Go.Proofs.YtcggfjpnfodbaaaW.PrintLast Go.Proofs.YtcggfjpnfodbaaaW.PrintMore Go.Proofs.Ytcggfjpnfodbaaa.A Go.Proofs.Ytcggfjpnfodbaaa.M
theorem FnExactCuspsOf (r u : List Int) (hr : r.length ≤ maxLen) (_ : ∀ x ∈ r, (Lit.int .i64 x).wf = true) (hu : u.length ≤ maxLen) (_ : ∀ x ∈ u, (Lit.int .i64 x).wf = true) : ∃ k, laws_FnExactCuspsOf.F k r u := by
  unfold maxLen at hr hu
  unfold laws_FnExactCuspsOf.F
  by_cases h2 : r.length + u.length ≤ 1048576
  · obtain ⟨l, b, hl, ⟨K1, e1⟩, ⟨K2, e2⟩⟩ := cusps_ev r u
    obtain ⟨K3, e3⟩ := toSurf_ev r u (by omega) (by omega)
    obtain ⟨K4, e4⟩ := eqSurf_same r u (by omega) (by omega)
    obtain ⟨K5, e5⟩ := eqInts_same l (by omega)
    obtain ⟨K6, e6⟩ := markSurf_ev r u h2
    obtain ⟨K7, e7⟩ := mark_ev l 1 (by omega) (by omega)
    obtain ⟨K8, e8⟩ := held_ev l.length 1 (by omega) (by omega)
    exact ⟨K1 + K2 + K3 + K4 + K5 + K6 + K7 + K8, _, sz_small h2, .inr ⟨by omega, l, b, _, _, _, _, _, e3 _ (by omega), e4 _ (by omega), e1 _ (by omega), e2 _ (by omega), e5 _ (by omega), e6 _ (by omega), decide_eq_false (by omega), e7 _ (by omega), e8 _ (by omega), decide_eq_false (by omega)⟩⟩
  · exact ⟨0, _, sz_big (by omega) (by omega) h2, .inl (by omega)⟩
end Go.Proofs.Ytcggfjpnfodbaaa.Pure
end
