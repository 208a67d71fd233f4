/- Lemmas for the row FnExactOrbitOf: the program's functions told as plain functions, and plain mathematics. No conditions. -/
import Derived.Test.YtcggfjpnfodbaaaQFnExactOrbitOf4
section
/- The canonical form tells which surfaces are alike. No conditions. -/
namespace Go.Proofs.Ytcggfjpnfodbaaa.M
set_option linter.unusedVariables false
set_option linter.unusedSimpArgs false
theorem is_rS {s : List Nat × List Nat} (hs : Sf s.1 s.2) {i : Nat} (hi : i < s.1.length) : Is s (rS s.1 s.2 i) (g (nm s.1 s.2 i)) := by
  obtain ⟨p, l⟩ := isP_nm hs hi
  refine ⟨(rS_len i).1, fun x hx => ?_, fun x y hx hy e => g_inj p (by rw [l]; exact hx) (by rw [l]; exact hy) e, fun x hx => ?_, fun x hx => ?_⟩
  · have := g_lt p (i := x) (by rw [l]; exact hx)
    rw [l] at this
    exact this
  · have h1 := g_lt p (i := x) (by rw [l]; exact hx)
    rw [l] at h1
    show _ = g (ren s.1 (nm s.1 s.2 i)) _
    rw [g_ren h1, ix_g p (by rw [l]; exact hx)]
  · have h1 := g_lt p (i := x) (by rw [l]; exact hx)
    rw [l] at h1
    show _ = g (ren s.2 (nm s.1 s.2 i)) _
    rw [g_ren (by rw [hs.eq]; exact h1), ix_g p (by rw [l]; exact hx)]
theorem sf_rS {s : List Nat × List Nat} (hs : Sf s.1 s.2) {i : Nat} (hi : i < s.1.length) : Sf (rS s.1 s.2 i).1 (rS s.1 s.2 i).2 := by
  obtain ⟨p, l⟩ := isP_nm hs hi
  have h := rS_len (r := s.1) (u := s.2) i
  exact hs.of_is (is_rS hs hi) (isP_ren hs.pr p l.symm) (isP_ren hs.pu p (by rw [l, hs.eq])) (by rw [h.1, h.2, hs.eq])
theorem canK_at (r u : List Nat) : ∀ k, ∃ i, i ≤ k ∧ canK r u k = rS r u i := by
  intro k
  induction k with
  | zero => exact ⟨0, Nat.le_refl _, rfl⟩
  | succ k ih =>
    obtain ⟨i, hi, e⟩ := ih
    unfold canK
    split
    · exact ⟨k + 1, Nat.le_refl _, rfl⟩
    · exact ⟨i, by omega, e⟩
theorem canS_at {r u : List Nat} (hs : Sf r u) : ∃ i, i < r.length ∧ canS r u = rS r u i := by
  obtain ⟨i, hi, e⟩ := canK_at r u (r.length - 1)
  have := hs.pos
  exact ⟨i, by omega, e⟩
theorem sf_canS {s : List Nat × List Nat} (hs : Sf s.1 s.2) : Sf (canS s.1 s.2).1 (canS s.1 s.2).2 := by
  obtain ⟨i, hi, e⟩ := canS_at hs
  rw [e]
  exact sf_rS hs hi
end Go.Proofs.Ytcggfjpnfodbaaa.M
end
section
/- One round about a corner; first places in lists. No conditions. -/
namespace Go.Proofs.Ytcggfjpnfodbaaa.M
set_option linter.unusedVariables false
set_option linter.unusedSimpArgs false
open Go.RowKit Go.Proofs.YtcggfjpnfodbaaaW.PrintWords Go.Proofs.YtcggfjpnfodbaaaW.PrintLast Go.Proofs.YtcggfjpnfodbaaaW.PrintMore Go.Proofs.Ytcggfjpnfodbaaa.A
theorem impl_then {p q : List Nat} (hp : IsP p) (hq : IsP q) (hl : p.length = q.length) (h24 : p.length ≤ 24) : Ev (fun k => impl_ThenPerm.f k (I p) (I q)) (I (thn p q)) := by
  unfold impl_ThenPerm.f
  refine Ev.bind (impl_permOk (I p)) ?_
  have e1 : permB (I p) = true := permB_I.mpr ⟨hp, h24⟩
  have e2 : permB (I q) = true := permB_I.mpr ⟨hq, by omega⟩
  simp only [e1, if_true]
  refine Ev.bind (impl_permOk (I q)) ?_
  have e3 : ((p.length : Int) != (q.length : Int)) = false := by simp [hl]
  simp only [e2, if_true, I_len', e3]
  refine ev_succ ?_
  have h1 : (0 : Int) ≤ (p.length : Int) := by omega
  have h2 : p.length ≤ 35184372088832 := by omega
  simp only [impl_ThenPerm.j0, Bool.false_eq_true, if_false, I_len', h1, h2, if_true, Int.toNat_natCast]
  have H : ∀ (d i : Nat) (c : List Nat), i + d = p.length → c.length = p.length → (∀ j, j < i → g c j = g q (g p j)) → Ev (fun k => impl_ThenPerm.l0 k (I q) (I c) (I p) (p.length : Int) (i : Int)) (I (thn p q)) := by
    intro d
    induction d with
    | zero =>
      intro i c h hc hx
      refine ev_succ ?_
      have h1 : ¬ ((i : Int) < (p.length : Int)) := by omega
      have e : thn p q = c := by
        refine (eq_tab hc (fun j hj => hx j (by omega))).symm
      simp only [impl_ThenPerm.l0, h1, if_false]
      rw [e]
      exact Ev.now _
    | succ d ih =>
      intro i c h hc hx
      refine ev_succ ?_
      have hi : i < p.length := by omega
      have gp := g_lt hp hi
      have c1 : (i : Int) < (p.length : Int) := by omega
      have c2 : (0 : Int) ≤ (i : Int) := by omega
      have c3 : (0 : Int) ≤ ((g p i : Nat) : Int) := by omega
      have c4 : ((g p i : Nat) : Int) < (q.length : Int) := by omega
      have c5 : (i : Int) < (c.length : Int) := by omega
      have h3 := w64s i (by omega)
      simp only [impl_ThenPerm.l0, c1, c2, c3, c4, c5, h3, rdI, I_len', I_set, if_true, Int.toNat_natCast]
      refine ih (i + 1) _ (by omega) (by rw [List.length_set]; exact hc) (fun j hj => ?_)
      rw [g_set (by omega)]
      by_cases e : i = j
      · subst e
        simp
      · rw [if_neg e]
        exact hx j (by omega)
  have := H p.length 0 (List.replicate p.length 0) (by omega) (by simp) (fun j hj => by omega)
  rw [I_rep] at this
  exact this
end Go.Proofs.Ytcggfjpnfodbaaa.M
end
section
/- Slopes and paths: the program and the reference answer alike. No conditions. -/
namespace Go.Proofs.Ytcggfjpnfodbaaa.M
set_option linter.unusedVariables false
set_option linter.unusedSimpArgs false
open Go.RowKit Go.Proofs.YtcggfjpnfodbaaaW.PrintWords Go.Proofs.YtcggfjpnfodbaaaW.PrintLast Go.Proofs.YtcggfjpnfodbaaaW.PrintMore Go.Proofs.Ytcggfjpnfodbaaa.A
theorem tab_snoc (i : Nat) (f : Nat → Nat) : tab i f ++ [f i] = tab (i + 1) f := by unfold tab; rw [List.range_succ]; simp
theorem spec_then {p q : List Nat} (hp : ∀ i, i < p.length → g p i < q.length) (h : p.length ≤ 1000) : Ev (fun k => spec_l02Then.f k (I p) (I q)) (I (thn p q)) := by
  unfold spec_l02Then.f
  have H : ∀ d i : Nat, i + d = p.length → Ev (fun k => spec_l02Then.l0 k (I q) (I (tab i (fun i => g q (g p i)))) (I p) (p.length : Int) (i : Int)) (I (thn p q)) := by
    intro d
    induction d with
    | zero =>
      intro i h
      obtain rfl : i = p.length := by omega
      refine ev_succ ?_
      have h1 : ¬ ((p.length : Int) < (p.length : Int)) := by omega
      simp only [spec_l02Then.l0, h1, if_false]
      exact Ev.now _
    | succ d ih =>
      intro i h
      have hi : i < p.length := by omega
      have hg := hp i hi
      refine ev_succ ?_
      have h1 : (i : Int) < (p.length : Int) := by omega
      have h2 := w64s i (by omega)
      have h3 : (I (tab i (fun i => g q (g p i)))).length < 17592186044416 := by rw [I_len, tab_len]; omega
      have h4 : (0 : Int) ≤ (i : Int) := by omega
      have h5 : (0 : Int) ≤ ((g p i : Nat) : Int) := by omega
      have h6 : ((g p i : Nat) : Int) < (q.length : Int) := by omega
      have e := tab_snoc i (fun i => g q (g p i))
      simp only [spec_l02Then.l0, h1, h2, h3, h4, h5, h6, rdI, I_len', if_true, I_snoc, e]
      exact ih (i + 1) (by omega)
  have := H p.length 0 (by omega)
  simp only [I_len']
  exact this
def wk (r u : List Nat) (w : ByteArray) : Nat → Nat → Nat
  | 0, x => x
  | j + 1, x => if bt w (j : Int) = 114 then g r (wk r u w j x) else g u (wk r u w j x)
end Go.Proofs.Ytcggfjpnfodbaaa.M
end
section
/- Words of letters: the program and the reference act alike. No conditions. -/
namespace Go.Proofs.Ytcggfjpnfodbaaa.M
set_option linter.unusedVariables false
set_option linter.unusedSimpArgs false
open Go.RowKit Go.Proofs.YtcggfjpnfodbaaaW.PrintWords Go.Proofs.YtcggfjpnfodbaaaW.PrintLast Go.Proofs.YtcggfjpnfodbaaaW.PrintMore Go.Proofs.Ytcggfjpnfodbaaa.A
def lt (c : Int) (s : List Nat × List Nat) : List Nat × List Nat := if c = 84 then (s.1, thn (inv s.1) s.2) else if c = 116 then (s.1, thn s.1 s.2) else if c = 83 then (inv s.2, s.1) else (s.2, inv s.1)
theorem sf_lt {s : List Nat × List Nat} (hs : Sf s.1 s.2) (c : Int) : Sf (lt c s).1 (lt c s).2 ∧ (lt c s).1.length = s.1.length := by
  unfold lt
  split
  · exact ⟨sf_T hs, rfl⟩
  · split
    · exact ⟨sf_t hs, rfl⟩
    · split
      · exact ⟨sf_S hs, by show (inv s.2).length = _; rw [inv_len, hs.eq]⟩
      · exact ⟨sf_s hs, hs.eq⟩
theorem thn_small {r u : List Nat} (hs : Sf r u) : (∀ i, i < (inv r).length → g (inv r) i < u.length) ∧ (∀ i, i < r.length → g r i < u.length) := by
  constructor
  · intro i hi
    have := g_lt (isP_inv hs.pr) hi
    rw [inv_len] at this
    rw [hs.eq]
    exact this
  · intro i hi
    rw [hs.eq]
    exact g_lt hs.pr hi
theorem spec_letter {s : List Nat × List Nat} (hs : Sf s.1 s.2) (c : Int) : Ev (fun k => spec_l05Letter.f k (I s.1) (I s.2) c) (I (lt c s).1, I (lt c s).2) := by
  have hle := hs.le
  have heq := hs.eq
  have c1 : ([] : List Int).length + (I s.1).length < 17592186044416 := by rw [I_len]; simp; omega
  have c2 : ([] : List Int).length + (I s.2).length < 17592186044416 := by rw [I_len]; simp; omega
  obtain ⟨t1, t2⟩ := thn_small hs
  unfold spec_l05Letter.f lt
  by_cases h1 : c = 84
  · simp only [h1, if_true]
    refine Ev.bind (a := (I s.1, I (thn (inv s.1) s.2))) ?_ (Ev.now _)
    unfold spec_l05Shear.f
    simp only [Option.bind_some, c1, if_true, List.nil_append]
    exact Ev.bind (spec_inv hs.pr hs.le) (Ev.bind (spec_then t1 (by rw [inv_len]; omega)) (Ev.now _))
  · by_cases h2 : c = 116
    · have n1 : ¬ ((116 : Int) = 84) := by omega
      simp only [h2, n1, if_true, if_false]
      refine Ev.bind (a := (I s.1, I (thn s.1 s.2))) ?_ (Ev.now _)
      unfold spec_l05Unshear.f
      simp only [Option.bind_some, c1, if_true, List.nil_append]
      exact Ev.bind (spec_then t2 (by omega)) (Ev.now _)
    · by_cases h3 : c = 83
      · have n1 : ¬ ((83 : Int) = 84) := by omega
        have n2 : ¬ ((83 : Int) = 116) := by omega
        simp only [h3, n1, n2, if_true, if_false]
        refine Ev.bind (a := (I (inv s.2), I s.1)) ?_ (Ev.now _)
        unfold spec_l05Turn.f
        refine Ev.bind (spec_inv hs.pu (by omega)) ?_
        simp only [Option.bind_some, c1, if_true, List.nil_append]
        exact Ev.now _
      · simp only [h1, h2, h3, if_false]
        refine Ev.bind (a := (I s.2, I (inv s.1))) ?_ (Ev.now _)
        unfold spec_l05Unturn.f
        simp only [Option.bind_some, c2, if_true, List.nil_append]
        exact Ev.bind (spec_inv hs.pr hs.le) (Ev.now _)
def letB (c : Int) : Bool := decide (c = 84 ∨ c = 116 ∨ c = 83 ∨ c = 115)
theorem copy_ev (l : List Int) (h : l.length ≤ 1000000) : impl_copyInts.f l = some l := by
  unfold impl_copyInts.f
  have c1 : ([] : List Int).length + l.length < 17592186044416 := by simp; omega
  simp only [Option.bind_some, c1, if_true, List.nil_append]
theorem impl_letter {s : List Nat × List Nat} (hs : Sf s.1 s.2) (c : Int) (hc : letB c = true) : Ev (fun k => impl_letterSurface.f k (I s.1) (I s.2) c) (I (lt c s).1, I (lt c s).2) := by
  have hle := hs.le
  have heq := hs.eq
  have h0 := surfB_I.mpr hs
  have k1 := copy_ev (I s.1) (by rw [I_len]; omega)
  have k2 := copy_ev (I s.2) (by rw [I_len]; omega)
  have hc := of_decide_eq_true hc
  unfold impl_letterSurface.f lt
  by_cases h1 : c = 84
  · simp only [h1, if_true]
    refine Ev.bind (a := (I s.1, I (thn (inv s.1) s.2), true)) ?_ (Ev.now _)
    unfold impl_ShearSurface.f
    refine Ev.bind (impl_surf _ _) ?_
    simp only [h0, k1, if_true, Option.bind_some]
    exact Ev.bind (impl_inv hs.pr hs.le) (Ev.bind (impl_then (isP_inv hs.pr) hs.pu (by rw [inv_len, hs.eq]) (by rw [inv_len]; exact hs.le)) (Ev.now _))
  · by_cases h2 : c = 116
    · have n1 : ¬ ((116 : Int) = 84) := by omega
      simp only [h2, n1, if_true, if_false]
      refine Ev.bind (a := (I s.1, I (thn s.1 s.2), true)) ?_ (Ev.now _)
      unfold impl_UnshearSurface.f
      refine Ev.bind (impl_surf _ _) ?_
      simp only [h0, k1, if_true, Option.bind_some]
      exact Ev.bind (impl_then hs.pr hs.pu hs.eq.symm hs.le) (Ev.now _)
    · by_cases h3 : c = 83
      · have n1 : ¬ ((83 : Int) = 84) := by omega
        have n2 : ¬ ((83 : Int) = 116) := by omega
        simp only [h3, n1, n2, if_true, if_false]
        refine Ev.bind (a := (I (inv s.2), I s.1, true)) ?_ (Ev.now _)
        unfold impl_TurnSurface.f
        refine Ev.bind (impl_surf _ _) ?_
        simp only [h0, if_true]
        refine Ev.bind (impl_inv hs.pu (by omega)) ?_
        simp only [k1, Option.bind_some]
        exact Ev.now _
      · have h4 : c = 115 := by omega
        have n1 : ¬ ((115 : Int) = 84) := by omega
        have n2 : ¬ ((115 : Int) = 116) := by omega
        have n3 : ¬ ((115 : Int) = 83) := by omega
        simp only [h4, n1, n2, n3, if_true, if_false]
        refine Ev.bind (a := (I s.2, I (inv s.1), true)) ?_ (Ev.now _)
        unfold impl_UnturnSurface.f
        refine Ev.bind (impl_surf _ _) ?_
        simp only [h0, k2, if_true, Option.bind_some]
        exact Ev.bind (impl_inv hs.pr hs.le) (Ev.now _)
end Go.Proofs.Ytcggfjpnfodbaaa.M
end
section
/- Surfaces that are alike; surfaces that a word keeps. No conditions. -/
namespace Go.Proofs.Ytcggfjpnfodbaaa.M
set_option linter.unusedVariables false
set_option linter.unusedSimpArgs false
open Go.RowKit Go.Proofs.YtcggfjpnfodbaaaW.PrintWords Go.Proofs.YtcggfjpnfodbaaaW.PrintLast Go.Proofs.YtcggfjpnfodbaaaW.PrintMore Go.Proofs.Ytcggfjpnfodbaaa.A
theorem impl_same (a b : List Nat × List Nat) (h1 : a.1.length ≤ 1000000) (h2 : a.2.length ≤ 1000000) : Ev (fun k => impl_SameSurface.f k (I a.1) (I a.2) (I b.1) (I b.2)) (decide (a = b)) := by
  unfold impl_SameSurface.f
  refine Ev.bind (equal_ev a.1 b.1 (by omega)) ?_
  by_cases h : a.1 = b.1
  · have e : decide (a = b) = decide (a.2 = b.2) := by
      rw [decide_eq_decide, Prod.ext_iff]
      simp [h]
    rw [e]
    simp only [h, decide_true, if_true]
    exact Ev.bind (equal_ev a.2 b.2 (by omega)) (Ev.now _)
  · have e : decide (a = b) = false := by
      rw [decide_eq_false_iff_not]
      intro e
      exact h (by rw [e])
    rw [e]
    simp only [h, decide_false, Bool.false_eq_true, if_false]
    exact Ev.now _
theorem spec_same (a b : List Nat × List Nat) (h1 : a.1.length ≤ 1000000) (h2 : a.2.length ≤ 1000000) : Ev (fun k => spec_SameSurface.f k (I a.1) (I a.2) (I b.1) (I b.2)) (decide (a = b)) := by
  unfold spec_SameSurface.f
  refine Ev.bind (sameList_nat a.1 b.1 (by omega)) ?_
  by_cases h : a.1 = b.1
  · have e : decide (a = b) = decide (a.2 = b.2) := by
      rw [decide_eq_decide, Prod.ext_iff]
      simp [h]
    rw [e]
    simp only [h, decide_true, if_true]
    exact Ev.bind (sameList_nat a.2 b.2 (by omega)) (Ev.now _)
  · have e : decide (a = b) = false := by
      rw [decide_eq_false_iff_not]
      intro e
      exact h (by rw [e])
    rw [e]
    simp only [h, decide_false, Bool.false_eq_true, if_false]
    exact Ev.now _
end Go.Proofs.Ytcggfjpnfodbaaa.M
end
section
/- The orbit in plain words: the program and the reference run alike. No conditions. -/
namespace Go.Proofs.Ytcggfjpnfodbaaa.M
set_option linter.unusedVariables false
set_option linter.unusedSimpArgs false
open Go.RowKit Go.Proofs.YtcggfjpnfodbaaaW.PrintWords Go.Proofs.YtcggfjpnfodbaaaW.PrintLast Go.Proofs.YtcggfjpnfodbaaaW.PrintMore Go.Proofs.Ytcggfjpnfodbaaa.A
def oS (p : List Nat × List Nat) : S25 := ⟨I p.1, I p.2⟩
def nxt (c : Int) (s : List Nat × List Nat) : List Nat × List Nat := canS (lt c s).1 (lt c s).2
theorem sf_nxt {s : List Nat × List Nat} (hs : Sf s.1 s.2) (c : Int) : Sf (nxt c s).1 (nxt c s).2 := sf_canS (s := lt c s) (sf_lt hs c).1
structure PO where
  L : List (List Nat × List Nat)
  W : List ByteArray
  F : List Int
  B : List Int
  T : List Int
  S : List Int
def PO.orb (s : PO) : Orb := ⟨s.L.map oS, s.W, s.F, s.B, s.T, s.S⟩
def fi (L : List (List Nat × List Nat)) (x : List Nat × List Nat) : Int := if x ∈ L then ((L.idxOf x : Nat) : Int) else -1
def atL (L : List (List Nat × List Nat)) (i : Nat) : List Nat × List Nat := L.getD i ([], [])
def atW (W : List ByteArray) (i : Nat) : ByteArray := rdOf ByteArray.empty W (i : Int)
def stepP (i : Nat) (c : Int) (s : PO) : Option PO :=
  if nxt c (atL s.L i) ∈ s.L then some { s with T := if c = 84 then s.T ++ [((s.L.idxOf (nxt c (atL s.L i)) : Nat) : Int)] else s.T, S := if c = 84 then s.S else s.S ++ [((s.L.idxOf (nxt c (atL s.L i)) : Nat) : Int)] }
  else if s.L.length = 120 then none
  else some ⟨s.L ++ [nxt c (atL s.L i)], s.W ++ [atW s.W i ++ strOfNums [c]], s.F ++ [(i : Int)], s.B ++ [c], if c = 84 then s.T ++ [(s.L.length : Int)] else s.T, if c = 84 then s.S else s.S ++ [(s.L.length : Int)]⟩
def roundP (i : Nat) (s : PO) : Option PO := (stepP i 84 s).bind (stepP i 83)
def lpP : Nat → PO → Nat → Option PO
  | 0, s, _ => some s
  | f + 1, s, i => if i < s.L.length then (roundP i s).bind (fun s' => lpP f s' (i + 1)) else some s
structure Good (s : PO) : Prop where
  sf : ∀ x ∈ s.L, Sf x.1 x.2
  lw : s.W.length = s.L.length
  lf : s.F.length = s.L.length
  lb : s.B.length = s.L.length
  ws : ∀ j, j < s.L.length → (atW s.W j).size ≤ j
  lt : s.T.length ≤ 200
  ls : s.S.length ≤ 200
theorem atL_get {L : List (List Nat × List Nat)} {i : Nat} (h : i < L.length) : atL L i = L[i] := by simp [atL, List.getD_eq_getElem?_getD, h]
theorem atL_mem {L : List (List Nat × List Nat)} {i : Nat} (h : i < L.length) : atL L i ∈ L := by rw [atL_get h]; exact List.getElem_mem h
theorem rd_oS {L : List (List Nat × List Nat)} {i : Nat} (h : i < L.length) : rd_T25 (L.map oS) (i : Int) = oS (atL L i) := by
  unfold rd_T25
  rw [atL_get h]
  simp [List.getD_eq_getElem?_getD, h]
theorem str1 (c : Int) : (strOfNums [c]).size = 1 := by simp [strOfNums, ByteArray.size]
theorem oidx_ev {L : List (List Nat × List Nat)} (hL : ∀ x ∈ L, Sf x.1 x.2) (hl : L.length ≤ 1000) (x : List Nat × List Nat) : Ev (fun k => indexO k (L.map oS) (I x.1) (I x.2)) (fi L x) := by
  unfold indexO
  have c1 : (L.map oS).length < 4611686018427387904 := by rw [List.length_map]; omega
  simp only [c1, if_true]
  have H : ∀ (M : List (List Nat × List Nat)) (i : Nat), (∀ x ∈ M, Sf x.1 x.2) → Ev (fun k => idxS k (I x.1) (I x.2) (M.map oS) i) (if x ∈ M then ((i + M.idxOf x : Nat) : Int) else -1) := by
    intro M
    induction M with
    | nil => intro i _; exact Ev.now _
    | cons y M ih =>
      intro i hM
      have hy := hM y (by simp)
      have ly := hy.le
      have ly2 := hy.eq
      rw [List.map_cons]
      simp only [idxS]
      refine Ev.bind (impl_same y x (by omega) (by omega)) ?_
      by_cases e : y = x
      · subst e
        simp only [decide_true, if_true, List.mem_cons, true_or, List.idxOf_cons_self, Nat.add_zero]
        exact Ev.now _
      · have hb : (y == x) = false := beq_eq_false_iff_ne.mpr e
        simp only [e, decide_false, Bool.false_eq_true, if_false]
        have key := ih (i + 1) (fun z hz => hM z (by simp [hz]))
        have e1 : (if x ∈ y :: M then ((i + (y :: M).idxOf x : Nat) : Int) else -1) = (if x ∈ M then ((i + 1 + M.idxOf x : Nat) : Int) else -1) := by
          have e2 : x ∈ y :: M ↔ x ∈ M := by simp [Ne.symm e]
          rw [List.idxOf_cons, hb]
          by_cases hm : x ∈ M
          · rw [if_pos (e2.mpr hm), if_pos hm]
            simp only [cond_false]
            congr 1
            omega
          · rw [if_neg (fun h => hm (e2.mp h)), if_neg hm]
        rw [e1]
        exact key
  have key := H L 0 hL
  unfold fi
  simp only [Nat.zero_add] at key
  exact key
theorem ofind_ev {L : List (List Nat × List Nat)} (hL : ∀ x ∈ L, Sf x.1 x.2) (hl : L.length ≤ 1000) (x : List Nat × List Nat) : Ev (fun k => spec_l06Find.f k (L.map oS) (I x.1) (I x.2)) (fi L x) := by
  unfold spec_l06Find.f
  have H : ∀ d i : Nat, i + d = L.length → (∀ j, j < i → atL L j ≠ x) → Ev (fun k => spec_l06Find.l0 k (L.map oS) (L.length : Int) (i : Int) (I x.1) (I x.2)) (fi L x) := by
    intro d
    induction d with
    | zero =>
      intro i hi hn
      obtain rfl : i = L.length := by omega
      have e : fi L x = -1 := by
        unfold fi
        rw [if_neg]
        intro hm
        obtain ⟨j, hj, e⟩ := List.mem_iff_getElem.mp hm
        exact hn j hj (by rw [atL_get hj, e])
      refine ev_succ ?_
      have c1 : ¬ ((L.length : Int) < (L.length : Int)) := by omega
      simp only [spec_l06Find.l0, c1, if_false, e]
      exact Ev.now _
    | succ d ih =>
      intro i hi hn
      have hil : i < L.length := by omega
      have hy := hL _ (atL_mem hil)
      have ly := hy.le
      have ly2 := hy.eq
      have c1 : (i : Int) < (L.length : Int) := by omega
      have c2 : (0 : Int) ≤ (i : Int) := by omega
      have c3 := w64s i (by omega)
      refine ev_succ ?_
      simp only [spec_l06Find.l0, c1, c2, c3, List.length_map, rd_oS hil, if_true]
      refine Ev.bind (spec_same (atL L i) x (by omega) (by omega)) ?_
      by_cases e : atL L i = x
      · have ef : fi L x = (i : Int) := by
          unfold fi
          have hm : x ∈ L := by rw [← e]; exact atL_mem hil
          rw [if_pos hm]
          congr 1
          have h1 : L.idxOf x ≤ i := by
            apply Classical.byContradiction
            intro hlt
            have := List.not_of_lt_findIdx (xs := L) (p := (· == x)) (i := i) (by unfold List.idxOf at hlt; omega)
            rw [← atL_get hil, e] at this
            simp at this
          have h2 : ¬ L.idxOf x < i := by
            intro hlt
            have hlt2 : L.idxOf x < L.length := List.idxOf_lt_length_of_mem hm
            refine hn _ hlt ?_
            rw [atL_get hlt2]
            exact List.getElem_idxOf hlt2
          omega
        rw [ef]
        simp only [e, decide_true, if_true]
        exact Ev.now _
      · simp only [e, decide_false, Bool.false_eq_true, if_false]
        exact ih (i + 1) (by omega) (fun j hj => by
          by_cases ej : j = i
          · rw [ej]; exact e
          · exact hn j (by omega))
  have key := H L.length 0 (Nat.zero_add _) (fun j hj => by omega)
  rw [List.length_map]
  exact key
theorem fi_neg {L : List (List Nat × List Nat)} {x : List Nat × List Nat} : fi L x < 0 ↔ x ∉ L := by
  unfold fi
  by_cases h : x ∈ L
  · rw [if_pos h]; constructor
    · intro h2; omega
    · intro h2; exact absurd h h2
  · rw [if_neg h]; simp [h]
theorem let_ok {c : Int} (hc : c = 84 ∨ c = 83) : letB c = true := by
  rcases hc with rfl | rfl <;> rfl
theorem stpO_ev {s : PO} (hg : Good s) {i : Nat} (hi : i < s.L.length) (hl : s.L.length ≤ 120) {c : Int} (hc : c = 84 ∨ c = 83) : Ev (fun k => stpO k (i : Int) c s.orb) ((stepP i c s).map PO.orb) := by
  have hs := hg.sf _ (atL_mem hi)
  have h1 := impl_letter hs c (let_ok hc)
  have h2 := impl_canon (sf_lt hs c).1
  have h3 := oidx_ev hg.sf (by omega) (nxt c (atL s.L i))
  have c1 : (0 : Int) ≤ (i : Int) := by omega
  have c2 : (i : Int) < (s.orb.L.length : Int) := by show (i : Int) < ((s.L.map oS).length : Int); rw [List.length_map]; omega
  unfold stpO
  simp only [c1, c2, if_true]
  have e1 : rd_T25 s.orb.L (i : Int) = oS (atL s.L i) := rd_oS hi
  rw [e1]
  refine Ev.bind h1 (Ev.bind h2 (Ev.bind h3 ?_))
  have el : s.orb.L.length = s.L.length := List.length_map _
  have lw := hg.lw
  have lf := hg.lf
  have lb := hg.lb
  have lt' := hg.lt
  have ls := hg.ls
  by_cases hm : nxt c (atL s.L i) ∈ s.L
  · have hn : ¬ fi s.L (nxt c (atL s.L i)) < 0 := fun h => fi_neg.mp h hm
    have e2 : fi s.L (nxt c (atL s.L i)) = ((s.L.idxOf (nxt c (atL s.L i)) : Nat) : Int) := if_pos hm
    have c5 : s.orb.T.length < 1000000 ∧ s.orb.S.length < 1000000 := ⟨by show s.T.length < _; omega, by show s.S.length < _; omega⟩
    have e3 : stepP i c s = some { s with T := if c = 84 then s.T ++ [((s.L.idxOf (nxt c (atL s.L i)) : Nat) : Int)] else s.T, S := if c = 84 then s.S else s.S ++ [((s.L.idxOf (nxt c (atL s.L i)) : Nat) : Int)] } := if_pos hm
    rw [e3, e2]
    rw [e2] at hn
    rw [if_neg hn, if_pos c5]
    exact Ev.now _
  · have hn : fi s.L (nxt c (atL s.L i)) < 0 := fi_neg.mpr hm
    simp only [hn, if_true]
    by_cases h120 : s.L.length = 120
    · have e3 : stepP i c s = none := by unfold stepP; rw [if_neg hm, if_pos h120]
      have c6 : (s.orb.L.length : Int) = 120 := by rw [el]; omega
      rw [e3, if_pos c6]
      exact Ev.now _
    · have c6 : ¬ (s.orb.L.length : Int) = 120 := by rw [el]; omega
      have c7 : s.orb.L.length < 1000000 ∧ s.orb.W.length < 1000000 ∧ s.orb.F.length < 1000000 ∧ s.orb.B.length < 1000000 ∧ s.orb.T.length < 1000000 ∧ s.orb.S.length < 1000000 := ⟨by rw [el]; omega, by show s.W.length < _; omega, by show s.F.length < _; omega, by show s.B.length < _; omega, by show s.T.length < _; omega, by show s.S.length < _; omega⟩
      have c8 : (i : Int) < (s.orb.W.length : Int) := by show (i : Int) < (s.W.length : Int); omega
      have c9 : (rdOf ByteArray.empty s.orb.W (i : Int)).size + 1 ≤ 9223372036854775807 := by have := hg.ws i hi; show (atW s.W i).size + 1 ≤ _; omega
      have e3 : stepP i c s = some ⟨s.L ++ [nxt c (atL s.L i)], s.W ++ [atW s.W i ++ strOfNums [c]], s.F ++ [(i : Int)], s.B ++ [c], if c = 84 then s.T ++ [(s.L.length : Int)] else s.T, if c = 84 then s.S else s.S ++ [(s.L.length : Int)]⟩ := by unfold stepP; rw [if_neg hm, if_neg h120]
      rw [e3, if_neg c6, if_pos c7, if_pos c8, if_pos c9]
      have e4 : s.orb.L ++ [(⟨I (canS (lt c (atL s.L i)).1 (lt c (atL s.L i)).2).1, I (canS (lt c (atL s.L i)).1 (lt c (atL s.L i)).2).2⟩ : S25)] = (s.L ++ [nxt c (atL s.L i)]).map oS := by rw [List.map_append]; rfl
      refine Ev.of (k := 0) (fun k => LeO.refl _) ?_
      show some (some (Orb.mk _ _ _ _ _ _)) = some (some (Orb.mk _ _ _ _ _ _))
      rw [e4, el]
      rfl
theorem atW_app {W : List ByteArray} {j : Nat} (h : j < W.length) (x : ByteArray) : atW (W ++ [x]) j = atW W j := by
  unfold atW rdOf
  rw [Int.toNat_natCast, List.getD_eq_getElem?_getD, List.getD_eq_getElem?_getD, List.getElem?_append_left h]
theorem atW_last (W : List ByteArray) (x : ByteArray) : atW (W ++ [x]) W.length = x := by
  unfold atW rdOf
  rw [Int.toNat_natCast, List.getD_eq_getElem?_getD, List.getElem?_append_right (Nat.le_refl _)]
  simp
theorem step_good {s s' : PO} (hg : Good s) {i : Nat} (hi : i < s.L.length) {c : Int} (hT : s.T.length < 200) (hS : s.S.length < 200) (h : stepP i c s = some s') : Good s' ∧ i < s'.L.length ∧ s'.T.length ≤ s.T.length + 1 ∧ s'.S.length ≤ s.S.length + 1 ∧ (s.L.length ≤ 120 → s'.L.length ≤ 120) := by
  have hs := hg.sf _ (atL_mem hi)
  unfold stepP at h
  by_cases hm : nxt c (atL s.L i) ∈ s.L
  · rw [if_pos hm] at h
    have h := Option.some.inj h
    subst h
    have q1 : (if c = 84 then s.T ++ [((s.L.idxOf (nxt c (atL s.L i)) : Nat) : Int)] else s.T).length ≤ s.T.length + 1 := by split <;> simp
    have q2 : (if c = 84 then s.S else s.S ++ [((s.L.idxOf (nxt c (atL s.L i)) : Nat) : Int)]).length ≤ s.S.length + 1 := by split <;> simp
    exact ⟨⟨hg.sf, hg.lw, hg.lf, hg.lb, hg.ws, by show (if c = 84 then _ else _ : List Int).length ≤ 200; omega, by show (if c = 84 then _ else _ : List Int).length ≤ 200; omega⟩, hi, q1, q2, fun h => h⟩
  · rw [if_neg hm] at h
    by_cases h120 : s.L.length = 120
    · rw [if_pos h120] at h; cases h
    · rw [if_neg h120] at h
      have h := Option.some.inj h
      subst h
      have q1 : (if c = 84 then s.T ++ [(s.L.length : Int)] else s.T).length ≤ s.T.length + 1 := by split <;> simp
      have q2 : (if c = 84 then s.S else s.S ++ [(s.L.length : Int)]).length ≤ s.S.length + 1 := by split <;> simp
      refine ⟨⟨fun x hx => ?_, by simp [hg.lw], by simp [hg.lf], by simp [hg.lb], fun j hj => ?_, by show (if c = 84 then _ else _ : List Int).length ≤ 200; omega, by show (if c = 84 then _ else _ : List Int).length ≤ 200; omega⟩, by simp; omega, q1, q2, fun h => by simp; omega⟩
      · rcases List.mem_append.mp hx with hx | hx
        · exact hg.sf x hx
        · obtain rfl : x = nxt c (atL s.L i) := by simpa using hx
          exact sf_nxt hs c
      · have hj : j < s.L.length + 1 := by simpa using hj
        show (atW (s.W ++ [atW s.W i ++ strOfNums [c]]) j).size ≤ j
        by_cases e : j = s.L.length
        · rw [e, ← hg.lw, atW_last, ByteArray.size_append, str1, hg.lw]
          have := hg.ws i hi
          omega
        · rw [atW_app (by rw [hg.lw]; omega)]
          exact hg.ws j (by omega)
def stepU (i : Nat) (c : Int) (L : List (List Nat × List Nat)) (W : List ByteArray) : List (List Nat × List Nat) × List ByteArray := if nxt c (atL L i) ∈ L then (L, W) else (L ++ [nxt c (atL L i)], W ++ [atW W i ++ strOfNums [c]])
theorem stepU_of {s s' : PO} {i : Nat} {c : Int} (h : stepP i c s = some s') : stepU i c s.L s.W = (s'.L, s'.W) := by
  unfold stepP at h
  unfold stepU
  by_cases hm : nxt c (atL s.L i) ∈ s.L
  · rw [if_pos hm] at h ⊢
    have h := Option.some.inj h
    subst h
    rfl
  · rw [if_neg hm] at h ⊢
    by_cases h120 : s.L.length = 120
    · rw [if_pos h120] at h; cases h
    · rw [if_neg h120] at h
      have h := Option.some.inj h
      subst h
      rfl
theorem stepU_none {s : PO} {i : Nat} {c : Int} (h : stepP i c s = none) : (stepU i c s.L s.W).1.length = 121 := by
  unfold stepP at h
  unfold stepU
  by_cases hm : nxt c (atL s.L i) ∈ s.L
  · rw [if_pos hm] at h; cases h
  · rw [if_neg hm] at h ⊢
    by_cases h120 : s.L.length = 120
    · simp [h120]
    · rw [if_neg h120] at h; cases h
structure GoodU (L : List (List Nat × List Nat)) (W : List ByteArray) : Prop where
  sf : ∀ x ∈ L, Sf x.1 x.2
  lw : W.length = L.length
  ws : ∀ j, j < L.length → (atW W j).size ≤ j
theorem Good.u {s : PO} (h : Good s) : GoodU s.L s.W := ⟨h.sf, h.lw, h.ws⟩
theorem stepU_good {L : List (List Nat × List Nat)} {W : List ByteArray} (hg : GoodU L W) {i : Nat} (hi : i < L.length) (c : Int) : GoodU (stepU i c L W).1 (stepU i c L W).2 ∧ L.length ≤ (stepU i c L W).1.length ∧ (stepU i c L W).1.length ≤ L.length + 1 := by
  have hs := hg.sf _ (atL_mem hi)
  unfold stepU
  by_cases hm : nxt c (atL L i) ∈ L
  · rw [if_pos hm]; exact ⟨hg, Nat.le_refl _, by simp⟩
  · rw [if_neg hm]
    refine ⟨⟨fun x hx => ?_, by simp [hg.lw], fun j hj => ?_⟩, by simp, by simp⟩
    · rcases List.mem_append.mp hx with hx | hx
      · exact hg.sf x hx
      · obtain rfl : x = nxt c (atL L i) := by simpa using hx
        exact sf_nxt hs c
    · have hj : j < L.length + 1 := by simpa using hj
      show (atW (W ++ [atW W i ++ strOfNums [c]]) j).size ≤ j
      by_cases e : j = L.length
      · rw [e, ← hg.lw, atW_last, ByteArray.size_append, str1, hg.lw]
        have := hg.ws i hi
        omega
      · rw [atW_app (by rw [hg.lw]; omega)]
        exact hg.ws j (by omega)
theorem specU_ev {L : List (List Nat × List Nat)} {W : List ByteArray} (hg : GoodU L W) {i : Nat} (hi : i < L.length) (hl : L.length ≤ 1000) {j : Nat} {c : Int} (hj : j < 2) (hc : rd [84, 83] (j : Int) = c) (res : List S25 × List ByteArray × Bool)
    (H : Ev (fun k => spec_l06Orbit.l1 k ((stepU i c L W).1.map oS) (stepU i c L W).2 (i : Int) [84, 83] 2 ((j + 1 : Nat) : Int)) res) : Ev (fun k => spec_l06Orbit.l1 k (L.map oS) W (i : Int) [84, 83] 2 (j : Int)) res := by
  have hs := hg.sf _ (atL_mem hi)
  have h1 := spec_letter hs c
  have h2 := spec_canon (sf_lt hs c).1
  have h3 := ofind_ev hg.sf (by omega) (nxt c (atL L i))
  have c1 : (j : Int) < 2 := by omega
  have c2 : (0 : Int) ≤ (j : Int) := by omega
  have c3 := w64s j (by omega)
  have c4 : (j : Int) < (([84, 83] : List Int).length : Int) := by show (j : Int) < ((2 : Nat) : Int); omega
  have c5 : (0 : Int) ≤ (i : Int) := by omega
  have c6 : (i : Int) < ((L.map oS).length : Int) := by rw [List.length_map]; omega
  refine ev_succ ?_
  simp only [spec_l06Orbit.l1, c1, c2, c3, c4, c5, c6, hc, rd_oS hi, if_true, Option.bind_some]
  refine Ev.bind h1 (Ev.bind h2 (Ev.bind h3 ?_))
  unfold stepU at H
  by_cases hm : nxt c (atL L i) ∈ L
  · have hn : ¬ fi L (nxt c (atL L i)) < 0 := fun h => fi_neg.mp h hm
    rw [if_pos hm] at H
    simp only [hn, if_false]
    exact H
  · have hn : fi L (nxt c (atL L i)) < 0 := fi_neg.mpr hm
    rw [if_neg hm] at H
    have c7 : (L.map oS).length < 2932031007402 := by rw [List.length_map]; omega
    have c8 : (i : Int) < (W.length : Int) := by have := hg.lw; omega
    have c9 : (rdOf ByteArray.empty W (i : Int)).size + (strOfNums [c]).size ≤ 9223372036854775807 := by have := hg.ws i hi; rw [str1]; show (atW W i).size + 1 ≤ _; omega
    have c10 : W.length < 8796093022208 := by have := hg.lw; omega
    simp only [hn, c7, c8, c9, c10, if_true]
    have e4 : L.map oS ++ [(⟨I (canS (lt c (atL L i)).1 (lt c (atL L i)).2).1, I (canS (lt c (atL L i)).1 (lt c (atL L i)).2).2⟩ : S25)] = (L ++ [nxt c (atL L i)]).map oS := by rw [List.map_append]; rfl
    rw [e4]
    exact H
def specR : Option PO → List S25 × List ByteArray × Bool
  | none => ([], [], false)
  | some s => (s.L.map oS, s.W, true)
theorem orb_sim : ∀ (f i : Nat) (s : PO), 121 ≤ f + i → Good s → i ≤ s.L.length → s.L.length ≤ 120 → s.T.length ≤ i → s.S.length ≤ i → Ev (fun k => loopO k s.orb (i : Int)) ((lpP f s i).map PO.orb) ∧ Ev (fun k => spec_l06Orbit.l0 k (s.L.map oS) s.W (i : Int)) (specR (lpP f s i)) := by
  intro f
  induction f with
  | zero => intro i s h1 h2 h3 h4; omega
  | succ f ih =>
    intro i s hf hg hi0 hl hT hS
    have el : s.orb.L.length = s.L.length := List.length_map _
    by_cases hi : i < s.L.length
    · have c1 : (i : Int) < (s.orb.L.length : Int) := by rw [el]; omega
      have c2 : (i : Int) < ((s.L.map oS).length : Int) := by rw [List.length_map]; omega
      have c3 := w64s i (by omega)
      have hu := hg.u
      have e1 := stpO_ev hg hi hl (c := 84) (.inl rfl)
      have u1 := stepU_good hu hi 84
      have eL : lpP (f + 1) s i = (roundP i s).bind (fun s' => lpP f s' (i + 1)) := by rw [lpP, if_pos hi]
      have fin : ∀ (L2 : List (List Nat × List Nat)) (W2 : List ByteArray) (res : List S25 × List ByteArray × Bool), stepU i 83 (stepU i 84 s.L s.W).1 (stepU i 84 s.L s.W).2 = (L2, W2) → Ev (fun k => if ((L2.map oS).length : Int) > 120 then (some (([] : List S25), ([] : List ByteArray), false)) else spec_l06Orbit.l0 k (L2.map oS) W2 (wrap64 ((i : Int) + 1))) res → Ev (fun k => spec_l06Orbit.l0 k (s.L.map oS) s.W (i : Int)) res := by
        intro L2 W2 res e H
        refine ev_succ ?_
        simp only [spec_l06Orbit.l0, c2, if_true, Option.bind_some]
        refine specU_ev hu hi (by omega) (j := 0) (c := 84) (by omega) rfl res ?_
        have hi2 : i < (stepU i 84 s.L s.W).1.length := by omega
        refine specU_ev u1.1 hi2 (by omega) (j := 1) (c := 83) (by omega) rfl res ?_
        rw [e]
        refine ev_succ ?_
        have c9 : ¬ ((((1 + 1 : Nat) : Int)) < 2) := by omega
        simp only [spec_l06Orbit.l1, c9, if_false]
        exact H
      have impl0 : ∀ r : Option Orb, Ev (fun k => innerO k (i : Int) [84, 83] s.orb) r → Ev (fun k => match r with | none => some none | some s' => loopO k s' (wrap64 ((i : Int) + 1))) ((lpP (f + 1) s i).map PO.orb) → Ev (fun k => loopO k s.orb (i : Int)) ((lpP (f + 1) s i).map PO.orb) := by
        intro r h1 h2
        refine ev_succ ?_
        simp only [loopO, c1, if_true]
        exact Ev.bind h1 h2
      cases h84 : stepP i 84 s with
      | none =>
        have en : lpP (f + 1) s i = none := by rw [eL]; unfold roundP; rw [h84]; rfl
        have l121 := stepU_none h84
        rw [h84] at e1
        rw [en] at impl0 ⊢
        have u2 := stepU_good u1.1 (i := i) (by omega) 83
        have l2 : (stepU i 83 (stepU i 84 s.L s.W).1 (stepU i 84 s.L s.W).2).1.length > 120 := by omega
        refine ⟨impl0 none ?_ (Ev.now _), ?_⟩
        · unfold innerO
          exact Ev.bind e1 (Ev.now _)
        · revert l2
          generalize ep : stepU i 83 (stepU i 84 s.L s.W).1 (stepU i 84 s.L s.W).2 = p
          intro l2
          refine fin p.1 p.2 _ ep ?_
          have c9 : ((p.1.map oS).length : Int) > 120 := by rw [List.length_map]; omega
          simp only [c9, if_true]
          exact Ev.now _
      | some s1 =>
        obtain ⟨g1, i1, t1, ss1, l1⟩ := step_good hg hi (by omega) (by omega) h84
        have e2 := stpO_ev g1 i1 (l1 hl) (c := 83) (.inr rfl)
        have eu := stepU_of h84
        rw [h84] at e1
        have eR : lpP (f + 1) s i = (stepP i 83 s1).bind (fun s' => lpP f s' (i + 1)) := by rw [eL]; unfold roundP; rw [h84]; rfl
        cases h83 : stepP i 83 s1 with
        | none =>
          have en : lpP (f + 1) s i = none := by rw [eR, h83]; rfl
          have l121 := stepU_none h83
          rw [h83] at e2
          rw [en] at impl0 ⊢
          have l2 : (stepU i 83 (stepU i 84 s.L s.W).1 (stepU i 84 s.L s.W).2).1.length > 120 := by rw [eu, l121]; omega
          refine ⟨impl0 none ?_ (Ev.now _), ?_⟩
          · unfold innerO
            refine Ev.bind e1 ?_
            simp only [innerO]
            exact Ev.bind e2 (Ev.now _)
          · revert l2
            generalize ep : stepU i 83 (stepU i 84 s.L s.W).1 (stepU i 84 s.L s.W).2 = p
            intro l2
            refine fin p.1 p.2 _ ep ?_
            have c9 : ((p.1.map oS).length : Int) > 120 := by rw [List.length_map]; omega
            simp only [c9, if_true]
            exact Ev.now _
        | some s2 =>
          obtain ⟨g2, i2, t2, ss2, l2⟩ := step_good g1 i1 (by omega) (by omega) h83
          have eu2 := stepU_of h83
          rw [h83] at e2
          have es : lpP (f + 1) s i = lpP f s2 (i + 1) := by rw [eR, h83]; rfl
          have hT2 : s2.T.length ≤ i + 1 ∧ s2.S.length ≤ i + 1 := by
            have a1 : s1.S.length = s.S.length := by
              unfold stepP at h84
              split at h84
              · have h := Option.some.inj h84; subst h; rfl
              · split at h84
                · cases h84
                · have h := Option.some.inj h84; subst h; rfl
            have a2 : s2.T.length = s1.T.length := by
              unfold stepP at h83
              split at h83
              · have h := Option.some.inj h83; subst h; rfl
              · split at h83
                · cases h83
                · have h := Option.some.inj h83; subst h; rfl
            omega
          obtain ⟨k1, k2⟩ := ih (i + 1) s2 (by omega) g2 (by omega) (l2 (l1 hl)) hT2.1 hT2.2
          rw [es] at impl0 ⊢
          refine ⟨impl0 (some s2.orb) ?_ ?_, ?_⟩
          · unfold innerO
            refine Ev.bind e1 ?_
            simp only [innerO]
            refine Ev.bind e2 (Ev.now _)
          · simp only [c3]
            exact k1
          · refine fin s2.L s2.W _ (by rw [eu]; exact eu2) ?_
            have c9 : ¬ ((s2.L.map oS).length : Int) > 120 := by rw [List.length_map]; have := l2 (l1 hl); omega
            simp only [c9, if_false, c3]
            exact k2
    · have c1 : ¬ (i : Int) < (s.orb.L.length : Int) := by rw [el]; omega
      have c2 : ¬ (i : Int) < ((s.L.map oS).length : Int) := by rw [List.length_map]; omega
      have eL : lpP (f + 1) s i = some s := by rw [lpP, if_neg hi]
      rw [eL]
      constructor
      · refine ev_succ ?_
        simp only [loopO, c1, if_false]
        exact Ev.now _
      · refine ev_succ ?_
        simp only [spec_l06Orbit.l0, c2, if_false]
        exact Ev.now _
def start0 (a : List Nat × List Nat) : PO := ⟨[canS a.1 a.2], [⟨#[]⟩], [-1], [0], [], []⟩
def orbP (a : List Nat × List Nat) : Option PO := lpP 121 (start0 a) 0
theorem start_good {a : List Nat × List Nat} (ha : Sf a.1 a.2) : Good (start0 a) :=
  ⟨fun x hx => by obtain rfl : x = canS a.1 a.2 := (by simpa [start0] using hx); exact sf_canS ha, rfl, rfl, rfl, fun j hj => by
    have hj : j < 1 := hj
    obtain rfl : j = 0 := by omega
    exact Nat.le_refl _, by simp [start0], by simp [start0]⟩
theorem orb_both {a : List Nat × List Nat} (ha : Sf a.1 a.2) : Ev (fun k => orbitO k (I a.1) (I a.2)) ((orbP a).map PO.orb) ∧ Ev (fun k => spec_l06Orbit.f k (I a.1) (I a.2)) (specR (orbP a)) := by
  obtain ⟨h1, h2⟩ := orb_sim 121 0 (start0 a) (by omega) (start_good ha) (Nat.zero_le _) (by simp [start0]) (by simp [start0]) (by simp [start0])
  constructor
  · unfold orbitO
    refine Ev.bind (impl_canon ha) ?_
    simp only [if_true]
    exact h1
  · unfold spec_l06Orbit.f
    exact Ev.bind (spec_canon ha) h2
theorem orbO_no {r u : List Int} (h : ¬ surfB r u = true) : Ev (fun k => orbitO k r u) none := by
  unfold orbitO
  refine Ev.bind (impl_canon_no h) ?_
  simp only [Bool.false_eq_true, if_false]
  exact Ev.now _
end Go.Proofs.Ytcggfjpnfodbaaa.M
end
section
/- The orbit's size: the program and the reference agree. No conditions. -/
namespace Go.Proofs.Ytcggfjpnfodbaaa.M
set_option linter.unusedSimpArgs false
open Go.RowKit Go.Proofs.YtcggfjpnfodbaaaW.PrintWords Go.Proofs.YtcggfjpnfodbaaaW.PrintLast Go.Proofs.YtcggfjpnfodbaaaW.PrintMore Go.Proofs.Ytcggfjpnfodbaaa.A
def orbR (r u : List Int) : Option PO := if surfB r u = true then orbP (N r, N u) else none
theorem N_I' (l : List Nat) : N (I l) = l := N_I l
theorem orbR_I {a : List Nat × List Nat} (ha : Sf a.1 a.2) : orbR (I a.1) (I a.2) = orbP a := by
  unfold orbR
  rw [if_pos (surfB_I.mpr ha), N_I', N_I']
theorem orbR_ev (r u : List Int) : Ev (fun k => orbitO k r u) ((orbR r u).map PO.orb) := by
  by_cases h : surfB r u = true
  · obtain ⟨r', u', rfl, rfl, hs⟩ := surf_nat h
    rw [orbR_I (a := (r', u')) hs]
    exact (orb_both (a := (r', u')) hs).1
  · have e : orbR r u = none := if_neg h
    rw [e]
    exact orbO_no h
def outL : Option PO → List S25 × Bool
  | none => ([], false)
  | some s => (s.L.map oS, true)
theorem specOrb_ev (r u : List Int) : Ev (fun k => spec_OrbitOf.f k r u) (outL (orbR r u)) := by
  unfold spec_OrbitOf.f
  refine Ev.bind (spec_surf r u) ?_
  by_cases h : surfB r u = true
  · obtain ⟨r', u', rfl, rfl, hs⟩ := surf_nat h
    have k2 := (orb_both (a := (r', u')) hs).2
    rw [orbR_I (a := (r', u')) hs]
    simp only [h, if_true]
    refine Ev.bind k2 ?_
    cases orbP (r', u') with
    | none => exact Ev.now _
    | some s => exact Ev.now _
  · have e : orbR r u = none := if_neg h
    rw [e]
    simp only [h, if_false, Bool.false_eq_true]
    exact Ev.now _
end Go.Proofs.Ytcggfjpnfodbaaa.M
end
section
/- Is a surface in the orbit: the program and the reference agree. No conditions. -/
namespace Go.Proofs.Ytcggfjpnfodbaaa.M
set_option linter.unusedSimpArgs false
open Go.RowKit Go.Proofs.YtcggfjpnfodbaaaW.PrintWords Go.Proofs.YtcggfjpnfodbaaaW.PrintLast Go.Proofs.YtcggfjpnfodbaaaW.PrintMore Go.Proofs.Ytcggfjpnfodbaaa.A
theorem round_good {s s' : PO} {i : Nat} (hg : Good s) (hi : i < s.L.length) (hl : s.L.length ≤ 120) (hT : s.T.length ≤ i) (hS : s.S.length ≤ i) (h : roundP i s = some s') : Good s' ∧ i < s'.L.length ∧ s'.L.length ≤ 120 ∧ s'.T.length ≤ i + 1 ∧ s'.S.length ≤ i + 1 := by
  unfold roundP at h
  cases h84 : stepP i 84 s with
  | none => rw [h84] at h; cases h
  | some s1 =>
    rw [h84] at h
    have h83 : stepP i 83 s1 = some s' := h
    obtain ⟨g1, i1, t1, ss1, l1⟩ := step_good hg hi (by omega) (by omega) h84
    obtain ⟨g2, i2, t2, ss2, l2⟩ := step_good g1 i1 (by omega) (by omega) h83
    have a1 : s1.S.length = s.S.length := by
      unfold stepP at h84
      split at h84
      · have h := Option.some.inj h84; subst h; rfl
      · split at h84
        · cases h84
        · have h := Option.some.inj h84; subst h; rfl
    have a2 : s'.T.length = s1.T.length := by
      unfold stepP at h83
      split at h83
      · have h := Option.some.inj h83; subst h; rfl
      · split at h83
        · cases h83
        · have h := Option.some.inj h83; subst h; rfl
    exact ⟨g2, i2, l2 (l1 hl), by omega, by omega⟩
theorem lp_good : ∀ (f i : Nat) (s s' : PO), Good s → i ≤ s.L.length → s.L.length ≤ 120 → s.T.length ≤ i → s.S.length ≤ i → lpP f s i = some s' → Good s' ∧ s'.L.length ≤ 120 := by
  intro f
  induction f with
  | zero => intro i s s' hg _ hl _ _ h; have h := Option.some.inj h; subst h; exact ⟨hg, hl⟩
  | succ f ih =>
    intro i s s' hg hi hl hT hS h
    rw [lpP] at h
    by_cases c : i < s.L.length
    · rw [if_pos c] at h
      cases e : roundP i s with
      | none => rw [e] at h; cases h
      | some s1 =>
        rw [e] at h
        obtain ⟨g1, i1, l1, t1, u1⟩ := round_good hg c hl hT hS e
        exact ih (i + 1) s1 s' g1 (by omega) l1 t1 u1 h
    · rw [if_neg c] at h
      have h := Option.some.inj h
      subst h
      exact ⟨hg, hl⟩
theorem orbP_good {a : List Nat × List Nat} (ha : Sf a.1 a.2) {s : PO} (h : orbP a = some s) : Good s ∧ s.L.length ≤ 120 :=
  lp_good 121 0 (start0 a) s (start_good ha) (Nat.zero_le _) (by simp [start0]) (by simp [start0]) (by simp [start0]) h
theorem orbR_good {r u : List Int} {s : PO} (h : orbR r u = some s) : Good s ∧ s.L.length ≤ 120 := by
  unfold orbR at h
  by_cases c : surfB r u = true
  · rw [if_pos c] at h
    obtain ⟨r', u', rfl, rfl, hs⟩ := surf_nat c
    rw [N_I', N_I'] at h
    exact orbP_good (a := (r', u')) hs h
  · rw [if_neg c] at h; cases h
end Go.Proofs.Ytcggfjpnfodbaaa.M
end
section
/- The orbit as a list: the program and the reference agree. No conditions. -/
namespace Go.Proofs.Ytcggfjpnfodbaaa.M
set_option linter.unusedSimpArgs false
open Go.RowKit Go.Proofs.YtcggfjpnfodbaaaW.PrintWords Go.Proofs.YtcggfjpnfodbaaaW.PrintLast Go.Proofs.YtcggfjpnfodbaaaW.PrintMore Go.Proofs.Ytcggfjpnfodbaaa.A
theorem totF_oS : ∀ (L : List (List Nat × List Nat)), (∀ x ∈ L, Sf x.1 x.2) → totF (L.map oS) ≤ 48 * L.length
  | [], _ => Nat.le_refl _
  | x :: L, h => by
    have h1 := h x (by simp)
    have h2 := h1.le
    have h3 := h1.eq
    have ih := totF_oS L (fun y hy => h y (by simp [hy]))
    have e0 : (oS x).f0.length = x.1.length := I_len _
    have e1 : (oS x).f1.length = x.2.length := I_len _
    rw [List.map_cons, totF, e0, e1, List.length_cons]
    omega
theorem outL_ok (r u : List Int) : (outL (orbR r u)).1.length ≤ 120 ∧ totF (outL (orbR r u)).1 ≤ 10000 ∧ ∀ x ∈ (outL (orbR r u)).1, x.f0.length ≤ 1000000000 ∧ x.f1.length ≤ 1000000000 := by
  cases e : orbR r u with
  | none => exact ⟨by simp [outL], by simp [outL, totF], by simp [outL]⟩
  | some s =>
    obtain ⟨hg, hl⟩ := orbR_good e
    have h := totF_oS s.L hg.sf
    refine ⟨by show (s.L.map oS).length ≤ 120; rw [List.length_map]; exact hl, by show totF (s.L.map oS) ≤ 10000; omega, fun x hx => ?_⟩
    obtain ⟨y, hy, rfl⟩ := List.mem_map.mp hx
    have h1 := hg.sf y hy
    have h2 := h1.le
    have h3 := h1.eq
    have e0 : (oS y).f0.length = y.1.length := I_len _
    have e1 : (oS y).f1.length = y.2.length := I_len _
    omega
theorem implOrb_ev (r u : List Int) : Ev (fun k => impl_OrbitOf.f k r u) (outL (orbR r u)) := by
  unfold impl_OrbitOf.f
  refine Ev.bind (orbR_ev r u) ?_
  cases orbR r u with
  | none => exact Ev.now _
  | some s => exact Ev.now _
end Go.Proofs.Ytcggfjpnfodbaaa.M
end
section
/- The law of orbits answers true. No conditions. -/
namespace Go.Proofs.Ytcggfjpnfodbaaa.Pure
set_option linter.unusedVariables false
set_option linter.unusedSimpArgs false
open Go.RowKit Go.Proofs.YtcggfjpnfodbaaaW.PrintWords Go.Proofs.YtcggfjpnfodbaaaW.PrintLast Go.Proofs.YtcggfjpnfodbaaaW.PrintMore Go.Proofs.Ytcggfjpnfodbaaa.A Go.Proofs.Ytcggfjpnfodbaaa.M
theorem FnExactOrbitOf (r u : List Int) (hr : r.length ≤ maxLen) (_ : ∀ x ∈ r, (Lit.int .i64 x).wf = true) (hu : u.length ≤ maxLen) (_ : ∀ x ∈ u, (Lit.int .i64 x).wf = true) : ∃ k, laws_FnExactOrbitOf.F k r u := by
  unfold maxLen at hr hu
  unfold laws_FnExactOrbitOf.F
  by_cases h2 : r.length + u.length ≤ 1048576
  · obtain ⟨h3, h4, h5⟩ := outL_ok r u
    have E1 := specOrb_ev r u
    have E2 := implOrb_ev r u
    generalize outL (orbR r u) = z at h3 h4 h5 E1 E2
    obtain ⟨l, b⟩ := z
    obtain ⟨K1, e1⟩ := E1
    obtain ⟨K2, e2⟩ := E2
    obtain ⟨K3, e3⟩ := toSurf_ev r u (by omega) (by omega)
    obtain ⟨K4, e4⟩ := eqSurf_same r u (by omega) (by omega)
    obtain ⟨K5, e5⟩ := eqSurfS_same l (by show l.length ≤ _; exact Nat.le_trans h3 (by decide)) h5
    obtain ⟨K6, e6⟩ := markSurf_ev r u h2
    have q1 : (1 : Int) + (totF l : Int) ≤ 9000000000000000000 := by have : totF l ≤ 10000 := h4; omega
    have q2 : l.length ≤ 1000000000 := Nat.le_trans h3 (by decide)
    obtain ⟨K7, e7⟩ := markSurfS_ev l 1 (by omega) q1 q2
    obtain ⟨K8, e8⟩ := heldSurfS_ev l 1 (by omega) q1 q2
    exact ⟨K1 + K2 + K3 + K4 + K5 + K6 + K7 + K8, _, sz_small h2, .inr ⟨by omega, l, b, _, _, _, _, _, e3 _ (by omega), e4 _ (by omega), e1 _ (by omega), e2 _ (by omega), e5 _ (by omega), e6 _ (by omega), decide_eq_false (by omega), e7 _ (by omega), e8 _ (by omega), decide_eq_false (by omega)⟩⟩
  · exact ⟨0, _, sz_big (by omega) (by omega) h2, .inl (by omega)⟩
end Go.Proofs.Ytcggfjpnfodbaaa.Pure
end
