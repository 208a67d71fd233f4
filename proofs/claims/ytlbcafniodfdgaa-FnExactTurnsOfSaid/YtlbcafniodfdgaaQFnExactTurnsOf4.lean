/- Lemmas for the row FnExactTurnsOf: the program's functions told as plain functions, and plain mathematics. No conditions. -/
import Derived.Test.YtlbcafniodfdgaaQFnExactTurnsOf3
section
/- Plain mathematics: permutations as lists of numbers. No conditions. -/
namespace Go.Proofs.Ytlbcafniodfdgaa.M
set_option linter.unusedVariables false
set_option linter.unusedSimpArgs false
def I (l : List Nat) : List Int := l.map Int.ofNat
def g (p : List Nat) (i : Nat) : Nat := p.getD i 0
def tab (n : Nat) (f : Nat → Nat) : List Nat := (List.range n).map f
theorem I_len (l : List Nat) : (I l).length = l.length := by simp [I]
theorem I_inj {a b : List Nat} (h : I a = I b) : a = b := by
  unfold I at h
  exact (List.map_inj_right (fun x y hxy => Int.ofNat.inj hxy)).mp h
theorem tab_len (n : Nat) (f : Nat → Nat) : (tab n f).length = n := by simp [tab]
theorem g_tab {n : Nat} {f : Nat → Nat} {i : Nat} (h : i < n) : g (tab n f) i = f i := by simp [g, tab, List.getD_eq_getElem?_getD, h]
theorem g_get {p : List Nat} {i : Nat} (h : i < p.length) : g p i = p[i] := by simp [g, List.getD_eq_getElem?_getD, h]
theorem g_mem {p : List Nat} {i : Nat} (h : i < p.length) : g p i ∈ p := by rw [g_get h]; exact List.getElem_mem h
theorem mem_g {p : List Nat} {x : Nat} (h : x ∈ p) : ∃ i, i < p.length ∧ g p i = x := by
  obtain ⟨i, hi, rfl⟩ := List.mem_iff_getElem.mp h
  exact ⟨i, hi, g_get hi⟩
theorem ext_g {a b : List Nat} (hl : a.length = b.length) (h : ∀ i, i < a.length → g a i = g b i) : a = b := by
  apply List.ext_getElem hl
  intro i h1 h2
  rw [← g_get h1, ← g_get h2]
  exact h i h1
theorem eq_tab {l : List Nat} {n : Nat} {f : Nat → Nat} (hl : l.length = n) (h : ∀ i, i < n → g l i = f i) : l = tab n f :=
  ext_g (by rw [tab_len, hl]) (fun i hi => by rw [hl] at hi; rw [g_tab hi, h i hi])
theorem g_set {p : List Nat} {i x j : Nat} (h : i < p.length) : g (p.set i x) j = if i = j then x else g p j := by
  unfold g
  rw [List.getD_eq_getElem?_getD, List.getD_eq_getElem?_getD, List.getElem?_set]
  by_cases e : i = j
  · subst e
    simp [h]
  · simp [e]
theorem I_set (p : List Nat) (i x : Nat) : (I p).set i (x : Int) = I (p.set i x) := by simp [I, List.map_set]
theorem I_snoc (p : List Nat) (x : Nat) : I p ++ [(x : Int)] = I (p ++ [x]) := by simp [I]
theorem I_rep (n x : Nat) : I (List.replicate n x) = List.replicate n (x : Int) := by simp [I]
structure IsP (p : List Nat) : Prop where
  lt : ∀ x ∈ p, x < p.length
  nd : p.Nodup
instance (p : List Nat) : Decidable (IsP p) := decidable_of_iff ((∀ x ∈ p, x < p.length) ∧ p.Nodup) ⟨fun h => ⟨h.1, h.2⟩, fun h => ⟨h.lt, h.nd⟩⟩
theorem nodup_le (n : Nat) : ∀ l : List Nat, l.Nodup → (∀ x ∈ l, x < n) → l.length ≤ n := by
  induction n with
  | zero =>
    intro l _ h
    cases l with
    | nil => simp
    | cons a l => exact absurd (h a (by simp)) (by omega)
  | succ n ih =>
    intro l hn h
    have h1 := ih (l.erase n) (hn.erase n) (fun x hx => by
      have h2 := (List.Nodup.mem_erase_iff hn).mp hx
      have h3 := h x h2.2
      have h4 := h2.1
      omega)
    have h5 := @List.length_erase _ _ _ n l
    split at h5 <;> omega
theorem mem_all {p : List Nat} (hp : IsP p) {x : Nat} (h : x < p.length) : x ∈ p := by
  apply Classical.byContradiction
  intro hx
  have := nodup_le p.length (x :: p) (List.nodup_cons.mpr ⟨hx, hp.nd⟩) (fun y hy => by
    rcases List.mem_cons.mp hy with rfl | hy
    · exact h
    · exact hp.lt y hy)
  simp at this
  omega
theorem g_lt {p : List Nat} (hp : IsP p) {i : Nat} (h : i < p.length) : g p i < p.length := hp.lt _ (g_mem h)
theorem g_inj {p : List Nat} (hp : IsP p) {i j : Nat} (hi : i < p.length) (hj : j < p.length) (h : g p i = g p j) : i = j := by
  rw [g_get hi, g_get hj] at h
  have hw := List.pairwise_iff_getElem.mp hp.nd
  rcases Nat.lt_trichotomy i j with hij | hij | hij
  · exact absurd h (hw i j hi hj hij)
  · exact hij
  · exact absurd h.symm (hw j i hj hi hij)
def ix (p : List Nat) (x : Nat) : Nat := p.idxOf x
theorem ix_lt {p : List Nat} (hp : IsP p) {x : Nat} (h : x < p.length) : ix p x < p.length := List.idxOf_lt_length_of_mem (mem_all hp h)
theorem g_ix {p : List Nat} (hp : IsP p) {x : Nat} (h : x < p.length) : g p (ix p x) = x := by
  rw [g_get (ix_lt hp h)]
  exact List.getElem_idxOf (ix_lt hp h)
def inv (p : List Nat) : List Nat := tab p.length (ix p)
theorem inv_len (p : List Nat) : (inv p).length = p.length := tab_len _ _
theorem g_inv {p : List Nat} {i : Nat} (h : i < p.length) : g (inv p) i = ix p i := g_tab h
end Go.Proofs.Ytlbcafniodfdgaa.M
end
section
/- Plain mathematics: permutations of whole numbers, and what is reached by two of them. No conditions. -/
namespace Go.Proofs.Ytlbcafniodfdgaa.M
set_option linter.unusedVariables false
set_option linter.unusedSimpArgs false
open Go.RowKit Go.Proofs.YtlbcafniodfdgaaW.PrintWords Go.Proofs.YtlbcafniodfdgaaW.PrintLast Go.Proofs.YtlbcafniodfdgaaW.PrintMore
theorem w64 {x : Int} (h0 : -9223372036854775808 ≤ x) (h1 : x ≤ 9223372036854775807) : wrap64 x = x := by unfold wrap64; omega
theorem w64s (i : Nat) (h : i ≤ 9000000000000000000) : wrap64 ((i : Int) + 1) = ((i + 1 : Nat) : Int) := by rw [w64 (by omega) (by omega)]; omega
theorem ev_succ {α : Type} {f : Nat → Option α} {r : α} (h : Ev (fun k => f (k + 1)) r) : Ev f r := Ev.step (fun _ => rfl) h
theorem rdI (p : List Nat) (i : Nat) : rd (I p) (i : Int) = ((g p i : Nat) : Int) := by
  unfold rd g I
  simp only [Int.toNat_natCast, List.getD_eq_getElem?_getD, List.getElem?_map]
  cases p[i]? <;> rfl
theorem rd_get (l : List Int) (i : Nat) (h : i < l.length) : rd l (i : Int) = l[i] := by
  unfold rd
  simp [List.getD_eq_getElem?_getD, h]
theorem mem_I {p : List Nat} {x : Nat} : (x : Int) ∈ I p ↔ x ∈ p := by
  unfold I
  constructor
  · intro h
    obtain ⟨y, hy, e⟩ := List.mem_map.mp h
    have : y = x := Int.ofNat.inj e
    exact this ▸ hy
  · intro h
    exact List.mem_map.mpr ⟨x, h, rfl⟩
def PI (l : List Int) : Prop := l.length ≤ 24 ∧ (∀ x ∈ l, 0 ≤ x ∧ x < (l.length : Int)) ∧ l.Nodup
instance : DecidablePred PI := fun l => by unfold PI; infer_instance
def permB (l : List Int) : Bool := decide (PI l)
def N (l : List Int) : List Nat := l.map Int.toNat
theorem N_I (p : List Nat) : N (I p) = p := by
  unfold N I
  rw [List.map_map]
  exact List.map_id'' (fun x => rfl) p
theorem N_len (l : List Int) : (N l).length = l.length := by simp [N]
theorem I_N {l : List Int} (h : ∀ x ∈ l, 0 ≤ x) : I (N l) = l := by
  unfold N I
  rw [List.map_map]
  conv => rhs; rw [← List.map_id l]
  apply List.map_congr_left
  intro x hx
  have := h x hx
  simp only [Function.comp, id]
  show ((x.toNat : Nat) : Int) = x
  omega
theorem PI_nat {l : List Int} (h : PI l) : ∃ p, l = I p ∧ IsP p ∧ p.length ≤ 24 := by
  obtain ⟨h1, h2, h3⟩ := h
  refine ⟨N l, (I_N (fun x hx => (h2 x hx).1)).symm, ?_, by rw [N_len]; exact h1⟩
  have e := I_N (fun x hx => (h2 x hx).1)
  refine ⟨fun x hx => ?_, ?_⟩
  · have := (h2 (x : Int) (by rw [← e]; exact mem_I.mpr hx)).2
    rw [N_len]
    omega
  · rw [← e] at h3
    unfold I at h3
    exact (List.pairwise_map.mp h3).imp (fun {a b} hab hh => hab (by rw [hh]))
theorem PI_I {p : List Nat} : PI (I p) ↔ IsP p ∧ p.length ≤ 24 := by
  constructor
  · intro h
    obtain ⟨q, e, h1, h2⟩ := PI_nat h
    have := I_inj e
    subst this
    exact ⟨h1, h2⟩
  · intro ⟨h1, h2⟩
    refine ⟨by rw [I_len]; exact h2, fun x hx => ?_, ?_⟩
    · unfold I at hx
      obtain ⟨y, hy, rfl⟩ := List.mem_map.mp hx
      have := h1.lt y hy
      rw [I_len]
      exact ⟨Int.natCast_nonneg y, Int.ofNat_lt.mpr this⟩
    · unfold I
      exact List.pairwise_map.mpr (h1.nd.imp (fun {a b} hab hh => hab (Int.ofNat.inj hh)))
theorem permB_I {p : List Nat} : permB (I p) = true ↔ IsP p ∧ p.length ≤ 24 := by
  unfold permB
  rw [decide_eq_true_iff]
  exact PI_I
def okFrom (l : List Int) (i : Nat) : Prop := ∀ j : Nat, i ≤ j → j < l.length → 0 ≤ rd l (j : Int) ∧ rd l (j : Int) < (l.length : Int) ∧ rd l (j : Int) ∉ l.take j
theorem okFrom_end (l : List Int) (i : Nat) (h : l.length ≤ i) : okFrom l i := fun j h1 h2 => by omega
theorem okFrom_step {l : List Int} {i : Nat} (h : 0 ≤ rd l (i : Int) ∧ rd l (i : Int) < (l.length : Int) ∧ rd l (i : Int) ∉ l.take i) : okFrom l i ↔ okFrom l (i + 1) := by
  constructor
  · intro k j h1 h2
    exact k j (by omega) h2
  · intro k j h1 h2
    by_cases e : j = i
    · subst e
      exact h
    · exact k j (by omega) h2
theorem okFrom_not {l : List Int} {i : Nat} (hi : i < l.length) (h : ¬ (0 ≤ rd l (i : Int) ∧ rd l (i : Int) < (l.length : Int) ∧ rd l (i : Int) ∉ l.take i)) : ¬ okFrom l i := fun k => h (k i (Nat.le_refl _) hi)
theorem okFrom_PI {l : List Int} (h : l.length ≤ 24) : okFrom l 0 ↔ PI l := by
  constructor
  · intro k
    refine ⟨h, fun x hx => ?_, ?_⟩
    · obtain ⟨i, hi, rfl⟩ := List.mem_iff_getElem.mp hx
      have := k i (Nat.zero_le _) hi
      rw [rd_get l i hi] at this
      exact ⟨this.1, this.2.1⟩
    · refine List.pairwise_iff_getElem.mpr ?_
      intro i j hi hj hij e
      have := (k j (Nat.zero_le _) hj).2.2
      rw [rd_get l j hj, ← e] at this
      exact this (List.mem_take_iff_getElem.mpr ⟨i, by omega, rfl⟩)
  · intro ⟨_, h2, h3⟩ j _ hj
    rw [rd_get l j hj]
    refine ⟨(h2 _ (List.getElem_mem hj)).1, (h2 _ (List.getElem_mem hj)).2, fun hm => ?_⟩
    obtain ⟨i, hi, e⟩ := List.mem_take_iff_getElem.mp hm
    exact List.pairwise_iff_getElem.mp h3 i j (by omega) hj (by omega) e
theorem permB_of {l : List Int} {b : Bool} (h : l.length ≤ 24) (hb : b = true ↔ okFrom l 0) : b = permB l := by
  rw [Bool.eq_iff_iff, hb, okFrom_PI h]
  unfold permB
  rw [decide_eq_true_iff]
theorem take_succ (l : List Int) (i : Nat) (h : i < l.length) : l.take (i + 1) = l.take i ++ [rd l (i : Int)] := by
  rw [rd_get l i h, List.take_append_getElem h]
def st1 (out : List Nat) (x : Nat) : List Nat := if x ∈ out then out else out ++ [x]
def bfs (p q : List Nat) : Nat → Nat → List Nat → List Nat
  | 0, _, out => out
  | f + 1, a, out => if a < out.length then bfs p q f (a + 1) (st1 (st1 out (g p (g out a))) (g q (g out a))) else out
def reach (p q : List Nat) (s : Nat) : List Nat := bfs p q (p.length + 1) 0 [s]
structure RInv (n : Nat) (out : List Nat) : Prop where
  nd : out.Nodup
  lt : ∀ x ∈ out, x < n
theorem RInv.le {n : Nat} {out : List Nat} (h : RInv n out) : out.length ≤ n := nodup_le n out h.nd h.lt
theorem RInv.st {n : Nat} {out : List Nat} {x : Nat} (h : RInv n out) (hx : x < n) : RInv n (st1 out x) := by
  unfold st1
  split
  · exact h
  · rename_i hn
    refine ⟨List.nodup_append.mpr ⟨h.nd, by simp, fun a ha b hb e => ?_⟩, fun y hy => ?_⟩
    · have : b = x := by simpa using hb
      subst this
      exact hn (e ▸ ha)
    · rcases List.mem_append.mp hy with hy | hy
      · exact h.lt y hy
      · have : y = x := by simpa using hy
        omega
theorem st1_len (out : List Nat) (x : Nat) : out.length ≤ (st1 out x).length := by
  unfold st1
  split <;> simp
theorem RInv.g {n : Nat} {out : List Nat} {a : Nat} (h : RInv n out) (ha : a < out.length) : M.g out a < n := h.lt _ (g_mem ha)
structure Sf (r u : List Nat) : Prop where
  pr : IsP r
  pu : IsP u
  le : r.length ≤ 24
  eq : u.length = r.length
  pos : 0 < r.length
  all : (reach r u 0).length = r.length
def surfB (r u : List Int) : Bool := permB r && permB u && decide (r.length = u.length) && decide (0 < r.length) && ((reach (N r) (N u) 0).length == r.length)
theorem surf_nat {r u : List Int} (h : surfB r u = true) : ∃ r' u', r = I r' ∧ u = I u' ∧ Sf r' u' := by
  unfold surfB at h
  simp only [Bool.and_eq_true, decide_eq_true_eq, beq_iff_eq] at h
  obtain ⟨⟨⟨⟨h1, h2⟩, h3⟩, h4⟩, h5⟩ := h
  obtain ⟨r', rfl, a1, a2⟩ := PI_nat (of_decide_eq_true h1)
  obtain ⟨u', rfl, b1, b2⟩ := PI_nat (of_decide_eq_true h2)
  rw [N_I, N_I, I_len] at h5
  rw [I_len, I_len] at h3
  rw [I_len] at h4
  exact ⟨r', u', rfl, rfl, a1, b1, a2, h3.symm, h4, h5⟩
theorem surfB_I {r u : List Nat} : surfB (I r) (I u) = true ↔ Sf r u := by
  constructor
  · intro h
    obtain ⟨r', u', e1, e2, hs⟩ := surf_nat h
    have := I_inj e1
    have := I_inj e2
    subst_vars
    exact hs
  · intro h
    unfold surfB
    simp only [Bool.and_eq_true, decide_eq_true_eq, beq_iff_eq]
    rw [N_I, N_I, I_len, I_len]
    exact ⟨⟨⟨⟨permB_I.mpr ⟨h.pr, h.le⟩, permB_I.mpr ⟨h.pu, by have := h.le; have := h.eq; omega⟩⟩, h.eq.symm⟩, h.pos⟩, h.all⟩
end Go.Proofs.Ytlbcafniodfdgaa.M
end
section
/- The tests of permutations, program and reference, come to one plain test. No conditions. -/
namespace Go.Proofs.Ytlbcafniodfdgaa.M
set_option linter.unusedVariables false
set_option linter.unusedSimpArgs false
open Go.RowKit Go.Proofs.YtlbcafniodfdgaaW.PrintWords Go.Proofs.YtlbcafniodfdgaaW.PrintLast Go.Proofs.YtlbcafniodfdgaaW.PrintMore Go.Proofs.Ytlbcafniodfdgaa.A
theorem has_ev (l : List Int) (a : Int) (hl : l.length ≤ 1000000000) : Ev (fun k => spec_l02Has.f k l a) (decide (a ∈ l)) := by
  have H : ∀ d i : Nat, i + d = l.length → Ev (fun k => spec_l02Has.l0 k a l (l.length : Int) (i : Int)) (decide (a ∈ l.drop i)) := by
    intro d
    induction d with
    | zero =>
      intro i h
      refine ev_succ ?_
      have h1 : ¬ ((i : Int) < (l.length : Int)) := by omega
      have e : decide (a ∈ l.drop i) = false := by
        rw [List.drop_of_length_le (by omega)]
        simp
      simp only [spec_l02Has.l0, h1, if_false]
      rw [e]
      exact Ev.now _
    | succ d ih =>
      intro i h
      refine ev_succ ?_
      have hi : i < l.length := by omega
      have h1 : (i : Int) < (l.length : Int) := by omega
      have h2 : (0 : Int) ≤ (i : Int) := by omega
      have h3 := w64s i (by omega)
      have e := List.drop_eq_getElem_cons hi
      rw [← rd_get l i hi] at e
      by_cases hr : rd l (i : Int) = a
      · have e2 : decide (a ∈ l.drop i) = true := by rw [e, hr]; simp
        simp only [spec_l02Has.l0, h1, h2, hr, if_true]
        rw [e2]
        exact Ev.now _
      · have e2 : decide (a ∈ l.drop i) = decide (a ∈ l.drop (i + 1)) := by
          rw [e]
          have : ¬ a = rd l (i : Int) := fun h => hr h.symm
          simp [this]
        simp only [spec_l02Has.l0, h1, h2, h3, hr, if_true, if_false]
        rw [e2]
        exact ih (i + 1) (by omega)
  have := H l.length 0 (by omega)
  simpa [spec_l02Has.f] using this
theorem in_f (x : Int) (n : Nat) (hn : n ≤ 24) : spec_l01In.f x 0 (wrap64 ((n : Int) - 1)) = some (decide (0 ≤ x ∧ x < (n : Int))) := by
  unfold spec_l01In.f
  rw [w64 (by omega) (by omega)]
  by_cases h : x ≥ 0
  · rw [if_pos h]
    congr 1
    rw [Bool.eq_iff_iff, decide_eq_true_iff, decide_eq_true_iff]
    omega
  · rw [if_neg h]
    congr 1
    symm
    rw [decide_eq_false_iff_not]
    omega
theorem spec_permOk (l : List Int) : Ev (fun k => spec_PermOk.f k l) (permB l) := by
  unfold spec_PermOk.f
  by_cases h24 : (l.length : Int) > 24
  · simp only [h24, if_true]
    have : permB l = false := by
      unfold permB
      rw [decide_eq_false_iff_not]
      intro h
      have := h.1
      omega
    rw [this]
    exact Ev.now _
  · simp only [h24, if_false]
    have H : ∀ d i : Nat, i + d = l.length → ∃ b, Ev (fun k => spec_PermOk.l0 k l l (l.length : Int) (i : Int)) b ∧ (b = true ↔ okFrom l i) := by
      intro d
      induction d with
      | zero =>
        intro i h
        refine ⟨true, ev_succ ?_, by simp [okFrom_end l i (by omega)]⟩
        have h1 : ¬ ((i : Int) < (l.length : Int)) := by omega
        simp only [spec_PermOk.l0, h1, if_false]
        exact Ev.now _
      | succ d ih =>
        intro i h
        have hi : i < l.length := by omega
        have h1 : (i : Int) < (l.length : Int) := by omega
        have h1' : (i : Int) ≤ (l.length : Int) := by omega
        have h2 : (0 : Int) ≤ (i : Int) := by omega
        have h3 := w64s i (by omega)
        have hin := in_f (rd l (i : Int)) l.length (by omega)
        by_cases c1 : 0 ≤ rd l (i : Int) ∧ rd l (i : Int) < (l.length : Int)
        · have hh := has_ev (l.take i) (rd l (i : Int)) (by rw [List.length_take]; omega)
          by_cases c2 : rd l (i : Int) ∈ l.take i
          · refine ⟨false, ev_succ ?_, by simpa using okFrom_not hi (fun h => h.2.2 c2)⟩
            simp only [spec_PermOk.l0, h1, h1', h2, hin, c1, if_true, Option.bind_some, decide_true, Int.toNat_natCast, and_self]
            refine Ev.bind hh ?_
            simp only [c2, decide_true, if_true]
            exact Ev.now _
          · obtain ⟨b, i1, i2⟩ := ih (i + 1) (by omega)
            refine ⟨b, ev_succ ?_, by rw [i2]; exact (okFrom_step ⟨c1.1, c1.2, c2⟩).symm⟩
            simp only [spec_PermOk.l0, h1, h1', h2, h3, hin, c1, if_true, Option.bind_some, decide_true, Int.toNat_natCast, and_self]
            refine Ev.bind hh ?_
            simp only [c2, decide_false, Bool.false_eq_true, if_false]
            exact i1
        · refine ⟨false, ev_succ ?_, by simpa using okFrom_not hi (fun h => c1 ⟨h.1, h.2.1⟩)⟩
          simp only [spec_PermOk.l0, h1, h2, hin, c1, if_true, if_false, Option.bind_some, decide_false, Bool.false_eq_true]
          exact Ev.now _
    obtain ⟨b, i1, i2⟩ := H l.length 0 (by omega)
    rw [← permB_of (by omega) i2]
    exact i1
theorem rdOf_nat (s : List Bool) (x : Nat) : rdOf false s (x : Int) = s.getD x false := rfl
theorem getD_set (s : List Bool) (x y : Nat) (h : x < s.length) : (s.set x true).getD y false = if x = y then true else s.getD y false := by
  rw [List.getD_eq_getElem?_getD, List.getD_eq_getElem?_getD, List.getElem?_set]
  by_cases e : x = y
  · subst e
    simp [h]
  · simp [e]
theorem impl_permOk (l : List Int) : Ev (fun k => impl_PermOk.f k l) (permB l) := by
  unfold impl_PermOk.f
  by_cases h24 : (l.length : Int) > 24
  · simp only [h24, if_true]
    have : permB l = false := by
      unfold permB
      rw [decide_eq_false_iff_not]
      intro h
      have := h.1
      omega
    rw [this]
    exact Ev.now _
  · simp only [h24, if_false]
    have H : ∀ (d i : Nat) (s : List Bool), i + d = l.length → s.length = 24 → (∀ x : Nat, x < 24 → (s.getD x false = true ↔ (x : Int) ∈ l.take i)) → ∃ b, Ev (fun k => impl_PermOk.l0 k l s (i : Int)) b ∧ (b = true ↔ okFrom l i) := by
      intro d
      induction d with
      | zero =>
        intro i s h hs hx
        refine ⟨true, ev_succ ?_, by simp [okFrom_end l i (by omega)]⟩
        have h1 : ¬ ((i : Int) < (l.length : Int)) := by omega
        simp only [impl_PermOk.l0, h1, if_false]
        exact Ev.now _
      | succ d ih =>
        intro i s h hs hx
        have hi : i < l.length := by omega
        have h1 : (i : Int) < (l.length : Int) := by omega
        have h2 : (0 : Int) ≤ (i : Int) := by omega
        have h3 := w64s i (by omega)
        by_cases c1 : rd l (i : Int) < 0
        · refine ⟨false, ev_succ ?_, by simpa using okFrom_not hi (fun h => by omega)⟩
          simp only [impl_PermOk.l0, h1, h2, c1, if_true]
          exact Ev.now _
        · by_cases c2 : rd l (i : Int) ≥ (l.length : Int)
          · refine ⟨false, ev_succ ?_, by simpa using okFrom_not hi (fun h => by omega)⟩
            simp only [impl_PermOk.l0, h1, h2, c1, c2, if_true, if_false]
            exact Ev.now _
          · obtain ⟨x, ex⟩ : ∃ x : Nat, rd l (i : Int) = (x : Int) := ⟨(rd l (i : Int)).toNat, by omega⟩
            have hx24 : x < 24 := by omega
            by_cases c3 : s.getD x false = true
            · have hm := (hx x hx24).mp c3
              refine ⟨false, ev_succ ?_, by simpa using okFrom_not hi (fun h => h.2.2 (by rw [ex]; exact hm))⟩
              rw [ex] at c1 c2
              simp only [impl_PermOk.l0, h1, h2, ex, c1, c2, rdOf_nat, c3, if_true, if_false]
              exact Ev.now _
            · have hm : (x : Int) ∉ l.take i := fun h => c3 ((hx x hx24).mpr h)
              obtain ⟨b, i1, i2⟩ := ih (i + 1) (s.set x true) (by omega) (by rw [List.length_set]; exact hs) (fun y hy => by
                rw [getD_set s x y (by omega), take_succ l i hi, ex]
                by_cases e : x = y
                · subst e
                  simp
                · rw [if_neg e, hx y hy]
                  have : ¬ (y : Int) = (x : Int) := by omega
                  simp [this])
              refine ⟨b, ev_succ ?_, by rw [i2]; exact (okFrom_step ⟨by omega, by omega, by rw [ex]; exact hm⟩).symm⟩
              rw [ex] at c1 c2
              simp only [impl_PermOk.l0, h1, h2, h3, ex, c1, c2, rdOf_nat, c3, if_true, if_false, Int.toNat_natCast]
              exact i1
    obtain ⟨b, i1, i2⟩ := H l.length 0 (List.replicate 24 false) (by omega) rfl (fun x hx => by
      have : (List.replicate 24 false).getD x false = false := by
        rw [List.getD_eq_getElem?_getD, List.getElem?_replicate]
        simp [hx]
      rw [this]
      simp)
    rw [← permB_of (by omega) i2]
    exact i1
end Go.Proofs.Ytlbcafniodfdgaa.M
end
section
/- The tests of surfaces, program and reference, come to one plain test. No conditions. -/
namespace Go.Proofs.Ytlbcafniodfdgaa.M
set_option linter.unusedVariables false
set_option linter.unusedSimpArgs false
open Go.RowKit Go.Proofs.YtlbcafniodfdgaaW.PrintWords Go.Proofs.YtlbcafniodfdgaaW.PrintLast Go.Proofs.YtlbcafniodfdgaaW.PrintMore Go.Proofs.Ytlbcafniodfdgaa.A
theorem I_pair (a b : Nat) : ([(a : Int), (b : Int)] : List Int) = I [a, b] := rfl
theorem I_len' (l : List Nat) : ((I l).length : Int) = (l.length : Int) := by rw [I_len]
theorem st1_I (out : List Nat) (x : Nat) : I (st1 out x) = if (x : Int) ∈ I out then I out else I out ++ [(x : Int)] := by
  unfold st1
  by_cases h : x ∈ out
  · rw [if_pos h, if_pos (mem_I.mpr h)]
  · rw [if_neg h, if_neg (fun k => h (mem_I.mp k)), I_snoc]
theorem reach_one (p q out pr : List Nat) (a : Nat) (j : Nat) (hj : j < pr.length) (hp : pr.length ≤ 2) (hl : out.length ≤ 1000) (r : List Int)
    (H : Ev (fun k => spec_l02Reach.l1 k (I p) (I q) (I (st1 out (g pr j))) (a : Int) (I pr) (pr.length : Int) ((j + 1 : Nat) : Int)) r) :
    Ev (fun k => spec_l02Reach.l1 k (I p) (I q) (I out) (a : Int) (I pr) (pr.length : Int) (j : Int)) r := by
  refine ev_succ ?_
  have h1 : (j : Int) < (pr.length : Int) := by omega
  have h2 : (0 : Int) ≤ (j : Int) := by omega
  have h3 := w64s j (by omega)
  have h4 : (I out).length < 17592186044416 := by rw [I_len]; omega
  have hh := has_ev (I out) ((g pr j : Nat) : Int) (by rw [I_len]; omega)
  simp only [spec_l02Reach.l1, h1, h2, h3, h4, rdI, I_len', if_true]
  refine Ev.bind hh ?_
  rw [st1_I] at H
  by_cases hm : ((g pr j : Nat) : Int) ∈ I out
  · rw [if_pos hm] at H
    simp only [hm, decide_true, if_true]
    exact H
  · rw [if_neg hm] at H
    simp only [hm, decide_false, Bool.false_eq_true, if_false]
    exact H
theorem reach_loop {p q : List Nat} (hp : IsP p) (hq : IsP q) (hl : q.length = p.length) (h24 : p.length ≤ 24) (f : Nat) : ∀ (a : Nat) (out : List Nat), RInv p.length out → a ≤ out.length → p.length < f + a →
    Ev (fun k => spec_l02Reach.l0 k (I p) (I q) (I out) (a : Int)) (I (bfs p q f a out)) := by
  induction f with
  | zero =>
    intro a out hr ha hf
    have := hr.le
    omega
  | succ f ih =>
    intro a out hr ha hf
    have hle := hr.le
    refine ev_succ ?_
    by_cases h : a < out.length
    · have h1 : (a : Int) < (out.length : Int) := by omega
      have h2 : (0 : Int) ≤ (a : Int) := by omega
      have hx := hr.g h
      have h3 : ((g out a : Nat) : Int) < (p.length : Int) := by omega
      have h4 : (0 : Int) ≤ ((g out a : Nat) : Int) := by omega
      have h5 : ((g out a : Nat) : Int) < (q.length : Int) := by omega
      have h6 := w64s a (by omega)
      simp only [spec_l02Reach.l0, h1, h2, h3, h4, h5, rdI, I_len', if_true, Option.bind_some, I_pair]
      have r1 := hr.st (g_lt hp hx)
      have r2 := r1.st (x := g q (g out a)) (by have := g_lt hq (i := g out a) (by omega); omega)
      have hb : bfs p q (f + 1) a out = bfs p q f (a + 1) (st1 (st1 out (g p (g out a))) (g q (g out a))) := by
        rw [bfs, if_pos h]
      rw [hb]
      have i1 := ih (a + 1) _ r2 (by have := st1_len out (g p (g out a)); have := st1_len (st1 out (g p (g out a))) (g q (g out a)); omega) (by omega)
      refine reach_one p q out [g p (g out a), g q (g out a)] a 0 (by simp) (by simp) (by omega) _ ?_
      refine reach_one p q _ [g p (g out a), g q (g out a)] a 1 (by simp) (by simp) (by have := r1.le; simp only [g, List.getD_cons_zero] at this ⊢; omega) _ ?_
      refine ev_succ ?_
      have h7 : ¬ (((1 + 1 : Nat) : Int) < (([g p (g out a), g q (g out a)] : List Nat).length : Int)) := by simp
      simp only [spec_l02Reach.l1, h7, h6, if_false]
      exact i1
    · have h1 : ¬ ((a : Int) < (out.length : Int)) := by omega
      have hb : bfs p q (f + 1) a out = out := by rw [bfs, if_neg h]
      rw [hb]
      simp only [spec_l02Reach.l0, h1, I_len', if_false]
      exact Ev.now _
theorem reach_ev {p q : List Nat} (hp : IsP p) (hq : IsP q) (hl : q.length = p.length) (h24 : p.length ≤ 24) (s : Nat) (hs : s < p.length) : Ev (fun k => spec_l02Reach.f k (I p) (I q) (s : Int)) (I (reach p q s)) := by
  unfold spec_l02Reach.f reach
  exact reach_loop hp hq hl h24 (p.length + 1) 0 [s] ⟨by simp, by simpa using hs⟩ (by simp) (by omega)
theorem len_ne_false {r u : List Int} (h : r.length ≠ u.length) : surfB r u = false := by
  unfold surfB
  simp [h]
theorem surfB_mk {r u : List Int} (h1 : permB r = true) (h2 : permB u = true) (h3 : r.length = u.length) (h4 : 0 < r.length) : surfB r u = ((reach (N r) (N u) 0).length == r.length) := by
  unfold surfB
  simp [h1, h2, h3, h4]
  intro _
  omega
theorem spec_trans (r u : List Int) : Ev (fun k => spec_IsTransitive.f k r u) (surfB r u) := by
  unfold spec_IsTransitive.f
  refine Ev.bind (spec_permOk r) ?_
  by_cases h1 : permB r = true
  · simp only [h1, if_true]
    refine Ev.bind (spec_permOk u) ?_
    by_cases h2 : permB u = true
    · simp only [h2, if_true]
      by_cases h3 : (r.length : Int) = (u.length : Int)
      · have h3' : r.length = u.length := by omega
        by_cases h4 : (r.length : Int) > 0
        · have h4' : 0 < r.length := by omega
          rw [surfB_mk h1 h2 h3' h4']
          obtain ⟨p, rfl, a1, a2⟩ := PI_nat (of_decide_eq_true h1)
          obtain ⟨q, rfl, b1, b2⟩ := PI_nat (of_decide_eq_true h2)
          rw [I_len, I_len] at h3'
          rw [I_len] at h4'
          have := reach_ev a1 b1 h3'.symm a2 0 h4'
          simp only [h3, h4, if_true]
          rw [h3] at h4
          simp only [h4, if_true]
          refine Ev.bind this ?_
          rw [N_I, N_I]
          have e : (((I (reach p q 0)).length : Int) == ((I q).length : Int)) = ((reach p q 0).length == (I p).length) := by
            rw [I_len, I_len, I_len, Bool.eq_iff_iff, beq_iff_eq, beq_iff_eq]
            omega
          rw [← h3] at e
          simp only [h3] at e
          rw [← e]
          exact Ev.now _
        · simp only [h3, if_true]
          rw [h3] at h4
          simp only [h4, if_false]
          have : surfB r u = false := by
            unfold surfB
            have : ¬ 0 < r.length := by omega
            simp [this]
          rw [this]
          exact Ev.now _
      · simp only [h3, if_false]
        rw [len_ne_false (by omega)]
        exact Ev.now _
    · have h2' := Bool.eq_false_iff.mpr h2
      simp only [h2', Bool.false_eq_true, if_false]
      have : surfB r u = false := by unfold surfB; simp [h2']
      rw [this]
      exact Ev.now _
  · have h1' := Bool.eq_false_iff.mpr h1
    simp only [h1', Bool.false_eq_true, if_false]
    have : surfB r u = false := by unfold surfB; simp [h1']
    rw [this]
    exact Ev.now _
theorem spec_surf (r u : List Int) : Ev (fun k => spec_SurfaceOk.f k r u) (surfB r u) := by
  unfold spec_SurfaceOk.f
  exact Ev.bind (spec_trans r u) (Ev.now _)
def Marks (n : Nat) (s : List Bool) (out : List Nat) : Prop := s.length = n ∧ ∀ x, x < n → (s.getD x false = true ↔ x ∈ out)
theorem Marks.add {n : Nat} {s : List Bool} {out : List Nat} {x : Nat} (h : Marks n s out) (hx : x < n) : Marks n (s.set x true) (out ++ [x]) := by
  refine ⟨by rw [List.length_set]; exact h.1, fun y hy => ?_⟩
  rw [getD_set s x y (by rw [h.1]; exact hx)]
  by_cases e : x = y
  · subst e
    simp
  · rw [if_neg e, h.2 y hy]
    have : ¬ y = x := fun k => e k.symm
    simp [this]
theorem trans_one (p q out pr : List Nat) (s : List Bool) (a : Nat) (j : Nat) (hj : j < pr.length) (hp : pr.length ≤ 2) (hl : out.length ≤ 1000) (hm : Marks p.length s out) (hx : g pr j < p.length) (r : Bool)
    (H : ∀ s', Marks p.length s' (st1 out (g pr j)) → Ev (fun k => impl_IsTransitive.l1 k (I p) (I q) s' (I (st1 out (g pr j))) (a : Int) (I pr) (pr.length : Int) ((j + 1 : Nat) : Int)) r) :
    Ev (fun k => impl_IsTransitive.l1 k (I p) (I q) s (I out) (a : Int) (I pr) (pr.length : Int) (j : Int)) r := by
  refine ev_succ ?_
  have h1 : (j : Int) < (pr.length : Int) := by omega
  have h2 : (0 : Int) ≤ (j : Int) := by omega
  have h3 := w64s j (by omega)
  have h4 : (I out).length < 17592186044416 := by rw [I_len]; omega
  have h5 : (0 : Int) ≤ ((g pr j : Nat) : Int) := by omega
  have h6 : ((g pr j : Nat) : Int) < (s.length : Int) := by rw [hm.1]; omega
  simp only [impl_IsTransitive.l1, h1, h2, h3, h4, h5, h6, rdI, I_len', rdOf_nat, if_true, Int.toNat_natCast]
  by_cases hin : g pr j ∈ out
  · have hs := (hm.2 _ hx).mpr hin
    have e : st1 out (g pr j) = out := by unfold st1; rw [if_pos hin]
    have := H s (by rw [e]; exact hm)
    rw [e] at this
    simp only [hs, if_true]
    exact this
  · have hs : s.getD (g pr j) false = false := Bool.eq_false_iff.mpr (fun h => hin ((hm.2 _ hx).mp h))
    have e : st1 out (g pr j) = out ++ [g pr j] := by unfold st1; rw [if_neg hin]
    have := H (s.set (g pr j) true) (by rw [e]; exact hm.add hx)
    rw [e, ← I_snoc] at this
    simp only [hs, Bool.false_eq_true, if_false]
    exact this
theorem trans_loop {p q : List Nat} (hp : IsP p) (hq : IsP q) (hl : q.length = p.length) (h24 : p.length ≤ 24) (f : Nat) : ∀ (a : Nat) (out : List Nat) (s : List Bool), RInv p.length out → Marks p.length s out → a ≤ out.length → p.length < f + a →
    Ev (fun k => impl_IsTransitive.l0 k (I p) (I q) s (I out) (a : Int)) ((bfs p q f a out).length == p.length) := by
  induction f with
  | zero =>
    intro a out s hr hm ha hf
    have := hr.le
    omega
  | succ f ih =>
    intro a out s hr hm ha hf
    have hle := hr.le
    refine ev_succ ?_
    by_cases h : a < out.length
    · have h1 : (a : Int) < (out.length : Int) := by omega
      have h2 : (0 : Int) ≤ (a : Int) := by omega
      have hx := hr.g h
      have h3 : ((g out a : Nat) : Int) < (p.length : Int) := by omega
      have h4 : (0 : Int) ≤ ((g out a : Nat) : Int) := by omega
      have h5 : ((g out a : Nat) : Int) < (q.length : Int) := by omega
      have h6 := w64s a (by omega)
      simp only [impl_IsTransitive.l0, h1, h2, h3, h4, h5, rdI, I_len', if_true, Option.bind_some, I_pair]
      have hg1 := g_lt hp hx
      have hg2 : g q (g out a) < p.length := by have := g_lt hq (i := g out a) (by omega); omega
      have r1 := hr.st hg1
      have r2 := r1.st hg2
      have hb : bfs p q (f + 1) a out = bfs p q f (a + 1) (st1 (st1 out (g p (g out a))) (g q (g out a))) := by
        rw [bfs, if_pos h]
      rw [hb]
      refine trans_one p q out [g p (g out a), g q (g out a)] s a 0 (by simp) (by simp) (by omega) hm hg1 _ (fun s1 hm1 => ?_)
      refine trans_one p q _ [g p (g out a), g q (g out a)] s1 a 1 (by simp) (by simp) (by have := r1.le; simp only [g, List.getD_cons_zero] at this ⊢; omega) hm1 hg2 _ (fun s2 hm2 => ?_)
      refine ev_succ ?_
      have h7 : ¬ (((1 + 1 : Nat) : Int) < (([g p (g out a), g q (g out a)] : List Nat).length : Int)) := by simp
      simp only [impl_IsTransitive.l1, h7, h6, if_false]
      exact ih (a + 1) _ s2 r2 hm2 (Nat.le_trans (by omega : a + 1 ≤ out.length) (Nat.le_trans (st1_len _ _) (st1_len _ _))) (by omega)
    · have h1 : ¬ ((a : Int) < (out.length : Int)) := by omega
      have hb : bfs p q (f + 1) a out = out := by rw [bfs, if_neg h]
      rw [hb]
      simp only [impl_IsTransitive.l0, h1, I_len', if_false]
      have e : ((out.length : Int) == (p.length : Int)) = (out.length == p.length) := by
        rw [Bool.eq_iff_iff, beq_iff_eq, beq_iff_eq]
        omega
      rw [e]
      exact Ev.now _
theorem j0_true (r u : List Int) : Ev (fun k => impl_IsTransitive.j0 k r u true) false := by
  refine ev_succ ?_
  simp only [impl_IsTransitive.j0, if_true]
  exact Ev.now _
theorem impl_trans (r u : List Int) : Ev (fun k => impl_IsTransitive.f k r u) (surfB r u) := by
  unfold impl_IsTransitive.f
  refine Ev.bind (impl_permOk r) ?_
  by_cases h1 : permB r = true
  · simp only [h1, if_true]
    refine Ev.bind (impl_permOk u) ?_
    by_cases h2 : permB u = true
    · simp only [h2, if_true]
      by_cases h3 : (r.length : Int) = (u.length : Int)
      · have h3' : r.length = u.length := by omega
        simp only [h3, if_true]
        by_cases h4 : 0 < r.length
        · rw [surfB_mk h1 h2 h3' h4]
          obtain ⟨p, rfl, a1, a2⟩ := PI_nat (of_decide_eq_true h1)
          obtain ⟨q, rfl, b1, b2⟩ := PI_nat (of_decide_eq_true h2)
          rw [I_len, I_len] at h3'
          rw [I_len] at h4
          refine ev_succ ?_
          have e0 : ((q.length : Int) == 0) = false := by rw [beq_eq_false_iff_ne]; omega
          have e1 : (0 : Int) ≤ (p.length : Int) := by omega
          have e2 : ((p.length : Int)).toNat ≤ 281474976710656 := by omega
          have e3 : (0 : Int) < ((List.replicate p.length false).length : Int) := by rw [List.length_replicate]; omega
          simp only [impl_IsTransitive.j0, e0, I_len', e1, e2, Bool.false_eq_true, if_true, if_false, Option.bind_some, Int.toNat_natCast, e3]
          simp only [Int.toNat_natCast] at e2
          simp only [e2, if_true]
          rw [N_I, N_I, I_len]
          refine trans_loop a1 b1 h3'.symm a2 (p.length + 1) 0 [0] _ ⟨by simp, by simpa using h4⟩ ?_ (by simp) (by omega)
          refine ⟨by simp, fun x hx => ?_⟩
          have : (0 : Int).toNat = 0 := rfl
          rw [this, getD_set _ 0 x (by simp; omega)]
          by_cases e : 0 = x
          · subst e
            simp
          · rw [if_neg e]
            have h0 : ¬ x = 0 := fun h => e h.symm
            have : (List.replicate p.length false).getD x false = false := by
              rw [List.getD_eq_getElem?_getD, List.getElem?_replicate]
              simp [hx]
            rw [this]
            simp [h0]
        · have e0 : ((u.length : Int) == 0) = true := by rw [beq_iff_eq]; omega
          have : surfB r u = false := by unfold surfB; simp [h4]
          rw [this]
          simp only [e0]
          exact j0_true r u
      · simp only [h3, if_false]
        rw [len_ne_false (by omega)]
        exact j0_true r u
    · have h2' := Bool.eq_false_iff.mpr h2
      simp only [h2', Bool.false_eq_true, if_false]
      have : surfB r u = false := by unfold surfB; simp [h2']
      rw [this]
      exact j0_true r u
  · have h1' := Bool.eq_false_iff.mpr h1
    simp only [h1', Bool.false_eq_true, if_false]
    have : surfB r u = false := by unfold surfB; simp [h1']
    rw [this]
    exact j0_true r u
theorem impl_surf (r u : List Int) : Ev (fun k => impl_SurfaceOk.f k r u) (surfB r u) := by
  unfold impl_SurfaceOk.f
  exact Ev.bind (impl_trans r u) (Ev.now _)
end Go.Proofs.Ytlbcafniodfdgaa.M
end
section
/- What every law does with its arguments; inverses. No conditions. -/
namespace Go.Proofs.Ytlbcafniodfdgaa.M
set_option linter.unusedVariables false
set_option linter.unusedSimpArgs false
open Go.RowKit Go.Proofs.YtlbcafniodfdgaaW.PrintWords Go.Proofs.YtlbcafniodfdgaaW.PrintLast Go.Proofs.YtlbcafniodfdgaaW.PrintMore Go.Proofs.Ytlbcafniodfdgaa.A
theorem rd_set {l : List Int} {i j : Nat} {x : Int} (h : i < l.length) : rd (l.set i x) (j : Int) = if i = j then x else rd l (j : Int) := by
  unfold rd
  simp only [Int.toNat_natCast]
  rw [List.getD_eq_getElem?_getD, List.getD_eq_getElem?_getD, List.getElem?_set]
  by_cases e : i = j
  · subst e
    simp [h]
  · simp [e]
theorem ext_rd {a b : List Int} (hl : a.length = b.length) (h : ∀ i : Nat, i < a.length → rd a (i : Int) = rd b (i : Int)) : a = b := by
  apply List.ext_getElem hl
  intro i h1 h2
  rw [← rd_get a i h1, ← rd_get b i h2]
  exact h i h1
theorem sz_small {r u : List Int} (h : r.length + u.length ≤ 1048576) : laws_szSurface.f r u 1048576 = some (1048576 - (r.length : Int) - (u.length : Int)) := by
  unfold laws_szSurface.f laws_szIntS.f
  have e1 : wrap64 (1048576 - (r.length : Int)) = 1048576 - (r.length : Int) := w64 (by omega) (by omega)
  have e2 : wrap64 (1048576 - (r.length : Int) - (u.length : Int)) = 1048576 - (r.length : Int) - (u.length : Int) := w64 (by omega) (by omega)
  have c1 : ¬ (1048576 - (r.length : Int) < 0) := by omega
  have c2 : ¬ (1048576 - (r.length : Int) - (u.length : Int) < 0) := by omega
  simp only [e1, c1, if_false, Option.bind_some, e2, c2]
theorem sz_big {r u : List Int} (hr : r.length ≤ 9223372036854775807) (hu : u.length ≤ 9223372036854775807) (h : ¬ r.length + u.length ≤ 1048576) : laws_szSurface.f r u 1048576 = some (-1) := by
  unfold laws_szSurface.f laws_szIntS.f
  have e1 : wrap64 (1048576 - (r.length : Int)) = 1048576 - (r.length : Int) := w64 (by omega) (by omega)
  by_cases c1 : 1048576 - (r.length : Int) < 0
  · have c3 : (-1 : Int) < 0 := by omega
    simp only [e1, c1, if_true, Option.bind_some, c3]
  · have e2 : wrap64 (1048576 - (r.length : Int) - (u.length : Int)) = 1048576 - (r.length : Int) - (u.length : Int) := w64 (by omega) (by omega)
    have c2 : 1048576 - (r.length : Int) - (u.length : Int) < 0 := by omega
    have c3 : (-1 : Int) < 0 := by omega
    simp only [e1, c1, if_false, Option.bind_some, e2, c2, if_true, c3]
theorem toInts_ev (l : List Int) (h : l.length ≤ 1048576) : Ev (fun k => laws_toIntS.f k l) l := by
  unfold laws_toIntS.f
  have h1 : (0 : Int) ≤ (l.length : Int) := by omega
  have h2 : ((l.length : Int)).toNat ≤ 35184372088832 := by omega
  simp only [h1, h2, if_true]
  have H : ∀ (d i : Nat) (c : List Int), i + d = l.length → c.length = l.length → (∀ j : Nat, j < i → rd c (j : Int) = rd l (j : Int)) → Ev (fun k => laws_toIntS.l0 k l c (i : Int)) l := by
    intro d
    induction d with
    | zero =>
      intro i c h hc hx
      refine ev_succ ?_
      have h1 : ¬ ((i : Int) < (l.length : Int)) := by omega
      have e : c = l := ext_rd hc (fun j hj => hx j (by omega))
      simp only [laws_toIntS.l0, h1, if_false]
      rw [e]
      exact Ev.now _
    | succ d ih =>
      intro i c h hc hx
      refine ev_succ ?_
      have h1 : (i : Int) < (l.length : Int) := by omega
      have h2 : (0 : Int) ≤ (i : Int) := by omega
      have h3 : (i : Int) < (c.length : Int) := by omega
      have h4 := w64s i (by omega)
      simp only [laws_toIntS.l0, h1, h2, h3, h4, if_true, Int.toNat_natCast]
      refine ih (i + 1) _ (by omega) (by rw [List.length_set]; exact hc) (fun j hj => ?_)
      rw [rd_set (by omega)]
      by_cases e : i = j
      · subst e
        simp
      · rw [if_neg e]
        exact hx j (by omega)
  exact H l.length 0 _ (by omega) (by rw [List.length_replicate]; omega) (fun j hj => by omega)
theorem toSurf_ev (r u : List Int) (hr : r.length ≤ 1048576) (hu : u.length ≤ 1048576) : Ev (fun k => laws_toSurface.f k r u) (r, u) := by
  unfold laws_toSurface.f
  exact Ev.bind (toInts_ev r hr) (Ev.bind (toInts_ev u hu) (Ev.now _))
theorem eqInts_ev (a b : List Int) (ha : a.length ≤ 9000000000000000000) : Ev (fun k => laws_eqIntS.f k a b) (decide (a = b)) := by
  unfold laws_eqIntS.f
  by_cases hl : (a.length : Int) = (b.length : Int)
  · simp only [hl, if_true]
    have hl' : a.length = b.length := by omega
    have H : ∀ d i : Nat, i + d = a.length → ∃ c, Ev (fun k => laws_eqIntS.l0 k a b (i : Int)) c ∧ (c = true ↔ ∀ j : Nat, i ≤ j → j < a.length → rd a (j : Int) = rd b (j : Int)) := by
      intro d
      induction d with
      | zero =>
        intro i h
        refine ⟨true, ev_succ ?_, by simp; intro j h1 h2; omega⟩
        have h1 : ¬ ((i : Int) < (a.length : Int)) := by omega
        simp only [laws_eqIntS.l0, h1, if_false]
        exact Ev.now _
      | succ d ih =>
        intro i h
        have h1 : (i : Int) < (a.length : Int) := by omega
        have h2 : (0 : Int) ≤ (i : Int) := by omega
        have h3 : (i : Int) < (b.length : Int) := by omega
        have h4 := w64s i (by omega)
        by_cases c : rd a (i : Int) = rd b (i : Int)
        · obtain ⟨c', i1, i2⟩ := ih (i + 1) (by omega)
          refine ⟨c', ev_succ ?_, by
            rw [i2]
            constructor
            · intro k j j1 j2
              by_cases e : j = i
              · subst e; exact c
              · exact k j (by omega) j2
            · intro k j j1 j2
              exact k j (by omega) j2⟩
          simp only [laws_eqIntS.l0, h1, h2, h3, h4, c, if_true]
          exact i1
        · refine ⟨false, ev_succ ?_, by
            simp only [Bool.false_eq_true, false_iff]
            intro k
            exact c (k i (Nat.le_refl _) (by omega))⟩
          simp only [laws_eqIntS.l0, h1, h2, h3, c, if_true, if_false]
          exact Ev.now _
    obtain ⟨c, i1, i2⟩ := H a.length 0 (by omega)
    have : decide (a = b) = c := by
      rw [Bool.eq_iff_iff, i2, decide_eq_true_iff]
      constructor
      · intro e j _ _
        rw [e]
      · intro k
        exact ext_rd hl' (fun j hj => k j (Nat.zero_le _) hj)
    rw [this]
    exact i1
  · simp only [hl, if_false]
    have : decide (a = b) = false := by
      rw [decide_eq_false_iff_not]
      intro e
      exact hl (by rw [e])
    rw [this]
    exact Ev.now _
theorem eqInts_same (a : List Int) (ha : a.length ≤ 9000000000000000000) : Ev (fun k => laws_eqIntS.f k a a) true := by
  have := eqInts_ev a a ha
  simpa using this
theorem eqSurf_same (r u : List Int) (hr : r.length ≤ 9000000000000000000) (hu : u.length ≤ 9000000000000000000) : Ev (fun k => laws_eqSurface.f k r u r u) true := by
  unfold laws_eqSurface.f
  refine Ev.bind (eqInts_same r hr) ?_
  simp only [if_true]
  refine Ev.bind (eqInts_same u hu) ?_
  simp only [if_true]
  exact Ev.now _
theorem inv_of {p c : List Nat} (hp : IsP p) (hc : c.length = p.length) (h : ∀ j, j < p.length → g c (g p j) = j) : c = inv p := by
  refine ext_g (by rw [inv_len, hc]) (fun x hx => ?_)
  rw [hc] at hx
  rw [g_inv hx]
  have := h (ix p x) (ix_lt hp hx)
  rw [g_ix hp hx] at this
  exact this
theorem inv_step {p c : List Nat} (hp : IsP p) {i : Nat} (hi : i < p.length) (hc : c.length = p.length) (h : ∀ j, j < i → g c (g p j) = j) : ∀ j, j < i + 1 → g (c.set (g p i) i) (g p j) = j := by
  intro j hj
  rw [g_set (by rw [hc]; exact g_lt hp hi)]
  by_cases e : j = i
  · subst e
    simp
  · rw [if_neg (fun k => e (g_inj hp (by omega) hi k.symm))]
    exact h j (by omega)
theorem spec_inv {p : List Nat} (hp : IsP p) (h24 : p.length ≤ 24) : Ev (fun k => spec_l02Inverse.f k (I p)) (I (inv p)) := by
  unfold spec_l02Inverse.f
  have H : ∀ (d i : Nat) (c : List Nat), i + d = p.length → c.length = p.length → (∀ j, j < i → g c (g p j) = j) → Ev (fun k => spec_l02Inverse.l0 k (I c) (I p) (p.length : Int) (i : Int)) (I (inv p)) := by
    intro d
    induction d with
    | zero =>
      intro i c h hc hx
      refine ev_succ ?_
      have h1 : ¬ ((i : Int) < (p.length : Int)) := by omega
      rw [← inv_of hp hc (fun j hj => hx j (by omega))]
      simp only [spec_l02Inverse.l0, h1, if_false]
      exact Ev.now _
    | succ d ih =>
      intro i c h hc hx
      refine ev_succ ?_
      have hi : i < p.length := by omega
      have h1 : (i : Int) < (p.length : Int) := by omega
      have h2 : (0 : Int) ≤ (i : Int) := by omega
      have h3 := w64s i (by omega)
      have h4 : (0 : Int) ≤ ((g p i : Nat) : Int) := by omega
      have h5 : ((g p i : Nat) : Int) < (c.length : Int) := by have := g_lt hp hi; omega
      simp only [spec_l02Inverse.l0, h1, h2, h3, h4, h5, rdI, I_len', I_set, if_true, Int.toNat_natCast]
      exact ih (i + 1) _ (by omega) (by rw [List.length_set]; exact hc) (inv_step hp hi hc hx)
  have h1 : (0 : Int) ≤ (p.length : Int) := by omega
  have h2 : p.length ≤ 35184372088832 := by omega
  simp only [I_len', h1, h2, if_true, Int.toNat_natCast]
  have := H p.length 0 (List.replicate p.length 0) (by omega) (by simp) (fun j hj => by omega)
  rw [I_rep] at this
  exact this
theorem impl_inv {p : List Nat} (hp : IsP p) (h24 : p.length ≤ 24) : Ev (fun k => impl_InversePerm.f k (I p)) (I (inv p)) := by
  unfold impl_InversePerm.f
  have H : ∀ (d i : Nat) (c : List Nat), i + d = p.length → c.length = p.length → (∀ j, j < i → g c (g p j) = j) → Ev (fun k => impl_InversePerm.l0 k (I c) (I p) (p.length : Int) (i : Int)) (I (inv p)) := by
    intro d
    induction d with
    | zero =>
      intro i c h hc hx
      refine ev_succ ?_
      have h1 : ¬ ((i : Int) < (p.length : Int)) := by omega
      rw [← inv_of hp hc (fun j hj => hx j (by omega))]
      simp only [impl_InversePerm.l0, h1, if_false]
      exact Ev.now _
    | succ d ih =>
      intro i c h hc hx
      refine ev_succ ?_
      have hi : i < p.length := by omega
      have h1 : (i : Int) < (p.length : Int) := by omega
      have h2 : (0 : Int) ≤ (i : Int) := by omega
      have h3 := w64s i (by omega)
      have h4 : (0 : Int) ≤ ((g p i : Nat) : Int) := by omega
      have h5 : ((g p i : Nat) : Int) < (c.length : Int) := by have := g_lt hp hi; omega
      simp only [impl_InversePerm.l0, h1, h2, h3, h4, h5, rdI, I_len', I_set, if_true, Int.toNat_natCast]
      exact ih (i + 1) _ (by omega) (by rw [List.length_set]; exact hc) (inv_step hp hi hc hx)
  refine Ev.bind (impl_permOk (I p)) ?_
  have h0 : permB (I p) = true := permB_I.mpr ⟨hp, h24⟩
  have h1 : (0 : Int) ≤ (p.length : Int) := by omega
  have h2 : p.length ≤ 35184372088832 := by omega
  simp only [h0, I_len', h1, h2, if_true, Int.toNat_natCast]
  have := H p.length 0 (List.replicate p.length 0) (by omega) (by simp) (fun j hj => by omega)
  rw [I_rep] at this
  exact this
end Go.Proofs.Ytlbcafniodfdgaa.M
end
section
/- Half turns: the tests of the program and of the reference come to one plain test. No conditions. -/
namespace Go.Proofs.Ytlbcafniodfdgaa.M
set_option linter.unusedVariables false
set_option linter.unusedSimpArgs false
open Go.RowKit Go.Proofs.YtlbcafniodfdgaaW.PrintWords Go.Proofs.YtlbcafniodfdgaaW.PrintLast Go.Proofs.YtlbcafniodfdgaaW.PrintMore Go.Proofs.Ytlbcafniodfdgaa.A
def Turn (r u a : List Nat) : Prop := ∀ i, i < a.length → g a (g r i) = ix r (g a i) ∧ g a (g u i) = ix u (g a i)
instance (r u a : List Nat) : Decidable (Turn r u a) := by unfold Turn; infer_instance
def turnB (r u a : List Int) : Bool := surfB r u && permB a && decide (a.length = r.length) && decide (Turn (N r) (N u) (N a))
theorem turnB_mk {r u a : List Nat} (hs : Sf r u) (ha : IsP a) (hl : a.length = r.length) : turnB (I r) (I u) (I a) = decide (Turn r u a) := by
  unfold turnB
  rw [surfB_I.mpr hs, permB_I.mpr ⟨ha, by have := hs.le; omega⟩, I_len, I_len, N_I, N_I, N_I]
  simp [hl]
theorem turn_nat {r u a : List Int} (h : turnB r u a = true) : ∃ r' u' a', r = I r' ∧ u = I u' ∧ a = I a' ∧ Sf r' u' ∧ IsP a' ∧ a'.length = r'.length ∧ Turn r' u' a' := by
  unfold turnB at h
  simp only [Bool.and_eq_true, decide_eq_true_eq] at h
  obtain ⟨⟨⟨h1, h2⟩, h3⟩, h4⟩ := h
  obtain ⟨r', u', rfl, rfl, hs⟩ := surf_nat h1
  obtain ⟨a', rfl, a1, a2⟩ := PI_nat (of_decide_eq_true h2)
  rw [N_I, N_I, N_I] at h4
  rw [I_len, I_len] at h3
  exact ⟨r', u', a', rfl, rfl, rfl, hs, a1, h3, h4⟩
def TurnFrom (r u a : List Nat) (i : Nat) : Prop := ∀ j, i ≤ j → j < a.length → g a (g r j) = ix r (g a j) ∧ g a (g u j) = ix u (g a j)
theorem turnFrom_step {r u a : List Nat} {i : Nat} (h : g a (g r i) = ix r (g a i) ∧ g a (g u i) = ix u (g a i)) : TurnFrom r u a i ↔ TurnFrom r u a (i + 1) := by
  constructor
  · intro k j h1 h2
    exact k j (by omega) h2
  · intro k j h1 h2
    by_cases e : j = i
    · subst e
      exact h
    · exact k j (by omega) h2
theorem turn_dec {r u a : List Nat} {b : Bool} (h : b = true ↔ TurnFrom r u a 0) : b = decide (Turn r u a) := by
  rw [Bool.eq_iff_iff, h, decide_eq_true_iff]
  constructor
  · intro k i hi
    exact k i (Nat.zero_le _) hi
  · intro k i _ hi
    exact k i hi
theorem cast_eq (a b : Nat) : (((a : Nat) : Int) = ((b : Nat) : Int)) = (a = b) := by
  apply propext
  omega
theorem spec_turn (r u a : List Int) : Ev (fun k => spec_IsTurn.f k r u a) (turnB r u a) := by
  unfold spec_IsTurn.f
  refine Ev.bind (spec_surf r u) ?_
  by_cases h1 : surfB r u = true
  · simp only [h1, if_true]
    refine Ev.bind (spec_permOk a) ?_
    by_cases h2 : permB a = true
    · simp only [h2, if_true]
      by_cases h3 : (a.length : Int) = (r.length : Int)
      · simp only [h3, if_true]
        obtain ⟨r, u, rfl, rfl, hs⟩ := surf_nat h1
        obtain ⟨a, rfl, a1, a2⟩ := PI_nat (of_decide_eq_true h2)
        rw [I_len, I_len] at h3
        have h3' : a.length = r.length := by omega
        rw [turnB_mk hs a1 h3']
        have hle := hs.le
        have heq := hs.eq
        refine Ev.bind (a := decide (Turn r u a)) ?_ (Ev.now _)
        unfold spec_l11Turn.f
        refine Ev.bind (spec_inv hs.pr hs.le) (Ev.bind (spec_inv hs.pu (by omega)) ?_)
        have H : ∀ d i : Nat, i + d = a.length → ∃ b, Ev (fun k => spec_l11Turn.l0 k (I a) (I (inv r)) (I (inv u)) (I a) (a.length : Int) (i : Int) (I r) (I u)) b ∧ (b = true ↔ TurnFrom r u a i) := by
          intro d
          induction d with
          | zero =>
            intro i h
            refine ⟨true, ev_succ ?_, by simp; intro j h1 h2; omega⟩
            have h1 : ¬ ((i : Int) < (a.length : Int)) := by omega
            simp only [spec_l11Turn.l0, h1, if_false]
            exact Ev.now _
          | succ d ih =>
            intro i h
            have hi : i < a.length := by omega
            have gr := g_lt hs.pr (i := i) (by omega)
            have gu := g_lt hs.pu (i := i) (by omega)
            have ga := g_lt a1 hi
            have c1 : (i : Int) < (a.length : Int) := by omega
            have c2 : (0 : Int) ≤ (i : Int) := by omega
            have c3 : (i : Int) < (r.length : Int) := by omega
            have c4 : (0 : Int) ≤ ((g r i : Nat) : Int) := by omega
            have c5 : ((g r i : Nat) : Int) < (a.length : Int) := by omega
            have c6 : (0 : Int) ≤ ((g a i : Nat) : Int) := by omega
            have c7 : ((g a i : Nat) : Int) < ((inv r).length : Int) := by rw [inv_len]; omega
            have c8 : (i : Int) < (u.length : Int) := by omega
            have c9 : (0 : Int) ≤ ((g u i : Nat) : Int) := by omega
            have c10 : ((g u i : Nat) : Int) < (a.length : Int) := by omega
            have c11 : ((g a i : Nat) : Int) < ((inv u).length : Int) := by rw [inv_len]; omega
            have e1 : g (inv r) (g a i) = ix r (g a i) := g_inv (by omega)
            have e2 : g (inv u) (g a i) = ix u (g a i) := g_inv (by omega)
            have h4 := w64s i (by omega)
            by_cases t1 : g a (g r i) = ix r (g a i)
            · by_cases t2 : g a (g u i) = ix u (g a i)
              · obtain ⟨b, i1, i2⟩ := ih (i + 1) (by omega)
                refine ⟨b, ev_succ ?_, by rw [i2]; exact (turnFrom_step ⟨t1, t2⟩).symm⟩
                simp only [spec_l11Turn.l0, c1, c2, c3, c4, c5, c6, c7, c8, c9, c10, c11, h4, rdI, I_len', e1, e2, cast_eq, t1, t2, if_true]
                exact i1
              · refine ⟨false, ev_succ ?_, by simp only [Bool.false_eq_true, false_iff]; intro k; exact t2 (k i (Nat.le_refl _) hi).2⟩
                simp only [spec_l11Turn.l0, c1, c2, c3, c4, c5, c6, c7, c8, c9, c10, c11, rdI, I_len', e1, e2, cast_eq, t1, t2, if_true, if_false]
                exact Ev.now _
            · refine ⟨false, ev_succ ?_, by simp only [Bool.false_eq_true, false_iff]; intro k; exact t1 (k i (Nat.le_refl _) hi).1⟩
              simp only [spec_l11Turn.l0, c1, c2, c3, c4, c5, c6, c7, rdI, I_len', e1, cast_eq, t1, if_true, if_false]
              exact Ev.now _
        obtain ⟨b, i1, i2⟩ := H a.length 0 (by omega)
        rw [← turn_dec i2]
        simp only [I_len']
        exact i1
      · simp only [h3, if_false]
        have : turnB r u a = false := by
          unfold turnB
          have : ¬ a.length = r.length := by omega
          simp [this]
        rw [this]
        exact Ev.now _
    · have h2' := Bool.eq_false_iff.mpr h2
      simp only [h2', Bool.false_eq_true, if_false]
      have : turnB r u a = false := by unfold turnB; simp [h2']
      rw [this]
      exact Ev.now _
  · have h1' := Bool.eq_false_iff.mpr h1
    simp only [h1', Bool.false_eq_true, if_false]
    have : turnB r u a = false := by unfold turnB; simp [h1']
    rw [this]
    exact Ev.now _
theorem turn_j0 (a r u : List Int) : Ev (fun k => impl_IsTurn.j0 k a true r u) false := by
  refine ev_succ ?_
  simp only [impl_IsTurn.j0, if_true]
  exact Ev.now _
theorem impl_turn (r u a : List Int) : Ev (fun k => impl_IsTurn.f k r u a) (turnB r u a) := by
  unfold impl_IsTurn.f
  refine Ev.bind (impl_surf r u) ?_
  by_cases h1 : surfB r u = true
  · simp only [h1, if_true]
    refine Ev.bind (impl_permOk a) ?_
    by_cases h2 : permB a = true
    · simp only [h2, if_true]
      by_cases h3 : (a.length : Int) = (r.length : Int)
      · obtain ⟨r, u, rfl, rfl, hs⟩ := surf_nat h1
        obtain ⟨a, rfl, a1, a2⟩ := PI_nat (of_decide_eq_true h2)
        rw [I_len, I_len] at h3
        have h3' : a.length = r.length := by omega
        rw [turnB_mk hs a1 h3']
        have hle := hs.le
        have heq := hs.eq
        have h3b : ((a.length : Int) != (r.length : Int)) = false := by simp [h3]
        refine ev_succ ?_
        simp only [impl_IsTurn.j0, I_len', h3b, Bool.false_eq_true, if_false]
        refine Ev.bind (impl_inv hs.pr hs.le) (Ev.bind (impl_inv hs.pu (by omega)) ?_)
        have H : ∀ d i : Nat, i + d = a.length → ∃ b, Ev (fun k => impl_IsTurn.l0 k (I a) (I (inv r)) (I (inv u)) (a.length : Int) (i : Int) (I r) (I u)) b ∧ (b = true ↔ TurnFrom r u a i) := by
          intro d
          induction d with
          | zero =>
            intro i h
            refine ⟨true, ev_succ ?_, by simp; intro j h1 h2; omega⟩
            have h1 : ¬ ((i : Int) < (a.length : Int)) := by omega
            simp only [impl_IsTurn.l0, h1, if_false]
            exact Ev.now _
          | succ d ih =>
            intro i h
            have hi : i < a.length := by omega
            have gr := g_lt hs.pr (i := i) (by omega)
            have gu := g_lt hs.pu (i := i) (by omega)
            have ga := g_lt a1 hi
            have c1 : (i : Int) < (a.length : Int) := by omega
            have c2 : (0 : Int) ≤ (i : Int) := by omega
            have c3 : (i : Int) < (r.length : Int) := by omega
            have c4 : (0 : Int) ≤ ((g r i : Nat) : Int) := by omega
            have c5 : ((g r i : Nat) : Int) < (a.length : Int) := by omega
            have c6 : (0 : Int) ≤ ((g a i : Nat) : Int) := by omega
            have c7 : ((g a i : Nat) : Int) < ((inv r).length : Int) := by rw [inv_len]; omega
            have c8 : (i : Int) < (u.length : Int) := by omega
            have c9 : (0 : Int) ≤ ((g u i : Nat) : Int) := by omega
            have c10 : ((g u i : Nat) : Int) < (a.length : Int) := by omega
            have c11 : ((g a i : Nat) : Int) < ((inv u).length : Int) := by rw [inv_len]; omega
            have e1 : g (inv r) (g a i) = ix r (g a i) := g_inv (by omega)
            have e2 : g (inv u) (g a i) = ix u (g a i) := g_inv (by omega)
            have h4 := w64s i (by omega)
            by_cases t1 : g a (g r i) = ix r (g a i)
            · by_cases t2 : g a (g u i) = ix u (g a i)
              · obtain ⟨b, i1, i2⟩ := ih (i + 1) (by omega)
                refine ⟨b, ev_succ ?_, by rw [i2]; exact (turnFrom_step ⟨t1, t2⟩).symm⟩
                simp only [impl_IsTurn.l0, c1, c2, c3, c4, c5, c6, c7, c8, c9, c10, c11, h4, rdI, I_len', e1, e2, cast_eq, t1, t2, if_true]
                exact i1
              · refine ⟨false, ev_succ ?_, by simp only [Bool.false_eq_true, false_iff]; intro k; exact t2 (k i (Nat.le_refl _) hi).2⟩
                simp only [impl_IsTurn.l0, c1, c2, c3, c4, c5, c6, c7, c8, c9, c10, c11, rdI, I_len', e1, e2, cast_eq, t1, t2, if_true, if_false]
                exact Ev.now _
            · refine ⟨false, ev_succ ?_, by simp only [Bool.false_eq_true, false_iff]; intro k; exact t1 (k i (Nat.le_refl _) hi).1⟩
              simp only [impl_IsTurn.l0, c1, c2, c3, c4, c5, c6, c7, rdI, I_len', e1, cast_eq, t1, if_true, if_false]
              exact Ev.now _
        obtain ⟨b, i1, i2⟩ := H a.length 0 (by omega)
        rw [← turn_dec i2]
        exact i1
      · have h3b : ((a.length : Int) != (r.length : Int)) = true := by simp; omega
        simp only [h3b]
        have : turnB r u a = false := by
          unfold turnB
          have : ¬ a.length = r.length := by omega
          simp [this]
        rw [this]
        exact turn_j0 a r u
    · have h2' := Bool.eq_false_iff.mpr h2
      simp only [h2', Bool.false_eq_true, if_false]
      have : turnB r u a = false := by unfold turnB; simp [h2']
      rw [this]
      exact turn_j0 a r u
  · have h1' := Bool.eq_false_iff.mpr h1
    simp only [h1', Bool.false_eq_true, if_false]
    have : turnB r u a = false := by unfold turnB; simp [h1']
    rw [this]
    exact turn_j0 a r u
end Go.Proofs.Ytlbcafniodfdgaa.M
end
section
/- Marks that laws lay and look for. No conditions. -/
namespace Go.Proofs.Ytlbcafniodfdgaa.M
set_option linter.unusedVariables false
set_option linter.unusedSimpArgs false
open Go.RowKit Go.Proofs.YtlbcafniodfdgaaW.PrintWords Go.Proofs.YtlbcafniodfdgaaW.PrintLast Go.Proofs.YtlbcafniodfdgaaW.PrintMore Go.Proofs.Ytlbcafniodfdgaa.A
def markL (n : Nat) (a : Int) : List Int := (List.range n).map (fun (i : Nat) => a + (i : Int))
theorem markL_len (n : Nat) (a : Int) : (markL n a).length = n := by simp [markL]
theorem rd_markL {n i : Nat} {a : Int} (h : i < n) : rd (markL n a) (i : Int) = a + (i : Int) := by
  rw [rd_get _ i (by rw [markL_len]; exact h)]
  simp [markL]
theorem w64a (a : Int) (i : Nat) (h0 : 0 ≤ a) (h : a + (i : Int) ≤ 9000000000000000000) : wrap64 (a + (i : Int) + 1) = a + ((i + 1 : Nat) : Int) := by rw [w64 (by omega) (by omega)]; omega
theorem mark_ev (l : List Int) (a : Int) (h0 : 0 ≤ a) (h : a + (l.length : Int) ≤ 9000000000000000000) : Ev (fun k => laws_markIntS.f k l a) (a + (l.length : Int), markL l.length a) := by
  unfold laws_markIntS.f
  have H : ∀ (d i : Nat) (c : List Int), i + d = l.length → c.length = l.length → (∀ j : Nat, j < i → rd c (j : Int) = a + (j : Int)) → Ev (fun k => laws_markIntS.l0 k c (a + (i : Int)) (i : Int)) (a + (l.length : Int), markL l.length a) := by
    intro d
    induction d with
    | zero =>
      intro i c hi hc hx
      refine ev_succ ?_
      have h1 : ¬ ((i : Int) < (c.length : Int)) := by omega
      have e : c = markL l.length a := ext_rd (by rw [markL_len]; exact hc) (fun j hj => by rw [hx j (by omega), rd_markL (by omega)])
      have e2 : i = l.length := by omega
      simp only [laws_markIntS.l0, h1, if_false]
      rw [e, e2]
      exact Ev.now _
    | succ d ih =>
      intro i c hi hc hx
      refine ev_succ ?_
      have h1 : (i : Int) < (c.length : Int) := by omega
      have h2 : (0 : Int) ≤ (i : Int) := by omega
      have h3 := w64s i (by omega)
      have h4 := w64a a i h0 (by omega)
      simp only [laws_markIntS.l0, h1, h2, h3, h4, if_true, Int.toNat_natCast]
      refine ih (i + 1) _ (by omega) (by rw [List.length_set]; exact hc) (fun j hj => ?_)
      rw [rd_set (by omega)]
      by_cases e : i = j
      · subst e
        simp
      · rw [if_neg e]
        exact hx j (by omega)
  have := H l.length 0 l (by omega) rfl (fun j hj => by omega)
  simpa using this
theorem held_ev (n : Nat) (a : Int) (h0 : 0 ≤ a) (h : a + (n : Int) ≤ 9000000000000000000) : Ev (fun k => laws_heldIntS.f k (markL n a) a) (a + (n : Int)) := by
  unfold laws_heldIntS.f
  have H : ∀ d i : Nat, i + d = n → Ev (fun k => laws_heldIntS.l0 k (markL n a) (a + (i : Int)) (i : Int)) (a + (n : Int)) := by
    intro d
    induction d with
    | zero =>
      intro i hi
      obtain rfl : i = n := by omega
      refine ev_succ ?_
      have h1 : ¬ ((i : Int) < ((markL i a).length : Int)) := by rw [markL_len]; omega
      simp only [laws_heldIntS.l0, h1, if_false]
      exact Ev.now _
    | succ d ih =>
      intro i hi
      refine ev_succ ?_
      have h1 : (i : Int) < ((markL n a).length : Int) := by rw [markL_len]; omega
      have h2 : (0 : Int) ≤ (i : Int) := by omega
      have h3 := w64s i (by omega)
      have h4 := w64a a i h0 (by omega)
      have h5 := rd_markL (n := n) (i := i) (a := a) (by omega)
      simp only [laws_heldIntS.l0, h1, h2, h3, h4, h5, if_true]
      exact ih (i + 1) (by omega)
  have := H n 0 (by omega)
  simpa using this
theorem markSurf_ev (r u : List Int) (h : r.length + u.length ≤ 1048576) : Ev (fun k => laws_markSurface.f k r u 1) (1 + (r.length : Int) + (u.length : Int), markL r.length 1, markL u.length (1 + (r.length : Int))) := by
  unfold laws_markSurface.f
  refine Ev.bind (mark_ev r 1 (by omega) (by omega)) ?_
  refine Ev.bind (mark_ev u (1 + (r.length : Int)) (by omega) (by omega)) ?_
  exact Ev.now _
end Go.Proofs.Ytlbcafniodfdgaa.M
end
section
/- Marks on lists of lists. No conditions. -/
namespace Go.Proofs.Ytlbcafniodfdgaa.M
set_option linter.unusedVariables false
set_option linter.unusedSimpArgs false
open Go.RowKit Go.Proofs.YtlbcafniodfdgaaW.PrintWords Go.Proofs.YtlbcafniodfdgaaW.PrintLast Go.Proofs.YtlbcafniodfdgaaW.PrintMore Go.Proofs.Ytlbcafniodfdgaa.A
def totL (xs : List (List Int)) : Nat := (xs.map List.length).sum
def mkSS : List (List Int) → Int → List (List Int)
  | [], _ => []
  | x :: xs, a => markL x.length a :: mkSS xs (a + (x.length : Int))
theorem totL_cons (x : List Int) (xs : List (List Int)) : totL (x :: xs) = x.length + totL xs := by simp [totL]
theorem getD_mid {α : Type} (p : List α) (x : α) (xs : List α) (d : α) : (p ++ x :: xs).getD p.length d = x := by
  rw [List.getD_eq_getElem?_getD, List.getElem?_append_right (Nat.le_refl _)]
  simp
theorem set_mid {α : Type} (p : List α) (x y : α) (xs : List α) : (p ++ x :: xs).set p.length y = p ++ y :: xs := by
  rw [List.set_append_right _ _ (Nat.le_refl _)]
  simp
theorem snoc_app {α : Type} (p : List α) (x : α) (xs : List α) : p ++ x :: xs = (p ++ [x]) ++ xs := by simp
theorem markSS_ev (xs : List (List Int)) (a : Int) (h0 : 0 ≤ a) (h : a + (totL xs : Int) ≤ 9000000000000000000) (hl : xs.length ≤ 1000000000) : Ev (fun k => laws_markIntSS.f k xs a) (a + (totL xs : Int), mkSS xs a) := by
  unfold laws_markIntSS.f
  have H : ∀ (rest p : List (List Int)) (b : Int), 0 ≤ b → b + (totL rest : Int) ≤ 9000000000000000000 → p.length + rest.length ≤ 1000000000 → Ev (fun k => laws_markIntSS.l0 k (p ++ rest) b (p.length : Int)) (b + (totL rest : Int), p ++ mkSS rest b) := by
    intro rest
    induction rest with
    | nil =>
      intro p b hb ht hlen
      refine ev_succ ?_
      have h1 : ¬ ((p.length : Int) < ((p ++ ([] : List (List Int))).length : Int)) := by simp
      simp only [laws_markIntSS.l0, h1, if_false]
      have : b + (totL [] : Int) = b := by simp [totL]
      rw [this]
      exact Ev.now _
    | cons x rest ih =>
      intro p b hb ht hlen
      rw [totL_cons] at ht
      refine ev_succ ?_
      have h1 : (p.length : Int) < ((p ++ x :: rest).length : Int) := by simp; omega
      have h2 : (0 : Int) ≤ (p.length : Int) := by omega
      have h3 := w64s p.length (by omega)
      have h4 : rdOf ([] : List Int) (p ++ x :: rest) (p.length : Int) = x := by unfold rdOf; rw [Int.toNat_natCast]; exact getD_mid p x rest []
      simp only [laws_markIntSS.l0, h1, h2, h4, if_true, Int.toNat_natCast, set_mid]
      refine Ev.bind (mark_ev x b hb (by omega)) ?_
      simp only [h3]
      have := ih (p ++ [markL x.length b]) (b + (x.length : Int)) (by omega) (by omega) (by simp at hlen ⊢; omega)
      rw [snoc_app]
      have e : ((p ++ [markL x.length b]).length : Int) = ((p.length + 1 : Nat) : Int) := by simp
      rw [e] at this
      rw [totL_cons]
      have e2 : b + ((x.length + totL rest : Nat) : Int) = b + (x.length : Int) + (totL rest : Int) := by omega
      rw [e2]
      have e3 : p ++ mkSS (x :: rest) b = p ++ [markL x.length b] ++ mkSS rest (b + (x.length : Int)) := by simp [mkSS]
      rw [e3]
      exact this
  exact H xs [] a h0 h (by simpa using hl)
theorem heldSS_ev (xs : List (List Int)) (a : Int) (h0 : 0 ≤ a) (h : a + (totL xs : Int) ≤ 9000000000000000000) (hl : xs.length ≤ 1000000000) : Ev (fun k => laws_heldIntSS.f k (mkSS xs a) a) (a + (totL xs : Int)) := by
  unfold laws_heldIntSS.f
  have H : ∀ (rest p : List (List Int)) (b : Int), 0 ≤ b → b + (totL rest : Int) ≤ 9000000000000000000 → p.length + rest.length ≤ 1000000000 → Ev (fun k => laws_heldIntSS.l0 k (p ++ mkSS rest b) b (p.length : Int)) (b + (totL rest : Int)) := by
    intro rest
    induction rest with
    | nil =>
      intro p b hb ht hlen
      refine ev_succ ?_
      have h1 : ¬ ((p.length : Int) < ((p ++ mkSS [] b).length : Int)) := by simp [mkSS]
      simp only [laws_heldIntSS.l0, h1, if_false]
      have : b + (totL [] : Int) = b := by simp [totL]
      rw [this]
      exact Ev.now _
    | cons x rest ih =>
      intro p b hb ht hlen
      rw [totL_cons] at ht
      refine ev_succ ?_
      have h1 : (p.length : Int) < ((p ++ mkSS (x :: rest) b).length : Int) := by simp [mkSS]; omega
      have h2 : (0 : Int) ≤ (p.length : Int) := by omega
      have h3 := w64s p.length (by omega)
      have h4 : rd_L3 (p ++ mkSS (x :: rest) b) (p.length : Int) = markL x.length b := by unfold rd_L3; rw [Int.toNat_natCast]; exact getD_mid p _ _ []
      simp only [laws_heldIntSS.l0, h1, h2, h4, if_true]
      refine Ev.bind (held_ev x.length b hb (by omega)) ?_
      have h5 : ¬ (b + (x.length : Int) < 0) := by omega
      simp only [h3, h5, if_false]
      have := ih (p ++ [markL x.length b]) (b + (x.length : Int)) (by omega) (by omega) (by simp at hlen ⊢; omega)
      have e : ((p ++ [markL x.length b]).length : Int) = ((p.length + 1 : Nat) : Int) := by simp
      rw [e] at this
      rw [totL_cons]
      have e2 : b + ((x.length + totL rest : Nat) : Int) = b + (x.length : Int) + (totL rest : Int) := by omega
      rw [e2]
      have e3 : p ++ mkSS (x :: rest) b = p ++ [markL x.length b] ++ mkSS rest (b + (x.length : Int)) := by simp [mkSS]
      rw [e3]
      exact this
  exact H xs [] a h0 h (by simpa using hl)
theorem eqSS_same (xs : List (List Int)) (hl : xs.length ≤ 1000000000) (h : ∀ x ∈ xs, x.length ≤ 1000000000) : Ev (fun k => laws_eqIntSS.f k xs xs) true := by
  unfold laws_eqIntSS.f
  simp only [if_true]
  have H : ∀ (rest p : List (List Int)), p.length + rest.length ≤ 1000000000 → (∀ x ∈ rest, x.length ≤ 1000000000) → Ev (fun k => laws_eqIntSS.l0 k (p ++ rest) (p ++ rest) (p.length : Int)) true := by
    intro rest
    induction rest with
    | nil =>
      intro p hlen hx
      refine ev_succ ?_
      have h1 : ¬ ((p.length : Int) < ((p ++ ([] : List (List Int))).length : Int)) := by simp
      simp only [laws_eqIntSS.l0, h1, if_false]
      exact Ev.now _
    | cons x rest ih =>
      intro p hlen hx
      refine ev_succ ?_
      have h1 : (p.length : Int) < ((p ++ x :: rest).length : Int) := by simp; omega
      have h2 : (0 : Int) ≤ (p.length : Int) := by omega
      have h3 := w64s p.length (by omega)
      have h4 : rd_L3 (p ++ x :: rest) (p.length : Int) = x := by unfold rd_L3; rw [Int.toNat_natCast]; exact getD_mid p _ _ []
      simp only [laws_eqIntSS.l0, h1, h2, h4, if_true]
      refine Ev.bind (eqInts_same x (by have := hx x (by simp); omega)) ?_
      simp only [if_true, h3]
      rw [snoc_app]
      have := ih (p ++ [x]) (by simp at hlen ⊢; omega) (fun y hy => hx y (by simp [hy]))
      have e : ((p ++ [x]).length : Int) = ((p.length + 1 : Nat) : Int) := by simp
      rw [e] at this
      exact this
  exact H xs [] (by simpa using hl) h
end Go.Proofs.Ytlbcafniodfdgaa.M
end
section
/- Rows: the program and the reference answer alike. No conditions. -/
namespace Go.Proofs.Ytlbcafniodfdgaa.M
set_option linter.unusedVariables false
set_option linter.unusedSimpArgs false
open Go.RowKit Go.Proofs.YtlbcafniodfdgaaW.PrintWords Go.Proofs.YtlbcafniodfdgaaW.PrintLast Go.Proofs.YtlbcafniodfdgaaW.PrintMore Go.Proofs.Ytlbcafniodfdgaa.A
structure SmallSS (l : List (List Int)) : Prop where
  n : l.length ≤ 24
  m : ∀ x ∈ l, x.length ≤ 24
  t : totL l ≤ 1000
theorem small_nil : SmallSS [] := ⟨by simp, by simp, by simp [totL]⟩
end Go.Proofs.Ytlbcafniodfdgaa.M
end
section
/- Half turns as the program makes them. No conditions. -/
namespace Go.Proofs.Ytlbcafniodfdgaa.M
set_option linter.unusedVariables false
set_option linter.unusedSimpArgs false
open Go.RowKit Go.Proofs.YtlbcafniodfdgaaW.PrintWords Go.Proofs.YtlbcafniodfdgaaW.PrintLast Go.Proofs.YtlbcafniodfdgaaW.PrintMore Go.Proofs.Ytlbcafniodfdgaa.A
structure TurnP (r u b : List Nat) : Prop where
  len : b.length = r.length
  p : IsP b
  t : Turn r u b
theorem ix_inj {p : List Nat} (hp : IsP p) {x y : Nat} (hx : x < p.length) (hy : y < p.length) (h : ix p x = ix p y) : x = y := by
  rw [← g_ix hp hx, ← g_ix hp hy, h]
def partL (n : Nat) (out : List Nat) (f : Nat → Nat) : List Int := (List.range n).map (fun x => if x ∈ out then ((f x : Nat) : Int) else -1)
theorem partL_len (n : Nat) (out : List Nat) (f : Nat → Nat) : (partL n out f).length = n := by simp [partL]
theorem rd_partL {n : Nat} {out : List Nat} {f : Nat → Nat} {x : Nat} (h : x < n) : rd (partL n out f) (x : Int) = if x ∈ out then ((f x : Nat) : Int) else -1 := by
  rw [rd_get _ _ (by rw [partL_len]; exact h)]
  simp [partL]
theorem partL_set {n : Nat} {out : List Nat} {f : Nat → Nat} {x y : Nat} (h : x < n) : (partL n out f).set x ((y : Nat) : Int) = partL n (out ++ [x]) (fun z => if z = x then y else f z) := by
  refine ext_rd (by rw [List.length_set, partL_len, partL_len]) (fun i hi => ?_)
  rw [List.length_set, partL_len] at hi
  rw [rd_set (by rw [partL_len]; exact h), rd_partL hi, rd_partL hi]
  by_cases e : x = i
  · subst e
    simp
  · have e' : ¬ i = x := fun h => e h.symm
    simp [e, e']
theorem partL_full {n : Nat} {out : List Nat} {f : Nat → Nat} (h : ∀ x, x < n → x ∈ out) : partL n out f = I (tab n f) := by
  refine ext_rd (by rw [partL_len, I_len, tab_len]) (fun i hi => ?_)
  rw [partL_len] at hi
  rw [rd_partL hi, rdI, g_tab hi, if_pos (h i hi)]
structure FI (r u : List Nat) (im : Nat) (out : List Nat) (f : Nat → Nat) : Prop where
  lt : ∀ x ∈ out, f x < r.length
  z : f 0 = im
  z0 : 0 ∈ out
  t : ∀ b, TurnP r u b → g b 0 = im → ∀ x ∈ out, f x = g b x
theorem FI.add {r u : List Nat} {im : Nat} {out : List Nat} {f : Nat → Nat} (h : FI r u im out f) {y v : Nat} (hy : y ∉ out) (hv : v < r.length) (ht : ∀ b, TurnP r u b → g b 0 = im → v = g b y) : FI r u im (out ++ [y]) (fun z => if z = y then v else f z) := by
  have h0 : (0 : Nat) ≠ y := fun e => hy (e ▸ h.z0)
  refine ⟨fun x hx => ?_, by simp [h0, h.z], by simp [h.z0], fun b hb hb0 x hx => ?_⟩
  · by_cases e : x = y
    · simp [e, hv]
    · rcases List.mem_append.mp hx with hx | hx
      · simp [e, h.lt x hx]
      · exact absurd (by simpa using hx) e
  · by_cases e : x = y
    · subst e
      simp [ht b hb hb0]
    · rcases List.mem_append.mp hx with hx | hx
      · simp [e, h.t b hb hb0 x hx]
      · exact absurd (by simpa using hx) e
theorem turnTo_one {r u : List Nat} (hs : Sf r u) {im : Nat} {out : List Nat} {f : Nat → Nat} (hr : RInv r.length out) (hf : FI r u im out f) {y v : Nat} (hy : y < r.length) (hv : v < r.length) (ht : ∀ b, TurnP r u b → g b 0 = im → v = g b y) (a j : Nat) (hj : j < 2) (ps : List S96) (hp : rd_T96 ps (j : Int) = ⟨(y : Int), (v : Int)⟩) (hps : ps.length = 2) (R : List Int → Prop)
    (H : ∀ f', FI r u im (st1 out y) f' → ∃ q, R q ∧ Ev (fun k => impl_turnTo.l2 k (I (inv r)) (I (inv u)) (partL r.length (st1 out y) f') (I (st1 out y)) (a : Int) ps 2 ((j + 1 : Nat) : Int) (I r) (I u)) q) :
    ∃ q, R q ∧ Ev (fun k => impl_turnTo.l2 k (I (inv r)) (I (inv u)) (partL r.length out f) (I out) (a : Int) ps 2 (j : Int) (I r) (I u)) q := by
  have c1 : (j : Int) < 2 := by omega
  have c2 : (0 : Int) ≤ (j : Int) := by omega
  have c3 : (j : Int) < (ps.length : Int) := by omega
  have c4 : (0 : Int) ≤ (y : Int) := by omega
  have c5 : (y : Int) < ((partL r.length out f).length : Int) := by rw [partL_len]; omega
  have c6 := w64s j (by omega)
  have c7 := rd_partL (n := r.length) (out := out) (f := f) hy
  have hle := hs.le
  have c8 : (I out).length < 17592186044416 := by rw [I_len]; have := hr.le; omega
  by_cases hm : y ∈ out
  · have e : st1 out y = out := by unfold st1; rw [if_pos hm]
    obtain ⟨q, q1, q2⟩ := H f (by rw [e]; exact hf)
    rw [e] at q2
    refine ⟨q, q1, ev_succ ?_⟩
    rw [if_pos hm] at c7
    have c9 : ¬ (((f y : Nat) : Int) < 0) := by omega
    simp only [impl_turnTo.l2, c1, c2, c3, hp, c4, c5, c7, c9, c6, if_true, if_false]
    exact q2
  · have e : st1 out y = out ++ [y] := by unfold st1; rw [if_neg hm]
    obtain ⟨q, q1, q2⟩ := H _ (by rw [e]; exact hf.add hm hv ht)
    rw [e] at q2
    refine ⟨q, q1, ev_succ ?_⟩
    rw [if_neg hm] at c7
    have c9 : ((-1 : Int) < 0) := by omega
    simp only [impl_turnTo.l2, c1, c2, c3, hp, c4, c5, c7, c9, c8, c6, if_true, Int.toNat_natCast, partL_set hy, I_snoc]
    exact q2
theorem turnTo_loop {r u : List Nat} (hs : Sf r u) {im : Nat} (F : Nat) : ∀ (a : Nat) (out : List Nat) (f : Nat → Nat), RInv r.length out → FI r u im out f → a ≤ out.length → r.length < F + a →
    ∃ f', FI r u im (bfs r u F a out) f' ∧ Ev (fun k => impl_turnTo.l1 k (I (inv r)) (I (inv u)) (partL r.length out f) (I out) (a : Int) (I r) (I u)) (partL r.length (bfs r u F a out) f') := by
  have hle := hs.le
  have heq := hs.eq
  induction F with
  | zero =>
    intro a out f hr hf ha hF
    have := hr.le
    omega
  | succ F ih =>
    intro a out f hr hf ha hF
    by_cases h : a < out.length
    · have hb : bfs r u (F + 1) a out = bfs r u F (a + 1) (st1 (st1 out (g r (g out a))) (g u (g out a))) := by
        rw [bfs, if_pos h]
      rw [hb]
      have hx := hr.g h
      have hxm : g out a ∈ out := g_mem h
      have hg1 := g_lt hs.pr hx
      have hg2 : g u (g out a) < r.length := by rw [← heq]; exact g_lt hs.pu (by omega)
      have hfx := hf.lt _ hxm
      have hv1 := ix_lt hs.pr hfx
      have hv2 : ix u (f (g out a)) < r.length := by rw [← heq]; exact ix_lt hs.pu (by omega)
      have r1 := hr.st hg1
      have r2 := r1.st hg2
      have t1 : ∀ b, TurnP r u b → g b 0 = im → ix r (f (g out a)) = g b (g r (g out a)) := fun b hb hb0 => by
        rw [hf.t b hb hb0 _ hxm, (hb.t (g out a) (by rw [hb.len]; exact hx)).1]
      have t2 : ∀ b, TurnP r u b → g b 0 = im → ix u (f (g out a)) = g b (g u (g out a)) := fun b hb hb0 => by
        rw [hf.t b hb hb0 _ hxm, (hb.t (g out a) (by rw [hb.len]; exact hx)).2]
      have K := turnTo_one hs hr hf hg1 hv1 t1 a 0 (by omega) [⟨((g r (g out a) : Nat) : Int), ((ix r (f (g out a)) : Nat) : Int)⟩, ⟨((g u (g out a) : Nat) : Int), ((ix u (f (g out a)) : Nat) : Int)⟩] rfl rfl (fun q => ∃ f', FI r u im (bfs r u F (a + 1) (st1 (st1 out (g r (g out a))) (g u (g out a)))) f' ∧ q = partL r.length (bfs r u F (a + 1) (st1 (st1 out (g r (g out a))) (g u (g out a)))) f') (fun f1 hf1 => by
        refine turnTo_one hs r1 hf1 hg2 hv2 t2 a 1 (by omega) _ rfl rfl _ (fun f2 hf2 => ?_)
        obtain ⟨f', i1, i2⟩ := ih (a + 1) _ f2 r2 hf2 (Nat.le_trans (by omega : a + 1 ≤ out.length) (Nat.le_trans (st1_len _ _) (st1_len _ _))) (by omega)
        refine ⟨_, ⟨f', i1, rfl⟩, ev_succ ?_⟩
        have d1 : ¬ (((1 + 1 : Nat) : Int) < 2) := by omega
        have d2 := w64s a (by have := hr.le; omega)
        simp only [impl_turnTo.l2, d1, if_false, d2]
        exact i2)
      obtain ⟨q, ⟨f', k1, k2⟩, k3⟩ := K
      refine ⟨f', k1, ?_⟩
      rw [← k2]
      refine ev_succ ?_
      have c1 : (a : Int) < (out.length : Int) := by omega
      have c2 : (0 : Int) ≤ (a : Int) := by omega
      have c3 : (0 : Int) ≤ ((g out a : Nat) : Int) := by omega
      have c4 : ((g out a : Nat) : Int) < (r.length : Int) := by omega
      have c5 : ((g out a : Nat) : Int) < ((partL r.length out f).length : Int) := by rw [partL_len]; omega
      have c6 := rd_partL (n := r.length) (out := out) (f := f) hx
      rw [if_pos hxm] at c6
      have c7 : (0 : Int) ≤ ((f (g out a) : Nat) : Int) := by omega
      have c8 : ((f (g out a) : Nat) : Int) < ((inv r).length : Int) := by rw [inv_len]; omega
      have c9 : ((g out a : Nat) : Int) < (u.length : Int) := by omega
      have c10 : ((f (g out a) : Nat) : Int) < ((inv u).length : Int) := by rw [inv_len]; omega
      have e1 : g (inv r) (f (g out a)) = ix r (f (g out a)) := g_inv hfx
      have e2 : g (inv u) (f (g out a)) = ix u (f (g out a)) := g_inv (by omega)
      simp only [impl_turnTo.l1, c1, c2, rdI, c3, c4, c5, c6, c7, c8, c9, c10, I_len', e1, e2, if_true, Option.bind_some]
      exact k3
    · have hb : bfs r u (F + 1) a out = out := by rw [bfs, if_neg h]
      rw [hb]
      refine ⟨f, hf, ev_succ ?_⟩
      have c1 : ¬ ((a : Int) < (out.length : Int)) := by omega
      simp only [impl_turnTo.l1, c1, I_len', if_false]
      exact Ev.now _
theorem reach_all {r u : List Nat} (hs : Sf r u) (hnd : (reach r u 0).Nodup) (hlt : ∀ x ∈ reach r u 0, x < r.length) : ∀ x, x < r.length → x ∈ reach r u 0 := by
  have hp : IsP (reach r u 0) := ⟨fun x hx => by rw [hs.all]; exact hlt x hx, hnd⟩
  intro x hx
  exact mem_all hp (by rw [hs.all]; exact hx)
theorem bfs_inv {r u : List Nat} (hs : Sf r u) (F : Nat) : ∀ (a : Nat) (out : List Nat), RInv r.length out → RInv r.length (bfs r u F a out) := by
  induction F with
  | zero => intro a out h; exact h
  | succ F ih =>
    intro a out h
    unfold bfs
    split
    · rename_i ha
      have hx := h.g ha
      exact ih _ _ ((h.st (g_lt hs.pr hx)).st (by rw [← hs.eq]; exact g_lt hs.pu (by rw [hs.eq]; exact hx)))
    · exact h
theorem reach_inv {r u : List Nat} (hs : Sf r u) : RInv r.length (reach r u 0) := bfs_inv hs _ _ _ ⟨by simp, by have := hs.pos; simpa using this⟩
theorem impl_turnTo_ev {r u : List Nat} (hs : Sf r u) {im : Nat} (him : im < r.length) : ∃ t, t.length = r.length ∧ g t 0 = im ∧ (∀ b, TurnP r u b → g b 0 = im → t = b) ∧ Ev (fun k => impl_turnTo.f k (I r) (I u) (im : Int)) (I t) := by
  have hle := hs.le
  have heq := hs.eq
  have hpos := hs.pos
  have hf0 : FI r u im [0] (fun _ => im) := ⟨fun x hx => him, rfl, by simp, fun b hb hb0 x hx => by
    have : x = 0 := by simpa using hx
    subst this
    exact hb0.symm⟩
  obtain ⟨f, hf, hev⟩ := turnTo_loop hs (r.length + 1) 0 [0] (fun _ => im) ⟨by simp, by simpa using hpos⟩ hf0 (by simp) (by omega)
  have hri := reach_inv hs
  have hall := reach_all hs hri.nd hri.lt
  have hb : bfs r u (r.length + 1) 0 [0] = reach r u 0 := rfl
  rw [hb] at hf hev
  rw [partL_full hall] at hev
  refine ⟨tab r.length f, tab_len _ _, by rw [g_tab hpos, hf.z], fun b hb hb0 => ?_, ?_⟩
  · exact (eq_tab hb.len (fun i hi => (hf.t b hb hb0 i (hall i hi)).symm)).symm
  · unfold impl_turnTo.f
    refine Ev.bind (impl_inv hs.pr hs.le) (Ev.bind (impl_inv hs.pu (by omega)) ?_)
    have h1 : (0 : Int) ≤ (r.length : Int) := by omega
    have h2 : r.length ≤ 35184372088832 := by omega
    simp only [I_len', h1, h2, if_true, Int.toNat_natCast, Option.bind_some, List.length_replicate]
    have H : ∀ (d i : Nat) (c : List Int), i + d = r.length → c.length = r.length → (∀ j : Nat, j < i → rd c (j : Int) = -1) → Ev (fun k => impl_turnTo.l0 k (im : Int) (I (inv r)) (I (inv u)) c (r.length : Int) (i : Int) (I r) (I u)) (I (tab r.length f)) := by
      intro d
      induction d with
      | zero =>
        intro i c h hc hx
        refine ev_succ ?_
        have c1 : ¬ ((i : Int) < (r.length : Int)) := by omega
        have c2 : (0 : Int) < (c.length : Int) := by omega
        have e : c.set (0 : Int).toNat (im : Int) = partL r.length [0] (fun _ => im) := by
          have e0 : c = partL r.length [] (fun _ => im) := ext_rd (by rw [hc, partL_len]) (fun j hj => by
            rw [rd_partL (by omega), hx j (by omega)]
            simp)
          rw [e0, show (0 : Int).toNat = 0 from rfl, partL_set hpos]
          refine ext_rd (by rw [partL_len, partL_len]) (fun j hj => ?_)
          rw [partL_len] at hj
          rw [rd_partL hj, rd_partL hj]
          by_cases e : j = 0
          · simp [e]
          · simp [e]
        simp only [impl_turnTo.l0, c1, c2, if_true, if_false, e]
        exact hev
      | succ d ih =>
        intro i c h hc hx
        refine ev_succ ?_
        have c1 : (i : Int) < (r.length : Int) := by omega
        have c2 : (0 : Int) ≤ (i : Int) := by omega
        have c3 : (i : Int) < (c.length : Int) := by omega
        have c4 := w64s i (by omega)
        simp only [impl_turnTo.l0, c1, c2, c3, c4, if_true, Int.toNat_natCast]
        refine ih (i + 1) _ (by omega) (by rw [List.length_set]; exact hc) (fun j hj => ?_)
        rw [rd_set (by omega)]
        by_cases e : i = j
        · simp [e]
        · rw [if_neg e]
          exact hx j (by omega)
    exact H r.length 0 _ (by omega) (by simp) (fun j hj => by omega)
end Go.Proofs.Ytlbcafniodfdgaa.M
end
section
/- Half turns: the program and the reference find the same ones. No conditions. -/
namespace Go.Proofs.Ytlbcafniodfdgaa.M
set_option linter.unusedVariables false
set_option linter.unusedSimpArgs false
open Go.RowKit Go.Proofs.YtlbcafniodfdgaaW.PrintWords Go.Proofs.YtlbcafniodfdgaaW.PrintLast Go.Proofs.YtlbcafniodfdgaaW.PrintMore Go.Proofs.Ytlbcafniodfdgaa.A
def Led (r u out : List Nat) (a : Nat) : Prop := ∀ i, i < out.length → 0 < i → ∃ j, j < i ∧ j < a ∧ (g out i = g r (g out j) ∨ g out i = g u (g out j))
theorem g_app {out : List Nat} {x i : Nat} (h : i < out.length) : g (out ++ [x]) i = g out i := by
  unfold g
  rw [List.getD_eq_getElem?_getD, List.getD_eq_getElem?_getD, List.getElem?_append_left h]
theorem g_last (out : List Nat) (x : Nat) : g (out ++ [x]) out.length = x := getD_mid out x [] 0
theorem g_st1 {out : List Nat} {x i : Nat} (h : i < out.length) : g (st1 out x) i = g out i := by
  unfold st1
  split
  · rfl
  · exact g_app h
theorem Led.st {r u out : List Nat} {a y : Nat} (h : Led r u out (a + 1)) (ha : a < out.length) (hy : y = g r (g out a) ∨ y = g u (g out a)) : Led r u (st1 out y) (a + 1) := by
  unfold st1
  split
  · exact h
  · intro i hi h0
    by_cases e : i < out.length
    · obtain ⟨j, j1, j2, j3⟩ := h i e h0
      refine ⟨j, j1, j2, ?_⟩
      rw [g_app e, g_app (by omega)]
      exact j3
    · have e2 : i = out.length := by simp at hi; omega
      subst e2
      refine ⟨a, ha, by omega, ?_⟩
      rw [g_last, g_app ha]
      exact hy
theorem bfs_led {r u : List Nat} (F : Nat) : ∀ (a : Nat) (out : List Nat), Led r u out a → a ≤ out.length → Led r u (bfs r u F a out) (bfs r u F a out).length := by
  induction F with
  | zero =>
    intro a out h ha i hi h0
    obtain ⟨j, j1, j2, j3⟩ := h i hi h0
    have hi' : i < out.length := hi
    exact ⟨j, j1, by show j < out.length; omega, j3⟩
  | succ F ih =>
    intro a out h ha
    unfold bfs
    split
    · rename_i h1
      have k0 : Led r u out (a + 1) := fun i hi h0 => by
        obtain ⟨j, j1, j2, j3⟩ := h i hi h0
        exact ⟨j, j1, by omega, j3⟩
      have l1 := st1_len out (g r (g out a))
      have l2 := st1_len (st1 out (g r (g out a))) (g u (g out a))
      have k1 := k0.st h1 (y := g r (g out a)) (.inl rfl)
      have k2 := k1.st (a := a) (y := g u (g out a)) (by omega) (.inr (by rw [g_st1 h1]))
      exact ih _ _ k2 (by omega)
    · intro i hi h0
      obtain ⟨j, j1, j2, j3⟩ := h i hi h0
      exact ⟨j, j1, by omega, j3⟩
theorem reach_led (r u : List Nat) (s : Nat) : Led r u (reach r u s) (reach r u s).length := bfs_led _ _ _ (fun i hi h0 => by simp at hi; omega) (by simp)
theorem reach_head {r u : List Nat} {s : Nat} : g (reach r u s) 0 = s ∧ 0 < (reach r u s).length := by
  have H : ∀ F a (out : List Nat), 0 < out.length → g (bfs r u F a out) 0 = g out 0 ∧ 0 < (bfs r u F a out).length := by
    intro F
    induction F with
    | zero => intro a out h; exact ⟨rfl, h⟩
    | succ F ih =>
      intro a out h
      unfold bfs
      split
      · have l1 := st1_len out (g r (g out a))
        have l2 := st1_len (st1 out (g r (g out a))) (g u (g out a))
        obtain ⟨h1, h2⟩ := ih (a + 1) (st1 (st1 out (g r (g out a))) (g u (g out a))) (by omega)
        refine ⟨?_, h2⟩
        rw [h1, g_st1 (by omega), g_st1 h]
      · exact ⟨rfl, h⟩
  exact H _ _ [s] (by simp)
inductive Given (r u L : List Nat) (i : Nat) : Nat → Prop
  | z : Given r u L i 0
  | r (j : Nat) : j < i → Given r u L i (g r (g L j))
  | u (j : Nat) : j < i → Given r u L i (g u (g L j))
theorem Given.mono {r u L : List Nat} {i x : Nat} (h : Given r u L i x) : Given r u L (i + 1) x := by
  cases h with
  | z => exact .z
  | r j hj => exact .r j (by omega)
  | u j hj => exact .u j (by omega)
theorem given_at {r u : List Nat} {i : Nat} (hi : i < (reach r u 0).length) : Given r u (reach r u 0) i (g (reach r u 0) i) := by
  by_cases h0 : i = 0
  · subst h0
    rw [reach_head.1]
    exact .z
  · obtain ⟨j, j1, _, j3⟩ := reach_led r u 0 i hi (by omega)
    rcases j3 with j3 | j3
    · rw [j3]; exact .r j j1
    · rw [j3]; exact .u j j1
structure GI (r u : List Nat) (im : Nat) (i : Nat) (c : List Nat) : Prop where
  len : c.length = r.length
  lt : ∀ x, x < r.length → g c x < r.length
  t : ∀ b, TurnP r u b → g b 0 = im → ∀ x, Given r u (reach r u 0) i x → g c x = g b x
  n : ∀ b, TurnP r u b → g b 0 ≠ im → ∀ x, Given r u (reach r u 0) i x → g c x ≠ g b x
theorem GI.put {r u : List Nat} (hs : Sf r u) {p : List Nat} (hp : p = r ∨ p = u) {im : Nat} {c : List Nat} (P : Nat → Prop) (h1 : c.length = r.length) (h2 : ∀ x, x < r.length → g c x < r.length) (ht : ∀ b, TurnP r u b → g b 0 = im → ∀ x, P x → g c x = g b x) (hn : ∀ b, TurnP r u b → g b 0 ≠ im → ∀ x, P x → g c x ≠ g b x) {x : Nat} (hx : x < r.length) (hP : P x) :
    (c.set (g p x) (ix p (g c x))).length = r.length ∧ (∀ z, z < r.length → g (c.set (g p x) (ix p (g c x))) z < r.length) ∧ (∀ b, TurnP r u b → g b 0 = im → ∀ z, (P z ∨ z = g p x) → g (c.set (g p x) (ix p (g c x))) z = g b z) ∧ (∀ b, TurnP r u b → g b 0 ≠ im → ∀ z, (P z ∨ z = g p x) → g (c.set (g p x) (ix p (g c x))) z ≠ g b z) := by
  have heq := hs.eq
  have ipp : IsP p := by rcases hp with rfl | rfl; exact hs.pr; exact hs.pu
  have hpl : p.length = r.length := by rcases hp with rfl | rfl; rfl; exact heq
  have gx := g_lt ipp (i := x) (by omega)
  have cx := h2 x hx
  have hv := ix_lt ipp (x := g c x) (by omega)
  have tp : ∀ b, TurnP r u b → g b (g p x) = ix p (g b x) := fun b hb => by
    have := hb.t x (by rw [hb.len]; exact hx)
    rcases hp with rfl | rfl
    · exact this.1
    · exact this.2
  refine ⟨by rw [List.length_set]; exact h1, fun z hz => ?_, fun b hb hb0 z hz => ?_, fun b hb hb0 z hz => ?_⟩
  · rw [g_set (by omega)]
    split
    · omega
    · exact h2 z hz
  · rw [g_set (by omega)]
    by_cases e : g p x = z
    · rw [if_pos e, ← e, tp b hb, ht b hb hb0 x hP]
    · rw [if_neg e]
      rcases hz with hz | hz
      · exact ht b hb hb0 z hz
      · exact absurd hz.symm e
  · rw [g_set (by omega)]
    by_cases e : g p x = z
    · rw [if_pos e, ← e, tp b hb]
      intro h
      exact hn b hb hb0 x hP (ix_inj ipp (by omega) (by have := g_lt hb.p (i := x) (by rw [hb.len]; exact hx); rw [hb.len] at this; omega) h)
    · rw [if_neg e]
      rcases hz with hz | hz
      · exact hn b hb hb0 z hz
      · exact absurd hz.symm e
theorem from_loop {r u : List Nat} (hs : Sf r u) {im : Nat} : ∀ (d i : Nat) (c : List Nat), i + d = r.length → GI r u im i c → ∃ t, GI r u im r.length t ∧ Ev (fun k => spec_l11From.l0 k (I (inv r)) (I (inv u)) (I c) (I (reach r u 0)) ((reach r u 0).length : Int) (i : Int) (I r) (I u)) (I t) := by
  have hle := hs.le
  have heq := hs.eq
  have hall := hs.all
  have hri := reach_inv hs
  intro d
  induction d with
  | zero =>
    intro i c h hc
    obtain rfl : i = r.length := by omega
    refine ⟨c, hc, ev_succ ?_⟩
    have c1 : ¬ ((r.length : Int) < ((reach r u 0).length : Int)) := by omega
    simp only [spec_l11From.l0, c1, if_false]
    exact Ev.now _
  | succ d ih =>
    intro i c h hc
    have hi : i < (reach r u 0).length := by omega
    have hx : g (reach r u 0) i < r.length := hri.lt _ (g_mem hi)
    generalize hX : g (reach r u 0) i = x at hx
    have hg : Given r u (reach r u 0) i x := by rw [← hX]; exact given_at hi
    obtain ⟨p1, p2, p3, p4⟩ := GI.put hs (p := r) (.inl rfl) (Given r u (reach r u 0) i) hc.len hc.lt hc.t hc.n hx hg
    obtain ⟨q1, q2, q3, q4⟩ := GI.put hs (p := u) (.inr rfl) _ p1 p2 p3 p4 hx (.inl hg)
    have sub : ∀ z, Given r u (reach r u 0) (i + 1) z → ((Given r u (reach r u 0) i z ∨ z = g r x) ∨ z = g u x) := by
      intro z hz
      cases hz with
      | z => exact .inl (.inl .z)
      | r j hj =>
        by_cases e : j = i
        · subst e; rw [hX]; exact .inl (.inr rfl)
        · exact .inl (.inl (.r j (by omega)))
      | u j hj =>
        by_cases e : j = i
        · subst e; rw [hX]; exact .inr rfl
        · exact .inl (.inl (.u j (by omega)))
    obtain ⟨t, t1, t2⟩ := ih (i + 1) _ (by omega) ⟨q1, q2, fun b hb h0 z hz => q3 b hb h0 z (sub z hz), fun b hb h0 z hz => q4 b hb h0 z (sub z hz)⟩
    refine ⟨t, t1, ev_succ ?_⟩
    have gr := g_lt hs.pr hx
    have gu : g u x < r.length := by rw [← heq]; exact g_lt hs.pu (by omega)
    have cx := hc.lt x hx
    have c1x := p2 x hx
    have c1 : (i : Int) < ((reach r u 0).length : Int) := by omega
    have c2 : (0 : Int) ≤ (i : Int) := by omega
    have c3 : (0 : Int) ≤ (x : Int) := by omega
    have c4 : (x : Int) < (r.length : Int) := by omega
    have c5 : (x : Int) < (c.length : Int) := by have := hc.len; omega
    have c6 : (0 : Int) ≤ ((g c x : Nat) : Int) := by omega
    have c7 : ((g c x : Nat) : Int) < ((inv r).length : Int) := by rw [inv_len]; omega
    have c8 : (0 : Int) ≤ ((g r x : Nat) : Int) := by omega
    have c9 : ((g r x : Nat) : Int) < (c.length : Int) := by have := hc.len; omega
    have c10 : (x : Int) < (u.length : Int) := by omega
    have e1 : g (inv r) (g c x) = ix r (g c x) := g_inv cx
    have c11 : (0 : Int) ≤ ((g (c.set (g r x) (ix r (g c x))) x : Nat) : Int) := by omega
    have c12 : ((g (c.set (g r x) (ix r (g c x))) x : Nat) : Int) < ((inv u).length : Int) := by rw [inv_len]; omega
    have c13 : (0 : Int) ≤ ((g u x : Nat) : Int) := by omega
    have c14 : ((g u x : Nat) : Int) < (c.length : Int) := by have := hc.len; omega
    have e2 : g (inv u) (g (c.set (g r x) (ix r (g c x))) x) = ix u (g (c.set (g r x) (ix r (g c x))) x) := g_inv (by omega)
    have h4 := w64s i (by omega)
    simp only [spec_l11From.l0, c1, c2, rdI, hX, c3, c4, c5, c6, c7, c8, c9, c10, I_len', e1, I_set, if_true, Option.bind_some, Int.toNat_natCast, c11, c12, c13, c14, e2, h4]
    exact t2
theorem spec_from_ev {r u : List Nat} (hs : Sf r u) {im : Nat} (him : im < r.length) : ∃ t, t.length = r.length ∧ (∀ b, TurnP r u b → g b 0 = im → t = b) ∧ (∀ b, TurnP r u b → g b 0 ≠ im → t ≠ b) ∧ Ev (fun k => spec_l11From.f k (I r) (I u) (im : Int)) (I t) := by
  have hle := hs.le
  have heq := hs.eq
  have hpos := hs.pos
  have hri := reach_inv hs
  have hall := reach_all hs hri.nd hri.lt
  have h0 : GI r u im 0 ((List.replicate r.length 0).set 0 im) := by
    refine ⟨by simp, fun x hx => ?_, fun b hb h0 x hx => ?_, fun b hb h0 x hx => ?_⟩
    · rw [g_set (by simpa using hpos)]
      split
      · exact him
      · unfold g
        rw [List.getD_eq_getElem?_getD, List.getElem?_replicate]
        simp [hx]
        omega
    · cases hx with
      | z => rw [g_set (by simpa using hpos)]; simp [h0]
      | r j hj => omega
      | u j hj => omega
    · cases hx with
      | z => rw [g_set (by simpa using hpos)]; simpa using fun h => h0 h.symm
      | r j hj => omega
      | u j hj => omega
  obtain ⟨t, t1, t2⟩ := from_loop hs r.length 0 _ (by omega) h0
  have hgiven : ∀ x, x < r.length → Given r u (reach r u 0) r.length x := fun x hx => by
    obtain ⟨i, hi, e⟩ := mem_g (hall x hx)
    have := given_at (r := r) (u := u) hi
    rw [e] at this
    have hm : ∀ d j y, Given r u (reach r u 0) j y → Given r u (reach r u 0) (j + d) y := by
      intro d
      induction d with
      | zero => intro j y h; exact h
      | succ d ihd => intro j y h; exact (ihd j y h).mono
    have h2 := hm (r.length - i) i x this
    have e2 : i + (r.length - i) = r.length := by have := hs.all; omega
    rw [e2] at h2
    exact h2
  refine ⟨t, t1.len, fun b hb hb0 => ?_, fun b hb hb0 e => ?_, ?_⟩
  · exact ext_g (by rw [t1.len, hb.len]) (fun i hi => t1.t b hb hb0 i (hgiven i (by rw [← t1.len]; exact hi)))
  · exact t1.n b hb hb0 0 .z (by rw [e])
  · unfold spec_l11From.f
    refine Ev.bind (spec_inv hs.pr hs.le) (Ev.bind (spec_inv hs.pu (by omega)) ?_)
    have h1 : (0 : Int) ≤ (r.length : Int) := by omega
    have h2 : r.length ≤ 35184372088832 := by omega
    have h3 : (0 : Int) < (r.length : Int) := by omega
    simp only [I_len', h1, h2, h3, if_true, Int.toNat_natCast, Option.bind_some, List.length_replicate]
    refine Ev.bind (reach_ev hs.pr hs.pu heq hs.le 0 hpos) ?_
    have e0 : (List.replicate r.length (0 : Int)).set (0 : Int).toNat (im : Int) = I ((List.replicate r.length 0).set 0 im) := by
      rw [← I_set, I_rep]
      rfl
    rw [e0]
    simp only [I_len']
    exact t2
theorem turns_alike {r u : List Nat} (hs : Sf r u) {im : Nat} (him : im < r.length) : ∃ t1 t2, Ev (fun k => impl_turnTo.f k (I r) (I u) (im : Int)) (I t1) ∧ Ev (fun k => spec_l11From.f k (I r) (I u) (im : Int)) (I t2) ∧ t1.length = r.length ∧ (turnB (I r) (I u) (I t1) = turnB (I r) (I u) (I t2)) ∧ (turnB (I r) (I u) (I t1) = true → t1 = t2) := by
  obtain ⟨t1, a1, a2, a3, a4⟩ := impl_turnTo_ev hs him
  obtain ⟨t2, b1, b2, b3, b4⟩ := spec_from_ev hs him
  have k : ∀ t, turnB (I r) (I u) (I t) = true → TurnP r u t := fun t h => by
    obtain ⟨r', u', a', e1, e2, e3, _, hp, hl, ht⟩ := turn_nat h
    have := I_inj e1; have := I_inj e2; have := I_inj e3
    subst_vars
    exact ⟨hl, hp, ht⟩
  have h1 : turnB (I r) (I u) (I t1) = true → t1 = t2 := fun h => (b2 t1 (k t1 h) a2).symm
  have h2 : turnB (I r) (I u) (I t2) = true → t1 = t2 := fun h => by
    have hb := k t2 h
    by_cases e : g t2 0 = im
    · exact a3 t2 hb e
    · exact absurd rfl (b3 t2 hb e)
  refine ⟨t1, t2, a4, b4, a1, ?_, h1⟩
  rw [Bool.eq_iff_iff]
  constructor
  · intro h
    rw [← h1 h]
    exact h
  · intro h
    rw [h2 h]
    exact h
theorem turns_both (r u : List Int) : ∃ l, Ev (fun k => spec_TurnsOf.f k r u) l ∧ Ev (fun k => impl_TurnsOf.f k r u) l ∧ SmallSS l := by
  unfold spec_TurnsOf.f impl_TurnsOf.f
  by_cases h : surfB r u = true
  · obtain ⟨r, u, rfl, rfl, hs⟩ := surf_nat h
    have hle := hs.le
    have H : ∀ (d i : Nat) (acc : List (List Int)), i + d = r.length → acc.length ≤ i → (∀ x ∈ acc, x.length = r.length) → ∃ l, Ev (fun k => spec_TurnsOf.l0 k acc (r.length : Int) (i : Int) (I r) (I u)) l ∧ Ev (fun k => impl_TurnsOf.l0 k acc (r.length : Int) (i : Int) (I r) (I u)) l ∧ l.length ≤ r.length ∧ (∀ x ∈ l, x.length = r.length) := by
      intro d
      induction d with
      | zero =>
        intro i acc hi ha hx
        have c1 : ¬ ((i : Int) < (r.length : Int)) := by omega
        refine ⟨acc, ev_succ ?_, ev_succ ?_, by omega, hx⟩
        · simp only [spec_TurnsOf.l0, c1, if_false]
          exact Ev.now _
        · simp only [impl_TurnsOf.l0, c1, if_false]
          exact Ev.now _
      | succ d ih =>
        intro i acc hi ha hx
        have c1 : (i : Int) < (r.length : Int) := by omega
        have c2 := w64s i (by omega)
        have c3 : acc.length < 5864062014805 := by omega
        obtain ⟨t1, t2, e1, e2, e3, e4, e5⟩ := turns_alike hs (im := i) (by omega)
        by_cases ht : turnB (I r) (I u) (I t1) = true
        · obtain ⟨l, l1, l2, l3, l4⟩ := ih (i + 1) (acc ++ [I t1]) (by omega) (by simp; omega) (fun x hx' => by
            rcases List.mem_append.mp hx' with hx' | hx'
            · exact hx x hx'
            · have : x = I t1 := by simpa using hx'
              rw [this, I_len, e3])
          refine ⟨l, ev_succ ?_, ev_succ ?_, l3, l4⟩
          · simp only [spec_TurnsOf.l0, c1, if_true]
            refine Ev.bind e2 (Ev.bind (spec_turn _ _ _) ?_)
            rw [← e4, ht, ← e5 ht]
            simp only [if_true, c2, c3]
            exact l1
          · simp only [impl_TurnsOf.l0, c1, if_true]
            refine Ev.bind e1 (Ev.bind (impl_turn _ _ _) ?_)
            rw [ht]
            simp only [if_true, c2, c3]
            exact l2
        · have ht' := Bool.eq_false_iff.mpr ht
          obtain ⟨l, l1, l2, l3, l4⟩ := ih (i + 1) acc (by omega) (by omega) hx
          refine ⟨l, ev_succ ?_, ev_succ ?_, l3, l4⟩
          · simp only [spec_TurnsOf.l0, c1, if_true]
            refine Ev.bind e2 (Ev.bind (spec_turn _ _ _) ?_)
            rw [← e4, ht']
            simp only [Bool.false_eq_true, if_false, c2]
            exact l1
          · simp only [impl_TurnsOf.l0, c1, if_true]
            refine Ev.bind e1 (Ev.bind (impl_turn _ _ _) ?_)
            rw [ht']
            simp only [Bool.false_eq_true, if_false, c2]
            exact l2
    obtain ⟨l, l1, l2, l3, l4⟩ := H r.length 0 [] (by omega) (by simp) (by simp)
    refine ⟨l, Ev.bind (spec_surf _ _) ?_, Ev.bind (impl_surf _ _) ?_, ⟨by omega, fun x hx => by rw [l4 x hx]; exact hle, ?_⟩⟩
    · simp only [h, if_true, I_len']
      exact l1
    · simp only [h, if_true, I_len']
      exact l2
    · have : ∀ m : List (List Int), (∀ x ∈ m, x.length = r.length) → totL m = m.length * r.length := by
        intro m
        induction m with
        | nil => intro _; simp [totL]
        | cons x m ihm =>
          intro hm
          rw [totL_cons, ihm (fun y hy => hm y (by simp [hy])), hm x (by simp)]
          simp [Nat.succ_mul, Nat.add_comm]
      rw [this l l4]
      have := Nat.mul_le_mul (Nat.le_trans l3 hle) hle
      omega
  · have h' := Bool.eq_false_iff.mpr h
    refine ⟨[], Ev.bind (spec_surf _ _) ?_, Ev.bind (impl_surf _ _) ?_, small_nil⟩
    · simp only [h', Bool.false_eq_true, if_false]
      exact Ev.now _
    · simp only [h', Bool.false_eq_true, if_false]
      exact Ev.now _
end Go.Proofs.Ytlbcafniodfdgaa.M
end
section
/- The law of half turns answers true. No conditions. -/
namespace Go.Proofs.Ytlbcafniodfdgaa.Pure
set_option linter.unusedVariables false
set_option linter.unusedSimpArgs false
open Go.RowKit Go.Proofs.YtlbcafniodfdgaaW.PrintWords Go.Proofs.YtlbcafniodfdgaaW.PrintLast Go.Proofs.YtlbcafniodfdgaaW.PrintMore Go.Proofs.Ytlbcafniodfdgaa.A Go.Proofs.Ytlbcafniodfdgaa.M
theorem FnExactTurnsOf (r u : List Int) (hr : r.length ≤ maxLen) (_ : ∀ x ∈ r, (Lit.int .i64 x).wf = true) (hu : u.length ≤ maxLen) (_ : ∀ x ∈ u, (Lit.int .i64 x).wf = true) : ∃ k, laws_FnExactTurnsOf.F k r u := by
  unfold maxLen at hr hu
  unfold laws_FnExactTurnsOf.F
  by_cases h2 : r.length + u.length ≤ 1048576
  · obtain ⟨w, ⟨K1, e1⟩, ⟨K2, e2⟩, hw⟩ := turns_both r u
    obtain ⟨K3, e3⟩ := toSurf_ev r u (by omega) (by omega)
    obtain ⟨K4, e4⟩ := eqSurf_same r u (by omega) (by omega)
    obtain ⟨K5, e5⟩ := eqSS_same w (by have := hw.n; omega) (fun x hx => by have := hw.m x hx; omega)
    obtain ⟨K6, e6⟩ := markSurf_ev r u h2
    obtain ⟨K7, e7⟩ := markSS_ev w 1 (by omega) (by have := hw.t; omega) (by have := hw.n; omega)
    obtain ⟨K8, e8⟩ := heldSS_ev w 1 (by omega) (by have := hw.t; omega) (by have := hw.n; omega)
    exact ⟨K1 + K2 + K3 + K4 + K5 + K6 + K7 + K8, _, sz_small h2, .inr ⟨by omega, w, _, _, _, _, _, e3 _ (by omega), e4 _ (by omega), e1 _ (by omega), e2 _ (by omega), e5 _ (by omega), e6 _ (by omega), decide_eq_false (by omega), e7 _ (by omega), e8 _ (by omega), decide_eq_false (by omega)⟩⟩
  · exact ⟨0, _, sz_big (by omega) (by omega) h2, .inl (by omega)⟩
end Go.Proofs.Ytlbcafniodfdgaa.Pure
end
