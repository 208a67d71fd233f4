/- Plain mathematics: permutations as lists of numbers. No conditions. -/
import Derived.Test.YtlbcafniodfdgaaWWords
namespace Go.Proofs.Ytlbcafniodfdgaa.M
set_option linter.unusedVariables false
set_option linter.unusedSimpArgs false
/-- a list of numbers as whole numbers -/
def I (l : List Nat) : List Int := l.map Int.ofNat
/-- the entry at a place -/
def g (p : List Nat) (i : Nat) : Nat := p.getD i 0
/-- the list of a function's values below n -/
def tab (n : Nat) (f : Nat → Nat) : List Nat := (List.range n).map f
theorem I_len (l : List Nat) : (I l).length = l.length := by simp [I]
theorem I_inj {a b : List Nat} (h : I a = I b) : a = b := by
  unfold I at h
  exact (List.map_inj_right (fun x y hxy => Int.ofNat.inj hxy)).mp h
theorem tab_len (n : Nat) (f : Nat → Nat) : (tab n f).length = n := by simp [tab]
theorem g_tab {n : Nat} {f : Nat → Nat} {i : Nat} (h : i < n) : g (tab n f) i = f i := by simp [g, tab, List.getD_eq_getElem?_getD, h]
theorem g_get {p : List Nat} {i : Nat} (h : i < p.length) : g p i = p[i] := by simp [g, List.getD_eq_getElem?_getD, h]
theorem g_mem {p : List Nat} {i : Nat} (h : i < p.length) : g p i ∈ p := by rw [g_get h]; exact List.getElem_mem h
theorem mem_g {p : List Nat} {x : Nat} (h : x ∈ p) : ∃ i, i < p.length ∧ g p i = x := by
  obtain ⟨i, hi, rfl⟩ := List.mem_iff_getElem.mp h
  exact ⟨i, hi, g_get hi⟩
theorem ext_g {a b : List Nat} (hl : a.length = b.length) (h : ∀ i, i < a.length → g a i = g b i) : a = b := by
  apply List.ext_getElem hl
  intro i h1 h2
  rw [← g_get h1, ← g_get h2]
  exact h i h1
theorem tab_ext {n : Nat} {f f' : Nat → Nat} (h : ∀ i, i < n → f i = f' i) : tab n f = tab n f' :=
  ext_g (by simp [tab_len]) (fun i hi => by rw [tab_len] at hi; rw [g_tab hi, g_tab hi, h i hi])
theorem eq_tab {l : List Nat} {n : Nat} {f : Nat → Nat} (hl : l.length = n) (h : ∀ i, i < n → g l i = f i) : l = tab n f :=
  ext_g (by rw [tab_len, hl]) (fun i hi => by rw [hl] at hi; rw [g_tab hi, h i hi])
theorem tab_g (p : List Nat) : tab p.length (g p) = p := (eq_tab rfl (fun _ _ => rfl)).symm
theorem g_set {p : List Nat} {i x j : Nat} (h : i < p.length) : g (p.set i x) j = if i = j then x else g p j := by
  unfold g
  rw [List.getD_eq_getElem?_getD, List.getD_eq_getElem?_getD, List.getElem?_set]
  by_cases e : i = j
  · subst e
    simp [h]
  · simp [e]
theorem I_set (p : List Nat) (i x : Nat) : (I p).set i (x : Int) = I (p.set i x) := by simp [I, List.map_set]
theorem I_app (p q : List Nat) : I p ++ I q = I (p ++ q) := by simp [I]
theorem I_one (x : Nat) : I [x] = [(x : Int)] := rfl
theorem I_snoc (p : List Nat) (x : Nat) : I p ++ [(x : Int)] = I (p ++ [x]) := by simp [I]
theorem I_nil : I [] = [] := rfl
theorem I_rep (n x : Nat) : I (List.replicate n x) = List.replicate n (x : Int) := by simp [I]
theorem I_take (p : List Nat) (n : Nat) : (I p).take n = I (p.take n) := by simp [I]
theorem I_drop (p : List Nat) (n : Nat) : (I p).drop n = I (p.drop n) := by simp [I]
/-- the numbers below the length, each once -/
structure IsP (p : List Nat) : Prop where
  lt : ∀ x ∈ p, x < p.length
  nd : p.Nodup
instance (p : List Nat) : Decidable (IsP p) := decidable_of_iff ((∀ x ∈ p, x < p.length) ∧ p.Nodup) ⟨fun h => ⟨h.1, h.2⟩, fun h => ⟨h.lt, h.nd⟩⟩
theorem nodup_le (n : Nat) : ∀ l : List Nat, l.Nodup → (∀ x ∈ l, x < n) → l.length ≤ n := by
  induction n with
  | zero =>
    intro l _ h
    cases l with
    | nil => simp
    | cons a l => exact absurd (h a (by simp)) (by omega)
  | succ n ih =>
    intro l hn h
    have h1 := ih (l.erase n) (hn.erase n) (fun x hx => by
      have h2 := (List.Nodup.mem_erase_iff hn).mp hx
      have h3 := h x h2.2
      have h4 := h2.1
      omega)
    have h5 := @List.length_erase _ _ _ n l
    split at h5 <;> omega
theorem mem_all {p : List Nat} (hp : IsP p) {x : Nat} (h : x < p.length) : x ∈ p := by
  apply Classical.byContradiction
  intro hx
  have := nodup_le p.length (x :: p) (List.nodup_cons.mpr ⟨hx, hp.nd⟩) (fun y hy => by
    rcases List.mem_cons.mp hy with rfl | hy
    · exact h
    · exact hp.lt y hy)
  simp at this
  omega
theorem g_lt {p : List Nat} (hp : IsP p) {i : Nat} (h : i < p.length) : g p i < p.length := hp.lt _ (g_mem h)
theorem g_inj {p : List Nat} (hp : IsP p) {i j : Nat} (hi : i < p.length) (hj : j < p.length) (h : g p i = g p j) : i = j := by
  rw [g_get hi, g_get hj] at h
  have hw := List.pairwise_iff_getElem.mp hp.nd
  rcases Nat.lt_trichotomy i j with hij | hij | hij
  · exact absurd h (hw i j hi hj hij)
  · exact hij
  · exact absurd h.symm (hw j i hj hi hij)
/-- where an element stands -/
def ix (p : List Nat) (x : Nat) : Nat := p.idxOf x
theorem ix_lt {p : List Nat} (hp : IsP p) {x : Nat} (h : x < p.length) : ix p x < p.length := List.idxOf_lt_length_of_mem (mem_all hp h)
theorem g_ix {p : List Nat} (hp : IsP p) {x : Nat} (h : x < p.length) : g p (ix p x) = x := by
  rw [g_get (ix_lt hp h)]
  exact List.getElem_idxOf (ix_lt hp h)
theorem ix_g {p : List Nat} (hp : IsP p) {i : Nat} (h : i < p.length) : ix p (g p i) = i :=
  g_inj hp (ix_lt hp (g_lt hp h)) h (g_ix hp (g_lt hp h))
theorem ix_eq {p : List Nat} (hp : IsP p) {i x : Nat} (h : i < p.length) (e : g p i = x) : ix p x = i := by rw [← e]; exact ix_g hp h
/-- what makes a list of values a permutation -/
theorem isP_mk {p : List Nat} (h1 : ∀ i, i < p.length → g p i < p.length) (h2 : ∀ i j, i < p.length → j < p.length → g p i = g p j → i = j) : IsP p := by
  refine ⟨fun x hx => ?_, ?_⟩
  · obtain ⟨i, hi, rfl⟩ := mem_g hx
    exact h1 i hi
  · refine List.pairwise_iff_getElem.mpr ?_
    intro i j hi hj hij e'
    rw [← g_get hi, ← g_get hj] at e'
    have := h2 i j hi hj e'
    omega
theorem isP_tab {n : Nat} {f : Nat → Nat} (h1 : ∀ i, i < n → f i < n) (h2 : ∀ i j, i < n → j < n → f i = f j → i = j) : IsP (tab n f) := by
  refine isP_mk (fun i hi => ?_) (fun i j hi hj e => ?_)
  · rw [tab_len] at hi ⊢; rw [g_tab hi]; exact h1 i hi
  · rw [tab_len] at hi hj; rw [g_tab hi, g_tab hj] at e; exact h2 i j hi hj e
/-- the inverse -/
def inv (p : List Nat) : List Nat := tab p.length (ix p)
theorem inv_len (p : List Nat) : (inv p).length = p.length := tab_len _ _
theorem g_inv {p : List Nat} {i : Nat} (h : i < p.length) : g (inv p) i = ix p i := g_tab h
theorem isP_inv {p : List Nat} (hp : IsP p) : IsP (inv p) := isP_tab (fun i hi => ix_lt hp hi) (fun i j hi hj e => by rw [← g_ix hp hi, ← g_ix hp hj, e])
theorem ix_inv {p : List Nat} (hp : IsP p) {i : Nat} (h : i < p.length) : ix (inv p) i = g p i :=
  ix_eq (isP_inv hp) (by rw [inv_len]; exact g_lt hp h) (by rw [g_inv (g_lt hp h)]; exact ix_g hp h)
theorem inv_inv {p : List Nat} (hp : IsP p) : inv (inv p) = p :=
  (eq_tab (by rw [inv_len]) (fun i hi => by rw [inv_len] at hi; rw [ix_inv hp hi])).symm
/-- first p, then q -/
def thn (p q : List Nat) : List Nat := tab p.length (fun i => g q (g p i))
theorem thn_len (p q : List Nat) : (thn p q).length = p.length := tab_len _ _
theorem g_thn {p q : List Nat} {i : Nat} (h : i < p.length) : g (thn p q) i = g q (g p i) := g_tab h
theorem isP_thn {p q : List Nat} (hp : IsP p) (hq : IsP q) (hl : p.length = q.length) : IsP (thn p q) :=
  isP_tab (fun i hi => by have h1 := g_lt hp hi; have h2 := g_lt hq (i := g p i) (by omega); omega)
    (fun i j hi hj e => g_inj hp hi hj (g_inj hq (by have := g_lt hp hi; omega) (by have := g_lt hp hj; omega) e))
theorem thn_assoc {p q r : List Nat} (hp : IsP p) (hl : p.length = q.length) : thn (thn p q) r = thn p (thn q r) := by
  refine eq_tab (by rw [thn_len, thn_len]) (fun i hi => ?_)
  rw [g_thn (by rw [thn_len]; exact hi), g_thn hi, g_thn (by have := g_lt hp hi; omega)]
def idn (n : Nat) : List Nat := tab n id
theorem idn_len (n : Nat) : (idn n).length = n := tab_len _ _
theorem g_idn {n i : Nat} (h : i < n) : g (idn n) i = i := g_tab h
theorem isP_idn (n : Nat) : IsP (idn n) := isP_tab (fun i hi => hi) (fun i j _ _ e => e)
theorem thn_inv {p : List Nat} (hp : IsP p) : thn p (inv p) = idn p.length :=
  eq_tab (thn_len _ _) (fun i hi => by rw [g_thn hi, g_inv (g_lt hp hi), ix_g hp hi]; rfl)
theorem inv_thn {p : List Nat} (hp : IsP p) : thn (inv p) p = idn p.length :=
  eq_tab (by rw [thn_len, inv_len]) (fun i hi => by rw [g_thn (by rw [inv_len]; exact hi), g_inv hi, g_ix hp hi]; rfl)
theorem thn_idn {p : List Nat} (hp : IsP p) : thn p (idn p.length) = p := by
  refine ext_g (thn_len _ _) (fun i hi => ?_)
  rw [thn_len] at hi
  rw [g_thn hi, g_idn (g_lt hp hi)]
theorem idn_thn {q : List Nat} : thn (idn q.length) q = q := by
  refine ext_g (by rw [thn_len, idn_len]) (fun i hi => ?_)
  rw [thn_len, idn_len] at hi
  rw [g_thn (by rw [idn_len]; exact hi), g_idn hi]
/-- renaming -/
def ren (p names : List Nat) : List Nat := tab p.length (fun j => g names (g p (ix names j)))
theorem ren_len (p names : List Nat) : (ren p names).length = p.length := tab_len _ _
theorem g_ren {p names : List Nat} {j : Nat} (h : j < p.length) : g (ren p names) j = g names (g p (ix names j)) := g_tab h
theorem isP_ren {p names : List Nat} (hp : IsP p) (hn : IsP names) (hl : p.length = names.length) : IsP (ren p names) := by
  refine isP_tab (fun i hi => ?_) (fun i j hi hj e => ?_)
  · have h1 := ix_lt hn (x := i) (by omega)
    have h2 := g_lt hp (i := ix names i) (by omega)
    have h3 := g_lt hn (i := g p (ix names i)) (by omega)
    omega
  · have h1 := ix_lt hn (x := i) (by omega)
    have h2 := ix_lt hn (x := j) (by omega)
    have h3 := g_lt hp (i := ix names i) (by omega)
    have h4 := g_lt hp (i := ix names j) (by omega)
    have h5 := g_inj hn (by omega) (by omega) e
    have h6 := g_inj hp (by omega) (by omega) h5
    have h7 := g_ix hn (x := i) (by omega)
    have h8 := g_ix hn (x := j) (by omega)
    rw [← h7, ← h8, h6]
end Go.Proofs.Ytlbcafniodfdgaa.M
