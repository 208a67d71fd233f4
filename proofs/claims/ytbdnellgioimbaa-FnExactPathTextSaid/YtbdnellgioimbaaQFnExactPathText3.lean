/- Lemmas for the row FnExactPathText: the program's functions told as plain functions, and plain mathematics. No conditions. -/
import Derived.Test.YtbdnellgioimbaaQFnExactPathText2
section
/- Rounds of paths: the program and the reference answer alike. No conditions. -/
namespace Go.Proofs.Ytbdnellgioimbaa.M
set_option linter.unusedVariables false
set_option linter.unusedSimpArgs false
open Go.RowKit Go.Proofs.YtbdnellgioimbaaW.PrintWords Go.Proofs.YtbdnellgioimbaaW.PrintLast Go.Proofs.YtbdnellgioimbaaW.PrintMore Go.Proofs.Ytbdnellgioimbaa.A
def itr (p : List Nat) : Nat → Nat → Nat
  | 0, s => s
  | m + 1, s => g p (itr p m s)
theorem itr_lt {p : List Nat} (hp : IsP p) (m : Nat) {s : Nat} (hs : s < p.length) : itr p m s < p.length := by
  induction m with
  | zero => exact hs
  | succ m ih => exact g_lt hp ih
theorem itr_back {p : List Nat} (hp : IsP p) {s : Nat} (hs : s < p.length) (i d : Nat) (h : itr p (i + d) s = itr p i s) : itr p d s = s := by
  induction i with
  | zero =>
    have e : 0 + d = d := by omega
    rw [e] at h
    exact h
  | succ i ih =>
    have e : i + 1 + d = (i + d) + 1 := by omega
    rw [e] at h
    exact ih (g_inj hp (itr_lt hp _ hs) (itr_lt hp _ hs) h)
theorem period {p : List Nat} (hp : IsP p) {s : Nat} (hs : s < p.length) : ∃ m, 1 ≤ m ∧ m ≤ p.length ∧ itr p m s = s := by
  apply Classical.byContradiction
  intro hn
  have hd : ((List.range (p.length + 1)).map (fun m => itr p m s)).Nodup := by
    refine List.pairwise_map.mpr ?_
    refine List.pairwise_iff_getElem.mpr ?_
    intro i j hi hj hij
    rw [List.length_range] at hi hj
    rw [List.getElem_range, List.getElem_range]
    intro e
    have : itr p (j - i) s = s := itr_back hp hs i (j - i) (by
      have e2 : i + (j - i) = j := by omega
      rw [e2]
      exact e.symm)
    exact hn ⟨j - i, by omega, by omega, this⟩
  have := nodup_le p.length _ hd (fun x hx => by
    obtain ⟨m, _, rfl⟩ := List.mem_map.mp hx
    exact itr_lt hp m hs)
  simp at this
  omega
theorem rounds_both {p : List Nat} (hp : IsP p) (h24 : p.length ≤ 24) {s : Nat} (hs : s < p.length) : ∃ r : Nat, (1 ≤ r ∧ r ≤ 24 ∧ itr p r s = s) ∧ Ev (fun k => spec_PathRounds.l0 k (s : Int) (I p) 1 ((g p s : Nat) : Int)) (r : Int) ∧ Ev (fun k => impl_PathRounds.l0 k (s : Int) (I p) 1 ((g p s : Nat) : Int)) (r : Int) := by
  obtain ⟨m, m1, m2, m3⟩ := period hp hs
  have H : ∀ d c : Nat, c + d = m → 1 ≤ c → ∃ r : Nat, (1 ≤ r ∧ r ≤ 24 ∧ itr p r s = s) ∧ Ev (fun k => spec_PathRounds.l0 k (s : Int) (I p) (c : Int) ((itr p c s : Nat) : Int)) (r : Int) ∧ Ev (fun k => impl_PathRounds.l0 k (s : Int) (I p) (c : Int) ((itr p c s : Nat) : Int)) (r : Int) := by
    intro d
    induction d with
    | zero =>
      intro c h hc
      obtain rfl : c = m := by omega
      refine ⟨c, ⟨hc, by omega, m3⟩, ev_succ ?_, ev_succ ?_⟩
      · simp only [spec_PathRounds.l0, m3, if_true]
        exact Ev.now _
      · simp only [impl_PathRounds.l0, m3, if_true]
        exact Ev.now _
    | succ d ih =>
      intro c h hc
      by_cases e : itr p c s = s
      · refine ⟨c, ⟨hc, by omega, e⟩, ev_succ ?_, ev_succ ?_⟩
        · simp only [spec_PathRounds.l0, e, if_true]
          exact Ev.now _
        · simp only [impl_PathRounds.l0, e, if_true]
          exact Ev.now _
      · have e' : ¬ (((itr p c s : Nat) : Int) = (s : Int)) := by omega
        obtain ⟨r, i0, i1, i2⟩ := ih (c + 1) (by omega) (by omega)
        have hl := itr_lt hp c hs
        have h1 : (0 : Int) ≤ ((itr p c s : Nat) : Int) := by omega
        have h2 : ((itr p c s : Nat) : Int) < (p.length : Int) := by omega
        have h3 := w64s c (by omega)
        refine ⟨r, i0, ev_succ ?_, ev_succ ?_⟩
        · simp only [spec_PathRounds.l0, e', h1, h2, h3, rdI, I_len', if_true, if_false]
          exact i1
        · simp only [impl_PathRounds.l0, e', h1, h2, h3, rdI, I_len', if_true, if_false]
          exact i2
  exact H (m - 1) 1 (by omega) (by omega)
def okP (r u : List Int) (s p q : Int) : Prop := surfB r u = true ∧ slopeOkI p q = true ∧ 0 ≤ s ∧ s < (r.length : Int)
theorem pathRounds_full (r u : List Int) (s p q : Int) : ∃ n : Nat, (n ≤ 24 ∧ (okP r u s p q → 1 ≤ n ∧ itr (pathL (N r) (N u) (slopeWordI p q)) n s.toNat = s.toNat) ∧ (¬ okP r u s p q → n = 0)) ∧ Ev (fun k => spec_PathRounds.f k r u s p q) (n : Int) ∧ Ev (fun k => impl_PathRounds.f k r u s p q) (n : Int) := by
  unfold spec_PathRounds.f impl_PathRounds.f spec_l13Ok.f
  have hp := impl_pathPerm r u p q
  have j0 : ∀ (x : Int) (l : List Int), Ev (fun k => impl_PathRounds.j0 k x l true) 0 := fun x l => by
    refine ev_succ ?_
    simp only [impl_PathRounds.j0, if_true]
    exact Ev.now _
  have no : ∀ (b : Bool), b = false → Ev (fun k => if b = true then ((spec_SlopeWord.f k p q).bind fun t464 => ((spec_l09Path.f k r u t464).bind fun t465 => (if 0 ≤ s then (if s < (t465.length : Int) then (spec_PathRounds.l0 k s t465 1 (rd t465 s)) else (none)) else (none)))) else (some 0)) (0 : Int) := fun b hb => by
    subst hb
    simp only [Bool.false_eq_true, if_false]
    exact Ev.now _
  by_cases h1 : surfB r u = true
  · by_cases h2 : slopeOkI p q = true
    · obtain ⟨r, u, rfl, rfl, hs⟩ := surf_nat h1
      obtain ⟨w1, _, w3⟩ := words_ev h2
      have e : pathP (I r) (I u) p q = (I (pathL r u (slopeWordI p q)), true) := by
        unfold pathP
        rw [if_pos ⟨h1, h2⟩, N_I, N_I]
      rw [e] at hp
      have hsp := spec_path hs (slopeWordI p q) (by omega)
      have hP := isP_pathL hs (slopeWordI p q)
      have hl := pathL_len r u (slopeWordI p q)
      by_cases h3 : 0 ≤ s
      · by_cases h4 : s < (r.length : Int)
        · obtain ⟨s, rfl⟩ : ∃ t : Nat, s = t := ⟨s.toNat, by omega⟩
          obtain ⟨n, i0, i1, i2⟩ := rounds_both hP (by rw [hl]; exact hs.le) (s := s) (by omega)
          refine ⟨n, ⟨i0.2.1, fun _ => ⟨i0.1, by rw [N_I, N_I]; exact i0.2.2⟩, fun hn => (hn ⟨h1, h2, h3, by rw [I_len]; exact h4⟩).elim⟩, ?_, ?_⟩
          · refine Ev.bind (a := true) (Ev.bind (spec_surf (I r) (I u)) ?_) ?_
            · have h3' : (s : Int) ≥ 0 := h3
              simp only [h1, h3', I_len', h4, if_true]
              have := (slopes_ev p q).1
              rw [h2] at this
              exact Ev.bind this (Ev.now _)
            · simp only [if_true]
              refine Ev.bind w1 (Ev.bind hsp ?_)
              have h5 : (s : Int) < ((pathL r u (slopeWordI p q)).length : Int) := by rw [hl]; exact h4
              simp only [h3, h5, I_len', rdI, if_true]
              exact i1
          · refine Ev.bind hp ?_
            have h5 : ¬ ((s : Int) < 0) := by omega
            have h6 : decide ((s : Int) ≥ ((pathL r u (slopeWordI p q)).length : Int)) = false := by rw [decide_eq_false_iff_not, hl]; omega
            have h7 : (s : Int) < ((pathL r u (slopeWordI p q)).length : Int) := by rw [hl]; exact h4
            simp only [h5, h6, I_len', if_true, if_false]
            refine ev_succ ?_
            simp only [impl_PathRounds.j0, Bool.false_eq_true, h3, h7, I_len', rdI, if_true, if_false]
            exact i2
        · refine ⟨0, ⟨by omega, fun ho => (h4 (by have := ho.2.2.2; rw [I_len] at this; exact this)).elim, fun _ => rfl⟩, ?_, ?_⟩
          · refine Ev.bind (a := false) (Ev.bind (spec_surf (I r) (I u)) ?_) (no false rfl)
            have h3' : s ≥ 0 := h3
            simp only [h1, h3', I_len', h4, if_true, if_false]
            exact Ev.now _
          · refine Ev.bind hp ?_
            have h5 : ¬ (s < 0) := by omega
            have h6 : decide (s ≥ ((pathL r u (slopeWordI p q)).length : Int)) = true := by rw [decide_eq_true_iff, hl]; omega
            simp only [h5, h6, I_len', if_true, if_false]
            exact j0 _ _
      · refine ⟨0, ⟨by omega, fun ho => (h3 ho.2.2.1).elim, fun _ => rfl⟩, ?_, ?_⟩
        · refine Ev.bind (a := false) (Ev.bind (spec_surf (I r) (I u)) ?_) (no false rfl)
          have h3' : ¬ s ≥ 0 := h3
          simp only [h1, h3', if_true, if_false]
          exact Ev.now _
        · refine Ev.bind hp ?_
          have h5 : s < 0 := by omega
          simp only [h5, if_true]
          exact j0 _ _
    · have h2' := Bool.eq_false_iff.mpr h2
      have e : pathP r u p q = ([], false) := by
        unfold pathP
        rw [if_neg (fun h => h2 h.2)]
      rw [e] at hp
      refine ⟨0, ⟨by omega, fun ho => (h2 ho.2.1).elim, fun _ => rfl⟩, ?_, ?_⟩
      · refine Ev.bind (a := false) (Ev.bind (spec_surf r u) ?_) (no false rfl)
        simp only [h1, if_true]
        by_cases h3 : s ≥ 0
        · simp only [h3, if_true]
          by_cases h4 : s < (r.length : Int)
          · simp only [h4, if_true]
            have := (slopes_ev p q).1
            rw [h2'] at this
            exact Ev.bind this (Ev.now _)
          · simp only [h4, if_false]
            exact Ev.now _
        · simp only [h3, if_false]
          exact Ev.now _
      · refine Ev.bind hp ?_
        simp only [Bool.false_eq_true, if_false]
        exact j0 _ _
  · have h1' := Bool.eq_false_iff.mpr h1
    have e : pathP r u p q = ([], false) := by
      unfold pathP
      rw [if_neg (fun h => h1 h.1)]
    rw [e] at hp
    refine ⟨0, ⟨by omega, fun ho => (h1 ho.1).elim, fun _ => rfl⟩, ?_, ?_⟩
    · refine Ev.bind (a := false) (Ev.bind (spec_surf r u) ?_) (no false rfl)
      simp only [h1', Bool.false_eq_true, if_false]
      exact Ev.now _
    · refine Ev.bind hp ?_
      simp only [Bool.false_eq_true, if_false]
      exact j0 _ _
end Go.Proofs.Ytbdnellgioimbaa.M
end
section
/- The letters and squares of a path: the program and the reference answer alike. No conditions. -/
namespace Go.Proofs.Ytbdnellgioimbaa.M
set_option linter.unusedVariables false
set_option linter.unusedSimpArgs false
open Go.RowKit Go.Proofs.YtbdnellgioimbaaW.PrintWords Go.Proofs.YtbdnellgioimbaaW.PrintLast Go.Proofs.YtbdnellgioimbaaW.PrintMore Go.Proofs.Ytbdnellgioimbaa.A
def wordX (p q : Int) : ByteArray := if slopeOkI p q = true then slopeWordI p q else ⟨#[]⟩
theorem wordX_ev (p q : Int) : Ev (fun k => spec_SlopeWord.f k p q) (wordX p q) ∧ Ev (fun k => impl_SlopeWord.f k p q) (wordX p q) ∧ (wordX p q).size ≤ 12 := by
  unfold wordX
  by_cases h : slopeOkI p q = true
  · rw [if_pos h]
    exact words_ev h
  · rw [if_neg h]
    obtain ⟨h1, h2⟩ := slopes_ev p q
    have h' := Bool.eq_false_iff.mpr h
    rw [h'] at h1 h2
    refine ⟨?_, ?_, Nat.zero_le _⟩
    · unfold spec_SlopeWord.f
      refine Ev.bind h1 ?_
      simp only [Bool.false_eq_true, if_false]
      exact Ev.now _
    · unfold impl_SlopeWord.f
      refine Ev.bind h2 ?_
      simp only [Bool.false_eq_true, if_false]
      exact Ev.now _
def rep (w : ByteArray) (n : Nat) : ByteArray := ⟨(Lib.repeatL w.data.toList n).toArray⟩
theorem rep_data (w : ByteArray) (n : Nat) : (rep w n).data.toList = Lib.repeatL w.data.toList n := rfl
theorem rep_size (w : ByteArray) (n : Nat) : (rep w n).size = n * w.size := by
  rw [Lib.size_eq, rep_data, Lib.repeatL_length, ← Lib.size_eq]
theorem ba_ext {a b : ByteArray} (h : a.data.toList = b.data.toList) : a = b := by
  cases a; cases b
  congr 1
  exact Array.ext' h
theorem rep_succ (w : ByteArray) (n : Nat) : rep w n ++ w = rep w (n + 1) := by
  apply ba_ext
  rw [rep_data, Lib.repeatL_add, Lib.repeatL_one, ByteArray.data_append, Array.toList_append]
  rfl
theorem pathText_full (r u : List Int) (s p q : Int) : ∃ n : Nat, (n ≤ 24 ∧ (okP r u s p q → 1 ≤ n ∧ itr (pathL (N r) (N u) (slopeWordI p q)) n s.toNat = s.toNat) ∧ (¬ okP r u s p q → n = 0)) ∧ Ev (fun k => spec_PathRounds.f k r u s p q) (n : Int) ∧ Ev (fun k => spec_PathText.f k r u s p q) (rep (wordX p q) n) ∧ Ev (fun k => impl_PathText.f k r u s p q) (rep (wordX p q) n) := by
  obtain ⟨n, h0, h1, h2⟩ := pathRounds_full r u s p q
  obtain ⟨w1, w2, w3⟩ := wordX_ev p q
  have hn := h0.1
  refine ⟨n, h0, h1, ?_, ?_⟩
  · unfold spec_PathText.f
    refine Ev.bind w1 (Ev.bind h1 ?_)
    generalize wordX p q = w at w3
    have H : ∀ d m : Nat, m + d = n → Ev (fun k => spec_PathText.l0 k w (rep w m) (d : Int)) (rep w n) := by
      intro d
      induction d with
      | zero =>
        intro m h
        obtain rfl : m = n := by omega
        refine ev_succ ?_
        have c1 : ¬ (((0 : Nat) : Int) > 0) := by omega
        simp only [spec_PathText.l0, c1, if_false]
        exact Ev.now _
      | succ d ih =>
        intro m h
        refine ev_succ ?_
        have c1 : ((d + 1 : Nat) : Int) > 0 := by omega
        have c2 : wrap64 (((d + 1 : Nat) : Int) - 1) = (d : Int) := by rw [w64 (by omega) (by omega)]; omega
        have c3 : (rep w m).size + w.size ≤ 9223372036854775807 := by
          rw [rep_size]
          have : m * w.size ≤ 24 * 12 := Nat.mul_le_mul (by omega) w3
          omega
        simp only [spec_PathText.l0, c1, c2, c3, if_true, rep_succ]
        exact ih (m + 1) (by omega)
    exact H n 0 (by omega)
  · unfold impl_PathText.f
    refine Ev.bind w2 (Ev.bind h2 ?_)
    have c1 : (0 : Int) ≤ (n : Int) := by omega
    have c2 : (n : Int) ≤ 9223372036854775807 := by omega
    have c4 : ((n : Int)).toNat = n := by omega
    have c3 : (wordX p q).size * n ≤ 140737488355328 := by
      have : (wordX p q).size * n ≤ 12 * 24 := Nat.mul_le_mul w3 hn
      omega
    simp only [strings_Repeat.f, c1, c2, c3, c4, if_true, Option.bind_some]
    exact Ev.now _
end Go.Proofs.Ytbdnellgioimbaa.M
end
section
/- The law of the letters of a path answers true. No conditions. -/
namespace Go.Proofs.Ytbdnellgioimbaa.Pure
set_option linter.unusedVariables false
set_option linter.unusedSimpArgs false
open Go.RowKit Go.Proofs.YtbdnellgioimbaaW.PrintWords Go.Proofs.YtbdnellgioimbaaW.PrintLast Go.Proofs.YtbdnellgioimbaaW.PrintMore Go.Proofs.Ytbdnellgioimbaa.A Go.Proofs.Ytbdnellgioimbaa.M
theorem FnExactPathText (r u : List Int) (s p q : Int) (hr : r.length ≤ maxLen) (_ : ∀ x ∈ r, (Lit.int .i64 x).wf = true) (hu : u.length ≤ maxLen) (_ : ∀ x ∈ u, (Lit.int .i64 x).wf = true) (_ : (Lit.int .i64 s).wf = true) (_ : (Lit.int .i64 p).wf = true) (_ : (Lit.int .i64 q).wf = true) : ∃ k, laws_FnExactPathText.F k r u s p q := by
  unfold maxLen at hr hu
  unfold laws_FnExactPathText.F
  by_cases h2 : r.length + u.length ≤ 1048576
  · obtain ⟨n, _, _, ⟨K1, e1⟩, ⟨K2, e2⟩⟩ := pathText_full r u s p q
    obtain ⟨K3, e3⟩ := toSurf_ev r u (by omega) (by omega)
    obtain ⟨K4, e4⟩ := eqSurf_same r u (by omega) (by omega)
    exact ⟨K1 + K2 + K3 + K4, _, sz_small h2, .inr ⟨by omega, _, e3 _ (by omega), e4 _ (by omega), e1 _ (by omega), e2 _ (by omega)⟩⟩
  · exact ⟨0, _, sz_big (by omega) (by omega) h2, .inl (by omega)⟩
end Go.Proofs.Ytbdnellgioimbaa.Pure
end
