/- The pure law of IsBalanced: what the program and the reference compute is the same. No conditions. -/
import Derived.Test.YtocblnmpniijjaaPFnExactIsBalancedx2
namespace Go.Proofs.Ytocblnmpniijjaa.Pure
open Go.RowKit Go.Proofs.Ytocblnmpniijjaa.PFnExactIsBalanced Go.Proofs.YtocblnmpniijjaaW.PrintWords Go.Proofs.YtocblnmpniijjaaW.PrintLast

-- BODY
theorem w64 {x : Int} (h0 : -9223372036854775808 ≤ x) (h1 : x ≤ 9223372036854775807) : wrap64 x = x := by unfold wrap64; omega
theorem ev_succ {α : Type} {g : Nat → Option α} {r : α} (h : Ev (fun k => g (k + 1)) r) : Ev g r := Ev.step (fun _ => rfl) h
theorem tm (a i n : Nat) (h : a + i ≤ 1000) : Int.tmod (wrap64 ((a : Int) + (i : Int))) (n : Int) = (((a + i) % n : Nat) : Int) := by
  rw [w64 (by omega) (by omega), ← Int.natCast_add]
  exact (Int.ofNat_tmod _ _).symm
/-- how many r stand in the window of length c from a on -/
def cn (s : ByteArray) (n a : Nat) : Nat → Nat
  | 0 => 0
  | c + 1 => cn s n a c + if bt s (((a + c) % n : Nat) : Int) = 114 then 1 else 0
theorem cn_le (s : ByteArray) (n a c : Nat) : cn s n a c ≤ c := by
  induction c with
  | zero => exact Nat.le_refl _
  | succ c ih =>
    unfold cn
    split <;> omega
theorem cn_shift (s : ByteArray) (n a c : Nat) : cn s n (a + 1) c + (if bt s ((a % n : Nat) : Int) = 114 then 1 else 0) = cn s n a (c + 1) := by
  induction c with
  | zero => simp [cn]
  | succ c ih =>
    rw [cn]
    rw [cn, ← ih]
    have : a + 1 + c = a + (c + 1) := by omega
    rw [this]
    omega
theorem cn_full (s : ByteArray) (n a : Nat) : cn s n a n = cn s n 0 n := by
  induction a with
  | zero => rfl
  | succ a ih =>
    have h := cn_shift s n a n
    rw [cn] at h
    have e : (a + n) % n = a % n := by simp
    rw [e] at h
    omega
theorem count_ev (s : ByteArray) (n : Nat) (hs : s.size = n) (h0 : 0 < n) (hn : n ≤ 40) (a c : Nat) (ha : a ≤ 40) (hc : c ≤ 40) (d : Nat) : ∀ i : Nat, i + d = c →
    Ev (fun k => spec_l13Count.l0 k s (a : Int) (c : Int) ((cn s n a i : Nat) : Int) (i : Int)) ((cn s n a c : Nat) : Int) := by
  subst hs
  induction d with
  | zero =>
    intro i h
    obtain rfl : i = c := by omega
    refine ev_succ ?_
    have h1 : ¬ ((i : Int) < (i : Int)) := by omega
    simp only [spec_l13Count.l0, h1, if_false]
    exact Ev.now _
  | succ d ih =>
    intro i h
    have ihx := ih (i + 1) (by omega)
    refine ev_succ ?_
    have h1 : (i : Int) < (c : Int) := by omega
    have h2 : ¬ ((s.size : Int) = 0) := by omega
    have h3 := tm a i s.size (by omega)
    have h4 : (0 : Int) ≤ (((a + i) % s.size : Nat) : Int) := by omega
    have h5 : (((a + i) % s.size : Nat) : Int) < (s.size : Int) := by have := Nat.mod_lt (a + i) h0; omega
    have h6 : wrap64 ((i : Int) + 1) = ((i + 1 : Nat) : Int) := by rw [w64 (by omega) (by omega)]; omega
    have hb := cn_le s s.size a i
    by_cases hr : bt s (((a + i) % s.size : Nat) : Int) = 114
    · have h7 : wrap64 (((cn s s.size a i : Nat) : Int) + 1) = ((cn s s.size a (i + 1) : Nat) : Int) := by
        rw [w64 (by omega) (by omega), cn, if_pos hr]
        omega
      simp only [spec_l13Count.l0, h1, h2, h3, h4, h5, h6, h7, hr, if_true, if_false]
      exact ihx
    · have h7 : ((cn s s.size a (i + 1) : Nat) : Int) = ((cn s s.size a i : Nat) : Int) := by
        rw [cn, if_neg hr]
        omega
      simp only [spec_l13Count.l0, h1, h2, h3, h4, h5, h6, hr, if_true, if_false]
      rw [← h7]
      exact ihx
theorem count_f (s : ByteArray) (h0 : 0 < s.size) (hn : s.size ≤ 40) (a c : Nat) (ha : a ≤ 40) (hc : c ≤ 40) :
    Ev (fun k => spec_l13Count.f k s (a : Int) (c : Int)) ((cn s s.size a c : Nat) : Int) := by
  have h := count_ev s s.size rfl h0 hn a c ha hc c 0 (by omega)
  simp only [cn] at h
  exact h
/-- the inner loop of impl's: from count j on, then on to the next beginning -/
theorem inner_ev (s : ByteArray) (h0 : 0 < s.size) (hn : s.size ≤ 40) (c x6 x7 : Int) (cc : Nat) (hcc : c = cc) (hc : cc ≤ 40) (a : Nat) (ha : a ≤ 40) (r : Bool)
    (H : Ev (fun k => impl_IsBalanced.l2 k s (s.size : Int) c (mn x6 ((cn s s.size a cc : Nat) : Int)) (mx x7 ((cn s s.size a cc : Nat) : Int)) ((a + 1 : Nat) : Int)) r) (d : Nat) : ∀ j : Nat, j + d = cc →
    Ev (fun k => impl_IsBalanced.l3 k s (s.size : Int) c x6 x7 (a : Int) ((cn s s.size a j : Nat) : Int) (j : Int)) r := by
  subst hcc
  induction d with
  | zero =>
    intro j h
    obtain rfl : j = cc := by omega
    refine ev_succ ?_
    have h1 : ¬ ((j : Int) < (j : Int)) := by omega
    have h6 : wrap64 ((a : Int) + 1) = ((a + 1 : Nat) : Int) := by rw [w64 (by omega) (by omega)]; omega
    simp only [impl_IsBalanced.l3, h1, h6, if_false]
    exact H
  | succ d ih =>
    intro j h
    have ihx := ih (j + 1) (by omega)
    refine ev_succ ?_
    have h1 : (j : Int) < (cc : Int) := by omega
    have h2 : ¬ ((s.size : Int) = 0) := by omega
    have h3 := tm a j s.size (by omega)
    have h4 : (0 : Int) ≤ (((a + j) % s.size : Nat) : Int) := by omega
    have h5 : (((a + j) % s.size : Nat) : Int) < (s.size : Int) := by have := Nat.mod_lt (a + j) h0; omega
    have h6 : wrap64 ((j : Int) + 1) = ((j + 1 : Nat) : Int) := by rw [w64 (by omega) (by omega)]; omega
    have hb := cn_le s s.size a j
    by_cases hr : bt s (((a + j) % s.size : Nat) : Int) = 114
    · have h7 : wrap64 (((cn s s.size a j : Nat) : Int) + 1) = ((cn s s.size a (j + 1) : Nat) : Int) := by
        rw [w64 (by omega) (by omega), cn, if_pos hr]
        omega
      simp only [impl_IsBalanced.l3, h1, h2, h3, h4, h5, h6, h7, hr, if_true, if_false]
      exact ihx
    · have h7 : ((cn s s.size a (j + 1) : Nat) : Int) = ((cn s s.size a j : Nat) : Int) := by
        rw [cn, if_neg hr]
        omega
      simp only [impl_IsBalanced.l3, h1, h2, h3, h4, h5, h6, hr, if_true, if_false]
      rw [← h7]
      exact ihx
/-- the least and the most of the windows of length c from a on -/
def lows (s : ByteArray) (n c : Nat) : Nat → Nat → Int → Int
  | 0, _, x => x
  | d + 1, a, x => lows s n c d (a + 1) (mn x ((cn s n a c : Nat) : Int))
def highs (s : ByteArray) (n c : Nat) : Nat → Nat → Int → Int
  | 0, _, x => x
  | d + 1, a, x => highs s n c d (a + 1) (mx x ((cn s n a c : Nat) : Int))
theorem lows_rng (s : ByteArray) (n c : Nat) (d : Nat) : ∀ a x, 0 ≤ x → x ≤ 100 → 0 ≤ lows s n c d a x ∧ lows s n c d a x ≤ 100 := by
  induction d with
  | zero => intro a x h1 h2; exact ⟨h1, h2⟩
  | succ d ih =>
    intro a x h1 h2
    refine ih _ _ ?_ ?_ <;> unfold mn <;> split <;> omega
theorem highs_rng (s : ByteArray) (n c : Nat) (hc : c ≤ 40) (d : Nat) : ∀ a x, 0 ≤ x → x ≤ 100 → 0 ≤ highs s n c d a x ∧ highs s n c d a x ≤ 100 := by
  induction d with
  | zero => intro a x h1 h2; exact ⟨h1, h2⟩
  | succ d ih =>
    intro a x h1 h2
    have := cn_le s n a c
    refine ih _ _ ?_ ?_ <;> unfold mx <;> split <;> omega
theorem mid_ev (s : ByteArray) (h0 : 0 < s.size) (hn : s.size ≤ 40) (cc : Nat) (hc : cc ≤ 40) (r : Bool) (d : Nat) : ∀ (a : Nat) (x y : Int), a + d = s.size → 0 ≤ x → x ≤ 100 → 0 ≤ y → y ≤ 100 →
    (highs s s.size cc d a y - lows s s.size cc d a x > 1 → r = false) → (¬ highs s s.size cc d a y - lows s s.size cc d a x > 1 → Ev (fun k => impl_IsBalanced.l1 k s (s.size : Int) ((cc + 1 : Nat) : Int)) r) →
    Ev (fun k => impl_IsBalanced.l2 k s (s.size : Int) (cc : Int) x y (a : Int)) r := by
  induction d with
  | zero =>
    intro a x y h hx0 hx1 hy0 hy1 H H'
    obtain rfl : a = s.size := by omega
    refine ev_succ ?_
    have h1 : ¬ ((s.size : Int) < (s.size : Int)) := by omega
    have h2 : wrap64 (y - x) = y - x := w64 (by omega) (by omega)
    have h3 : wrap64 ((cc : Int) + 1) = ((cc + 1 : Nat) : Int) := by rw [w64 (by omega) (by omega)]; omega
    simp only [lows, highs] at H H'
    by_cases h4 : y - x > 1
    · have H := H h4
      subst H
      simp only [impl_IsBalanced.l2, h1, h2, h4, if_true, if_false]
      exact Ev.now _
    · have H := H' h4
      simp only [impl_IsBalanced.l2, h1, h2, h3, h4, if_false]
      exact H
  | succ d ih =>
    intro a x y h hx0 hx1 hy0 hy1 H H'
    refine ev_succ ?_
    have h1 : (a : Int) < (s.size : Int) := by omega
    simp only [impl_IsBalanced.l2, h1, if_true]
    have hle := cn_le s s.size a cc
    have H2 := ih (a + 1) (mn x ((cn s s.size a cc : Nat) : Int)) (mx y ((cn s s.size a cc : Nat) : Int)) (by omega) (by unfold mn; split <;> omega) (by unfold mn; split <;> omega) (by unfold mx; split <;> omega) (by unfold mx; split <;> omega) H H'
    have h := inner_ev s h0 hn (cc : Int) x y cc rfl hc a (by omega) r H2 cc 0 (by omega)
    simp only [cn] at h
    exact h
theorem smid_ev (s : ByteArray) (h0 : 0 < s.size) (hn : s.size ≤ 40) (cc : Nat) (hc : cc ≤ 40) (r : Bool) (d : Nat) : ∀ (a : Nat) (x y : Int), a + d = s.size → 0 ≤ x → x ≤ 100 → 0 ≤ y → y ≤ 100 →
    (highs s s.size cc d a y - lows s s.size cc d a x > 1 → r = false) → (¬ highs s s.size cc d a y - lows s s.size cc d a x > 1 → Ev (fun k => spec_IsBalanced.l1 k s ((cc + 1 : Nat) : Int)) r) →
    Ev (fun k => spec_IsBalanced.l2 k s (cc : Int) x y (a : Int)) r := by
  induction d with
  | zero =>
    intro a x y h hx0 hx1 hy0 hy1 H H'
    obtain rfl : a = s.size := by omega
    refine ev_succ ?_
    have h1 : ¬ ((s.size : Int) < (s.size : Int)) := by omega
    have h2 : wrap64 (x + 1) = x + 1 := w64 (by omega) (by omega)
    have h3 : wrap64 ((cc : Int) + 1) = ((cc + 1 : Nat) : Int) := by rw [w64 (by omega) (by omega)]; omega
    simp only [lows, highs] at H H'
    by_cases h4 : y - x > 1
    · have H := H h4
      subst H
      have h5 : y > x + 1 := by omega
      simp only [spec_IsBalanced.l2, h1, h2, h5, if_true, if_false]
      exact Ev.now _
    · have H := H' h4
      have h5 : ¬ y > x + 1 := by omega
      simp only [spec_IsBalanced.l2, h1, h2, h3, h5, if_false]
      exact H
  | succ d ih =>
    intro a x y h hx0 hx1 hy0 hy1 H H'
    refine ev_succ ?_
    have h1 : (a : Int) < (s.size : Int) := by omega
    have h6 : wrap64 ((a : Int) + 1) = ((a + 1 : Nat) : Int) := by rw [w64 (by omega) (by omega)]; omega
    simp only [spec_IsBalanced.l2, h1, h6, if_true]
    have hle := cn_le s s.size a cc
    have H2 := ih (a + 1) (mn x ((cn s s.size a cc : Nat) : Int)) (mx y ((cn s s.size a cc : Nat) : Int)) (by omega) (by unfold mn; split <;> omega) (by unfold mn; split <;> omega) (by unfold mx; split <;> omega) (by unfold mx; split <;> omega) H H'
    exact Ev.bind (count_f s h0 hn a cc (by omega) hc) H2
theorem eq_full (s : ByteArray) (n : Nat) (d : Nat) : ∀ a : Nat, lows s n n d a ((cn s n 0 n : Nat) : Int) = ((cn s n 0 n : Nat) : Int) ∧ highs s n n d a ((cn s n 0 n : Nat) : Int) = ((cn s n 0 n : Nat) : Int) := by
  induction d with
  | zero => intro a; exact ⟨rfl, rfl⟩
  | succ d ih =>
    intro a
    have e : cn s n a n = cn s n 0 n := cn_full s n a
    have e1 : mn ((cn s n 0 n : Nat) : Int) ((cn s n 0 n : Nat) : Int) = ((cn s n 0 n : Nat) : Int) := by unfold mn; split <;> rfl
    have e2 : mx ((cn s n 0 n : Nat) : Int) ((cn s n 0 n : Nat) : Int) = ((cn s n 0 n : Nat) : Int) := by unfold mx; split <;> rfl
    simp only [lows, highs, e, e1, e2]
    exact ih (a + 1)
/-- both begin alike behind the first window -/
theorem first_low (s : ByteArray) (n c d : Nat) : lows s n c (d + 1) 0 ((c : Nat) : Int) = lows s n c (d + 1) 0 ((cn s n 0 c : Nat) : Int) := by
  have := cn_le s n 0 c
  simp only [lows]
  congr 1
  unfold mn
  split <;> split <;> omega
theorem first_high (s : ByteArray) (n c d : Nat) : highs s n c (d + 1) 0 0 = highs s n c (d + 1) 0 ((cn s n 0 c : Nat) : Int) := by
  simp only [highs]
  congr 1
  unfold mx
  split <;> split <;> omega
theorem last_ev (s : ByteArray) (h0 : 0 < s.size) (hn : s.size ≤ 40) : Ev (fun k => impl_IsBalanced.l1 k s (s.size : Int) (s.size : Int)) true := by
  refine ev_succ ?_
  have h1 : (s.size : Int) ≤ (s.size : Int) := by omega
  simp only [impl_IsBalanced.l1, h1, if_true]
  obtain ⟨d, hd⟩ : ∃ d, s.size = d + 1 := ⟨s.size - 1, by omega⟩
  have e1 : lows s s.size s.size s.size 0 (s.size : Int) = ((cn s s.size 0 s.size : Nat) : Int) := by
    have := first_low s s.size s.size d
    rw [← hd] at this
    rw [this]
    exact (eq_full s s.size s.size 0).1
  have e2 : highs s s.size s.size s.size 0 0 = ((cn s s.size 0 s.size : Nat) : Int) := by
    have := first_high s s.size s.size d
    rw [← hd] at this
    rw [this]
    exact (eq_full s s.size s.size 0).2
  refine mid_ev s h0 hn s.size hn true s.size 0 _ _ (by omega) (by omega) (by omega) (by omega) (by omega) (fun hx => ?_) (fun _ => ?_)
  · rw [e1, e2] at hx
    omega
  refine ev_succ ?_
  have h2 : ¬ (((s.size + 1 : Nat) : Int) ≤ (s.size : Int)) := by omega
  simp only [impl_IsBalanced.l1, h2, if_false]
  exact Ev.now _
theorem outer_ev (s : ByteArray) (h0 : 0 < s.size) (hn : s.size ≤ 40) (d : Nat) : ∀ c : Nat, 1 ≤ c → c + d = s.size →
    ∃ r, Ev (fun k => impl_IsBalanced.l1 k s (s.size : Int) (c : Int)) r ∧ Ev (fun k => spec_IsBalanced.l1 k s (c : Int)) r := by
  induction d with
  | zero =>
    intro c h1 h
    obtain rfl : c = s.size := by omega
    refine ⟨true, last_ev s h0 hn, ev_succ ?_⟩
    have h1 : ¬ ((s.size : Int) < (s.size : Int)) := by omega
    simp only [spec_IsBalanced.l1, h1, if_false]
    exact Ev.now _
  | succ d ih =>
    intro c h1 h
    obtain ⟨r, i1, i2⟩ := ih (c + 1) (by omega) (by omega)
    have hle := cn_le s s.size 0 c
    obtain ⟨e, he⟩ : ∃ e, s.size = e + 1 := ⟨s.size - 1, by omega⟩
    have el := first_low s s.size c e
    have eh := first_high s s.size c e
    rw [← he] at el eh
    by_cases hb : highs s s.size c s.size 0 0 - lows s s.size c s.size 0 (c : Int) > 1
    · refine ⟨false, ev_succ ?_, ev_succ ?_⟩
      · have h2 : (c : Int) ≤ (s.size : Int) := by omega
        simp only [impl_IsBalanced.l1, h2, if_true]
        refine mid_ev s h0 hn c (by omega) false s.size 0 _ _ (by omega) (by omega) (by omega) (by omega) (by omega) (fun _ => rfl) (fun h => absurd hb h)
      · have h2 : (c : Int) < (s.size : Int) := by omega
        simp only [spec_IsBalanced.l1, h2, if_true]
        refine Ev.bind (count_f s h0 hn 0 c (by omega) (by omega)) ?_
        refine smid_ev s h0 hn c (by omega) false s.size 0 _ _ (by omega) (by omega) (by omega) (by omega) (by omega) (fun _ => rfl) (fun h => absurd (by rw [el, eh] at hb; exact hb) h)
    · refine ⟨r, ev_succ ?_, ev_succ ?_⟩
      · have h2 : (c : Int) ≤ (s.size : Int) := by omega
        simp only [impl_IsBalanced.l1, h2, if_true]
        refine mid_ev s h0 hn c (by omega) r s.size 0 _ _ (by omega) (by omega) (by omega) (by omega) (by omega) (fun h => absurd h hb) (fun _ => i1)
      · have h2 : (c : Int) < (s.size : Int) := by omega
        simp only [spec_IsBalanced.l1, h2, if_true]
        refine Ev.bind (count_f s h0 hn 0 c (by omega) (by omega)) ?_
        refine smid_ev s h0 hn c (by omega) r s.size 0 _ _ (by omega) (by omega) (by omega) (by omega) (by omega) (fun h => absurd h (by rw [el, eh] at hb; exact hb)) (fun _ => i2)
theorem letters_ev (s : ByteArray) (hn : s.size ≤ 40) (d : Nat) : ∀ i : Nat, i + d = s.size →
    ∃ r, Ev (fun k => impl_IsBalanced.l0 k s (s.size : Int) (i : Int)) r ∧ Ev (fun k => spec_IsBalanced.l0 k s (i : Int)) r := by
  induction d with
  | zero =>
    intro i h
    obtain rfl : i = s.size := by omega
    have h1 : ¬ ((s.size : Int) < (s.size : Int)) := by omega
    have H : ∃ r, Ev (fun k => impl_IsBalanced.l1 k s (s.size : Int) 1) r ∧ Ev (fun k => spec_IsBalanced.l1 k s 1) r := by
      by_cases h0 : 0 < s.size
      · exact outer_ev s h0 hn (s.size - 1) 1 (by omega) (by omega)
      · refine ⟨true, ev_succ ?_, ev_succ ?_⟩
        · have h2 : ¬ ((1 : Int) ≤ (s.size : Int)) := by omega
          simp only [impl_IsBalanced.l1, h2, if_false]
          exact Ev.now _
        · have h2 : ¬ ((1 : Int) < (s.size : Int)) := by omega
          simp only [spec_IsBalanced.l1, h2, if_false]
          exact Ev.now _
    obtain ⟨r, i1, i2⟩ := H
    refine ⟨r, ev_succ ?_, ev_succ ?_⟩
    · simp only [impl_IsBalanced.l0, h1, if_false]
      exact i1
    · simp only [spec_IsBalanced.l0, h1, if_false]
      exact i2
  | succ d ih =>
    intro i h
    obtain ⟨r, i1, i2⟩ := ih (i + 1) (by omega)
    have h1 : (i : Int) < (s.size : Int) := by omega
    have h2 : (0 : Int) ≤ (i : Int) := by omega
    have h3 : wrap64 ((i : Int) + 1) = ((i + 1 : Nat) : Int) := by rw [w64 (by omega) (by omega)]; omega
    by_cases hr : bt s (i : Int) = 114
    · refine ⟨r, ev_succ ?_, ev_succ ?_⟩
      · simp only [impl_IsBalanced.l0, h1, h2, h3, hr, if_true]
        exact i1
      · simp only [spec_IsBalanced.l0, h1, h2, h3, hr, if_true]
        exact i2
    · by_cases hu : bt s (i : Int) = 117
      · have hd : ¬ ((117 : Int) = 114) := by omega
        refine ⟨r, ev_succ ?_, ev_succ ?_⟩
        · simp only [impl_IsBalanced.l0, h1, h2, h3, hu, hd, if_true, if_false]
          exact i1
        · simp only [spec_IsBalanced.l0, h1, h2, h3, hu, hd, if_true, if_false]
          exact i2
      · refine ⟨false, ev_succ ?_, ev_succ ?_⟩
        · simp only [impl_IsBalanced.l0, h1, h2, hr, hu, if_true, if_false]
          exact Ev.now _
        · simp only [spec_IsBalanced.l0, h1, h2, hr, hu, if_true, if_false]
          exact Ev.now _
theorem FnExactIsBalanced : laws_FnExactIsBalanced.Pure := by
  intro s _
  refine Ev.rounds ?_
  unfold laws_FnExactIsBalanced.f
  by_cases hb : (s.size : Int) > 1048576
  · simp only [hb, if_true]
    exact Ev.now _
  · simp only [hb, if_false]
    have H : ∃ r, Ev (fun k => impl_IsBalanced.f k s) r ∧ Ev (fun k => spec_IsBalanced.f k s) r := by
      unfold impl_IsBalanced.f spec_IsBalanced.f
      by_cases h : (s.size : Int) > 40
      · simp only [h, if_true]
        exact ⟨false, Ev.now _, Ev.now _⟩
      · simp only [h, if_false]
        exact letters_ev s (by omega) s.size 0 (by omega)
    obtain ⟨r, i1, i2⟩ := H
    refine Ev.bind i2 (Ev.bind i1 ?_)
    simp only [bne_self_eq_false, Bool.false_eq_true, if_false]
    exact Ev.now _

end Go.Proofs.Ytocblnmpniijjaa.Pure
