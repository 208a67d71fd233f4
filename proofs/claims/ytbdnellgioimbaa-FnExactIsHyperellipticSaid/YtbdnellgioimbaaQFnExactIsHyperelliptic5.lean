/- Lemmas for the row FnExactIsHyperelliptic: the program's functions told as plain functions, and plain mathematics. No conditions. -/
import Derived.Test.YtbdnellgioimbaaQFnExactIsHyperelliptic4
section
namespace Go.Proofs.Ytbdnellgioimbaa.A
open Go.RowKit Go.Proofs.YtbdnellgioimbaaW.PrintWords Go.Proofs.YtbdnellgioimbaaW.PrintLast Go.Proofs.YtbdnellgioimbaaW.PrintMore
attribute [local go_sem] max2_int min2_int max_two min_two max_three min_three max_four min_four
set_option linter.unusedVariables false
set_option linter.unusedSimpArgs false
def Z3.l0 : Nat → List Int → Int → Int → List Int → List Int → Option (Int)
 | 0, _, _, _, _, _ => none
 | k + 1, x1, x11, x12, x529000, x529001 => if x12 < x11 then (if 0 ≤ x12 then (if x12 < (x1.length : Int) then (if 0 ≤ (rd x1 x12) then (if (rd x1 x12) < (x1.length : Int) then (if (rd x1 (rd x1 x12)) = x12 then (Z3.l0 k x1 x11 (wrap64 (x12 + 1)) x529000 x529001) else (some (-1))) else (none)) else (none)) else (none)) else (none)) else ((Z29.f k x529000 x529001).bind fun t532 => ((Z12.f k x529000 x529001 x1).bind fun t533 => (some (wrap64 (Int.tdiv (wrap64 ((wrap64 ((wrap64 (2 * t532)) + 2)) - t533)) 4)))))
def Z3.f (k : Nat) (l0_0 : List Int) (l0_1 : List Int) (l1 : List Int) : Option (Int) := (Z36.f k l0_0 l0_1 l1).bind fun t529 => (if t529 = true then (Z3.l0 k l1 (l1.length : Int) 0 l0_0 l0_1) else (some (-1)))
theorem Z3.mono_l : ∀ k, (∀ y0 y1 y2 y3 y4, LeO (Z3.l0 k y0 y1 y2 y3 y4) (Z3.l0 (k + 1) y0 y1 y2 y3 y4))
 | 0 => fun _ _ _ _ _ r h => by simp [Z3.l0] at h
 | k + 1 => by
  have ih0 := Z3.mono_l k
  ·intro y0 y1 y2 y3 y4
   unfold Z3.l0
   repeat' first
   | (with_reducible exact ih0 _ _ _ _ _)
   | (with_reducible exact Z12.mono _ _ _ _)
   | (with_reducible exact Z29.mono _ _ _)
   | (with_reducible exact Z36.mono _ _ _ _)
   | (with_reducible exact LeO.refl _)
   | (with_reducible exact LeO.none _)
   | (with_reducible refine LeO.ite ?_ ?_)
   | (with_reducible refine LeO.bind ?_ (fun _ => ?_))
   | exact ih0 _ _ _ _ _
   | exact Z12.mono _ _ _ _
   | exact Z29.mono _ _ _
   | exact Z36.mono _ _ _ _
   | exact LeO.none _
   | refine LeO.ite ?_ ?_
   | refine LeO.bind ?_ (fun _ => ?_)
theorem Z3.mono : ∀ a0 a1 a2 k, LeO (Z3.f k a0 a1 a2) (Z3.f (k + 1) a0 a1 a2) := by
 intro a0 a1 a2 k
 have ih0 := Z3.mono_l k
 unfold Z3.f
 repeat' first
   | (with_reducible exact ih0 _ _ _ _ _)
   | (with_reducible exact Z12.mono _ _ _ _)
   | (with_reducible exact Z29.mono _ _ _)
   | (with_reducible exact Z36.mono _ _ _ _)
   | (with_reducible exact LeO.refl _)
   | (with_reducible exact LeO.none _)
   | (with_reducible refine LeO.ite ?_ ?_)
   | (with_reducible refine LeO.bind ?_ (fun _ => ?_))
   | exact ih0 _ _ _ _ _
   | exact Z12.mono _ _ _ _
   | exact Z29.mono _ _ _
   | exact Z36.mono _ _ _ _
   | exact LeO.none _
   | refine LeO.ite ?_ ?_
   | refine LeO.bind ?_ (fun _ => ?_)
def Z3.T9 : Bool × List (List Nat × List Nat) := (true, [([], []), ([0], [0]), ([1], [1]), ([2], [2]), ([], []), ([], []), ([4, 5, 1], [4, 5]), ([3, 6], [3, 6]), ([7], [7]), ([8, 6, 0, 1, 2, 3, 4, 5, 6, 7, 8], [8])])
def Z3.B9 : List Nat := [0, 1, 3, 7, 0, 0, 51, 127, 255, 511]
theorem Z3.tab9 : rtab .any (opsOf Try.f62 9) = Z3.T9 := by kernel_rfl
theorem Z3.bits9 : waitsOk Z3.T9.2 Z3.B9 = true := by kernel_rfl
set_option maxHeartbeats 8000000 in
set_option maxRecDepth 100000 in
theorem Z3.calls (k : Nat) (A0_0 : Option Addr) (c0_0 : Nat) (l0_0 : List Int) (A0_1 : Option Addr) (c0_1 : Nat) (l0_1 : List Int) (A1 : Option Addr) (c1 : Nat) (l1 : List Int) (r : Int) (w : World) (hr0_0 : Kd.C (Kd.int .i64) w A0_0 l0_0.length l0_0) (hc0_0 : l0_0.length ≤ c0_0) (hr0_1 : Kd.C (Kd.int .i64) w A0_1 l0_1.length l0_1) (hc0_1 : l0_1.length ≤ c0_1) (hr1 : Kd.C (Kd.int .i64) w A1 l1.length l1) (hc1 : l1.length ≤ c1) (h : Z3.f k l0_0 l0_1 l1 = some r) :
  Calls Try.prog 62 #[.agg #[.slice A0_0 l0_0.length c0_0, .slice A0_1 l0_1.length c0_1], .slice A1 l1.length c1] w fun e w' => e = .returned (.int .i64 r) ∧ Below w.heap.size w w' := by
 have hu27 := Try.underlying27
 have HR0_0 := A_ hr0_0
 have HC0_0 := A_ hc0_0
 clear hr0_0 hc0_0
 have HR0_1 := A_ hr0_1
 have HC0_1 := A_ hc0_1
 clear hr0_1 hc0_1
 have HR1 := A_ hr1
 have HC1 := A_ hc1
 clear hr1 hc1
 have HB := A_ (Below.refl w.heap.size w)
 have H : ((Z36.f k l0_0 l0_1 l1).bind fun t529 => (if t529 = true then (Z3.l0 k l1 (l1.length : Int) 0 l0_0 l0_1) else (some (-1)))) = some r := h
 clear h
 replace H := Option.bind_eq_some_iff.mp H
 obtain ⟨t529, A30, H⟩ := H
 replace H : (if t529 = true then (Z3.l0 k l1 (l1.length : Int) 0 l0_0 l0_1) else (some (-1))) = some r := H
 have A3 := A_ A30
 clear A30
 by_cases c4 : t529 = true
 ·subst c4
  have H1 : (Z3.l0 k l1 (l1.length : Int) 0 l0_0 l0_1) = some r := by rw [if_pos rfl] at H; exact H
  clear H
  have H := H1
  clear H1
  have H' := A_ H
  clear H
  go_enter Try.func62, Try.ntmps62
  go_wp2_with (first | ((with_reducible refine gB_ (N := 2) rfl ?_); refine xA_ ?hg (N := 2) ?hd (cs := #[.slice A0_0 l0_0.length c0_0, .slice A0_1 l0_1.length c0_1]) (t := 27) ?hr ?_; (case hd => rfl); (case hg => rfl); (case hr => first | (go_simp; done) | (go_simp; rfl)); intro gb528 hg w5 hbox hb; have n0_ := A_ (bE_ (by repeat (first | (with_reducible first | exact HB.out | apply bA_ | apply bB_ | apply bC_) | exact HB.out)) hb); have n1_ := A_ (hbox); have n2_ := A_ ((by rw [hg]; exact (bF_ (by repeat (first | (with_reducible first | exact HB.out | apply bA_ | apply bB_ | apply bC_) | exact HB.out))) : w.heap.size ≤ gb528)); have n3_ := A_ ((by rw [hg]; exact (bF_ (by repeat (first | (with_reducible first | exact HB.out | apply bA_ | apply bB_ | apply bC_) | exact HB.out))) : w.heap.size ≤ gb528)); clear HB; have HB := n0_; have BK528 := n1_; have GW528 := n2_; have GE528 := n3_; clear n0_ n1_ n2_ n3_; clear hb hbox hg; have hcz6_0 := cz0_ BK528.out; have hcz6_1 := cz1_ BK528.out; have hfz6_0 := kD_ BK528.out 0; have hfz6_1 := kD_ BK528.out 1) | ((with_reducible refine gA_ (f := 107) rfl ?_); refine goesL_ (some 8) rfl rfl Try.func107 (by kernel_rfl) rfl #[.agg #[.slice A0_0 l0_0.length c0_0, .slice A0_1 l0_1.length c0_1], .slice A1 l1.length c1] rfl (by (try simp only [mA_, mB_, mC_]); first | done | rfl | (simp only [lA_, lB_]; rfl)) ?_; (with_reducible refine (Z36.calls k _ _ l0_0 _ _ l0_1 _ _ l1 true _ ?side1 ?side2 ?side3 ?side4 ?side5 ?side6 A3.out).mono ?_); (case side1 => repeat (first | exact (cD_ HR0_0.out HB.out) | (with_reducible first | refine cA_ ?_ _ | refine cB_ ?_ _ | refine cC_ ?_))); (case side2 => exact HC0_0.out); (case side3 => repeat (first | exact (cD_ HR0_1.out HB.out) | (with_reducible first | refine cA_ ?_ _ | refine cB_ ?_ _ | refine cC_ ?_))); (case side4 => exact HC0_1.out); (case side5 => repeat (first | exact (cD_ HR1.out HB.out) | (with_reducible first | refine cA_ ?_ _ | refine cB_ ?_ _ | refine cC_ ?_))); (case side6 => exact HC1.out); rintro e w7 ⟨rfl, hb⟩; refine ⟨_, rfl, ?_⟩; have n0_ := A_ (kE_ (g := gb528) (by (with_reducible repeat (first | refine kA_ ?_ _ | refine kB_ ?_ | refine kC_ ?_ _)); exact BK528.out) hb); have n1_ := A_ (bE_ (by repeat (first | (with_reducible first | exact HB.out | apply bA_ | apply bB_ | apply bC_ | refine bD_ ?_ GE528.out) | exact HB.out)) hb); clear BK528; clear HB; have BK528 := n0_; have HB := n1_; clear n0_ n1_; (try clear hb); (try clear hb2); (try clear hk); (try clear hi)))
  go_loopg [12] k (fun kq v12 w' => ∃ (x12_1 : Int), v12 = .int .i64 x12_1 ∧ Aside0 (Z3.l0 kq l1 (l1.length : Int) x12_1 l0_0 l0_1 = some r) ∧ Aside0 (kq ≤ k) ∧ Aside0 (w'.heap[gb528]? = some (.cells #[(.slice A0_0 l0_0.length c0_0), (.slice A0_1 l0_1.length c0_1)] 27 (0, 0))) ∧ Aside0 (Below w.heap.size w w'))
  case atStart => exact ⟨(0), (by first | rfl | (simp; done) | (simp [*]; done)), H', ⟨nA_ _⟩, ⟨by (with_reducible repeat (first | refine kA_ ?_ _ | refine kB_ ?_ | refine kC_ ?_ _)); exact BK528.out⟩, ⟨by repeat (first | (with_reducible first | exact HB.out | apply bA_ | apply bB_ | apply bC_ | refine bD_ ?_ GE528.out) | exact HB.out)⟩⟩
  case round =>
   clear H'
   (try clear c1); (try clear p2); (try clear c4); (try clear c6); (try clear hcz6_0); (try clear hcz6_1); (try clear hfz6_0); (try clear hfz6_1)
   obtain ⟨x12_1, rfl, HA, HK1, BK528, HB⟩ := hrel
   cases gk with
   | zero => exact absurd HA.out (by simp [Z3.l0])
   | succ k1 =>
    have H := HA.out
    clear HA
    simp only [Z3.l0] at H
    by_cases c8 : x12_1 < (l1.length : Int)
    ·rw [if_pos c8] at H
     have c8b0 : decide (x12_1 < (l1.length : Int)) = true := oC_ c8
     clear c8
     by_cases c9 : 0 ≤ x12_1
     ·rw [if_pos c9] at H
      have c9b0 : decide (0 ≤ x12_1) = true := oC_ c9
      clear c9
      by_cases c10 : x12_1 < (l1.length : Int)
      ·rw [if_pos c10] at H
       have c10b0 : decide (x12_1 < (l1.length : Int)) = true := oC_ c10
       clear c10
       by_cases c11 : 0 ≤ (rd l1 x12_1)
       ·rw [if_pos c11] at H
        have c11b0 : decide (0 ≤ (rd l1 x12_1)) = true := oC_ c11
        clear c11
        by_cases c12 : (rd l1 x12_1) < (l1.length : Int)
        ·rw [if_pos c12] at H
         have c12b0 : decide ((rd l1 x12_1) < (l1.length : Int)) = true := oC_ c12
         clear c12
         by_cases c13 : (rd l1 (rd l1 x12_1)) = x12_1
         ·rw [if_pos c13] at H
          have c13b0 : ((rd l1 (rd l1 x12_1)) == x12_1) = true := beq_iff_eq.mpr c13
          have c13b1 : ((rd l1 (rd l1 x12_1)) != x12_1) = false := bne_eq_false_iff_eq.mpr c13
          clear c13
          have H' := A_ H
          clear H
          have p530 : 0 ≤ (x12_1 : Int) := oB_ (by first | (with_reducible assumption) | assumption)
          have q530 : x12_1 < (l1.length : Int) := oB_ (by first | (with_reducible assumption) | assumption)
          obtain ⟨ad530, e530, hx530_0⟩ := Kd.at_int HR1.out x12_1 p530 q530
          cases e530
          replace hx530_0 := (HB.out.cell (World.block_lt_of_cell? w _ hx530_0)).trans hx530_0
          replace p530 := eq_true p530
          replace q530 := eq_true q530
          have p531 : 0 ≤ ((rd l1 x12_1) : Int) := oB_ (by first | (with_reducible assumption) | assumption)
          have q531 : (rd l1 x12_1) < (l1.length : Int) := oB_ (by first | (with_reducible assumption) | assumption)
          obtain ⟨ad531, e531, hx531_0⟩ := Kd.at_int HR1.out (rd l1 x12_1) p531 q531
          obtain rfl : ad530 = ad531 := (by injection e531)
          replace hx531_0 := (HB.out.cell (World.block_lt_of_cell? w _ hx531_0)).trans hx531_0
          replace p531 := eq_true p531
          replace q531 := eq_true q531
          go_wp2
          go_roundg k1
          case measure => have := HK1.out; omega
          case rel => exact ⟨(wrap64 (x12_1 + 1)), (by first | rfl | (simp; done) | (simp [*]; done)), H', ⟨by have := HK1.out; omega⟩, ⟨by (with_reducible repeat (first | refine kA_ ?_ _ | refine kB_ ?_ | refine kC_ ?_ _)); exact BK528.out⟩, ⟨by repeat (first | (with_reducible first | exact HB.out | apply bA_ | apply bB_ | apply bC_ | refine bD_ ?_ GE528.out) | exact HB.out)⟩⟩
         ·rw [if_neg c13] at H
          have c13b0 : ((rd l1 (rd l1 x12_1)) == x12_1) = false := beq_eq_false_iff_ne.mpr c13
          have c13b1 : ((rd l1 (rd l1 x12_1)) != x12_1) = true := bne_iff_ne.mpr c13
          obtain rfl := Option.some.inj H
          have p530 : 0 ≤ (x12_1 : Int) := oB_ (by first | (with_reducible assumption) | assumption)
          have q530 : x12_1 < (l1.length : Int) := oB_ (by first | (with_reducible assumption) | assumption)
          obtain ⟨ad530, e530, hx530_0⟩ := Kd.at_int HR1.out x12_1 p530 q530
          cases e530
          replace hx530_0 := (HB.out.cell (World.block_lt_of_cell? w _ hx530_0)).trans hx530_0
          replace p530 := eq_true p530
          replace q530 := eq_true q530
          have p531 : 0 ≤ ((rd l1 x12_1) : Int) := oB_ (by first | (with_reducible assumption) | assumption)
          have q531 : (rd l1 x12_1) < (l1.length : Int) := oB_ (by first | (with_reducible assumption) | assumption)
          obtain ⟨ad531, e531, hx531_0⟩ := Kd.at_int HR1.out (rd l1 x12_1) p531 q531
          obtain rfl : ad530 = ad531 := (by injection e531)
          replace hx531_0 := (HB.out.cell (World.block_lt_of_cell? w _ hx531_0)).trans hx531_0
          replace p531 := eq_true p531
          replace q531 := eq_true q531
          go_wp2
          go_ret
          exact ⟨by first | rfl | (simp [errW_none, errW_some] <;> rfl) | (simp [*, errW_none, errW_some] <;> rfl), by repeat (first | (with_reducible first | exact HB.out | apply bA_ | apply bB_ | apply bC_ | refine bD_ ?_ GE528.out) | exact HB.out)⟩
        ·rw [if_neg c12] at H
         exact absurd H (by simp)
       ·rw [if_neg c11] at H
        exact absurd H (by simp)
      ·rw [if_neg c10] at H
       exact absurd H (by simp)
     ·rw [if_neg c9] at H
      exact absurd H (by simp)
    ·rw [if_neg c8] at H
     have c8b0 : decide (x12_1 < (l1.length : Int)) = false := oD_ c8
     clear c8
     replace H := Option.bind_eq_some_iff.mp H
     obtain ⟨t532, A140, H⟩ := H
     replace H : ((Z12.f k1 l0_0 l0_1 l1).bind fun t533 => (some (wrap64 (Int.tdiv (wrap64 ((wrap64 ((wrap64 (2 * t532)) + 2)) - t533)) 4)))) = some r := H
     have A14 := A_ A140
     clear A140
     replace H := Option.bind_eq_some_iff.mp H
     obtain ⟨t533, A150, H⟩ := H
     replace H : (some (wrap64 (Int.tdiv (wrap64 ((wrap64 ((wrap64 (2 * t532)) + 2)) - t533)) 4))) = some r := H
     have A15 := A_ A150
     clear A150
     obtain rfl := Option.some.inj H
     try go_wp2
     have n0_ := A_ (kB_ BK528.out)
     have n1_ := A_ (bC_ HB.out)
     clear BK528
     clear HB
     have BK528 := n0_
     have HB := n1_
     clear n0_ n1_
     refine start_ (n := 10) (S := fun w' => w'.cell? ⟨gb528, 0, none⟩ = some (.slice A0_0 l0_0.length c0_0) ∧ w'.cell? ⟨gb528, 1, none⟩ = some (.slice A0_1 l0_1.length c0_1)) (ds := []) #[false, false, false, false, false, false, false, false, false, false] (by kernel_rfl) rfl rfl ⟨(blk_cell BK528.out 0).trans rfl, (blk_cell BK528.out 1).trans rfl⟩ (fun hHeld => ?_); refine with_tabW Z3.tab9 Z3.bits9 (fun HT_ HW_ => ?_)
     generalize wr.drew = w16 at BK528 HB hHeld ⊢
     refine pure_ (i := 5) (N := some 30) (v := ?_) (a' := ?_) #[false, false, false, false, false, true, false, false, false, false] rfl rfl (any_of HT_.out (by kernel_rfl)) (fun _ _ _ h => h) (Or.inl ⟨by rfl, ?_⟩) ?_ ?_
     rotate_left
     ·intro w'
      go_simp
      with_reducible rfl
     rotate_left
     ·simp only [Act.put, sA_, sB_, sC_, i64_w, i32_w]
      rfl
     refine take_ (i := 0) (N := some 25) (v := ?_) (a' := ?_) #[true, false, false, false, false, true, false, false, false, false] rfl rfl (take_ofW HT_.out HW_.out (by kernel_rfl)) (fun _ _ _ h => h) (Or.inl ⟨by rfl, ?_⟩) hHeld ?_ ?_
     rotate_left
     ·rintro w' ⟨s0, s1⟩
      go_simp
      with_reducible rfl
     rotate_left
     ·simp only [Act.put, sA_, sB_, sC_, i64_w, i32_w]
      rfl
     refine take_ (i := 4) (N := some 29) (v := ?_) (a' := ?_) #[true, false, false, false, true, true, false, false, false, false] rfl rfl (take_ofW HT_.out HW_.out (by kernel_rfl)) (fun _ _ _ h => h) (Or.inl ⟨by rfl, ?_⟩) hHeld ?_ ?_
     rotate_left
     ·rintro w' ⟨s0, s1⟩
      go_simp
      with_reducible rfl
     rotate_left
     ·simp only [Act.put, sA_, sB_, sC_, i64_w, i32_w]
      rfl
     refine one_ (i := 1) (N := some 26) #[true, true, false, false, true, true, false, false, false, false] rfl rfl (one_of HT_.out (by kernel_rfl)) (by decide) (fun K hK => ?_)
     refine goes_ Try.func108 (by kernel_rfl) rfl #[.agg #[.slice A0_0 l0_0.length c0_0, .slice A0_1 l0_1.length c0_1]] (by rfl) rfl rfl (by (try simp only [mA_, mB_, mC_]); first | done | rfl | (simp only [lA_, lB_]; rfl)) ?_
     with_reducible refine (Z29.calls k1 _ _ l0_0 _ _ l0_1 t532 _ ?side1 ?side2 ?side3 ?side4 A14.out).mono ?_
     (case side1 => repeat (first | exact (cD_ HR0_0.out HB.out) | (with_reducible first | refine cA_ ?_ _ | refine cB_ ?_ _ | refine cC_ ?_)))
     (case side2 => exact HC0_0.out)
     (case side3 => repeat (first | exact (cD_ HR0_1.out HB.out) | (with_reducible first | refine cA_ ?_ _ | refine cB_ ?_ _ | refine cC_ ?_)))
     (case side4 => exact HC0_1.out)
     rintro e w17 ⟨rfl, hb⟩
     refine ⟨_, rfl, ?_⟩
     have n0_ := A_ (kE_ (g := gb528) (by (with_reducible repeat (first | refine kA_ ?_ _ | refine kB_ ?_ | refine kC_ ?_ _)); exact BK528.out) hb)
     have n1_ := A_ (bE_ (by repeat (first | (with_reducible first | exact HB.out | apply bA_ | apply bB_ | apply bC_ | refine bD_ ?_ GE528.out) | exact HB.out)) hb)
     clear BK528
     clear HB
     have BK528 := n0_
     have HB := n1_
     clear n0_ n1_
     (try clear hb)
     (try clear hb2)
     (try clear hk)
     (try clear hi)
     refine hK.out _ _ ⟨(blk_cell BK528.out 0).trans rfl, (blk_cell BK528.out 1).trans rfl⟩ (fun hHeld => ?_)
     clear hK K
     refine norm_ (a' := ?_) ?_ ?_
     rotate_left
     ·show Act.put _ (some 26) _ = _
      simp only [Act.put, sA_, sB_, sC_, i64_w, i32_w]
      rfl
     refine pure_ (i := 2) (N := some 27) (v := ?_) (a' := ?_) #[true, true, true, false, true, true, false, false, false, false] rfl rfl (any_of HT_.out (by kernel_rfl)) (fun _ _ _ h => h) (Or.inl ⟨by rfl, ?_⟩) ?_ ?_
     rotate_left
     ·intro w'
      go_simp
      with_reducible rfl
     rotate_left
     ·simp only [Act.put, sA_, sB_, sC_, i64_w, i32_w]
      rfl
     refine pure_ (i := 3) (N := some 28) (v := ?_) (a' := ?_) #[true, true, true, true, true, true, false, false, false, false] rfl rfl (any_of HT_.out (by kernel_rfl)) (fun _ _ _ h => h) (Or.inl ⟨by rfl, ?_⟩) ?_ ?_
     rotate_left
     ·intro w'
      go_simp
      with_reducible rfl
     rotate_left
     ·simp only [Act.put, sA_, sB_, sC_, i64_w, i32_w]
      rfl
     refine one_ (i := 6) (N := some 31) #[true, true, true, true, true, true, true, false, false, false] rfl rfl (one_of HT_.out (by kernel_rfl)) (by decide) (fun K hK => ?_)
     refine goes_ Try.func109 (by kernel_rfl) rfl #[.agg #[.slice A0_0 l0_0.length c0_0, .slice A0_1 l0_1.length c0_1], .slice A1 l1.length c1] (by rfl) rfl rfl (by (try simp only [mA_, mB_, mC_]); first | done | rfl | (simp only [lA_, lB_]; rfl)) ?_
     with_reducible refine (Z12.calls k1 _ _ l0_0 _ _ l0_1 _ _ l1 t533 _ ?side1 ?side2 ?side3 ?side4 ?side5 ?side6 A15.out).mono ?_
     (case side1 => repeat (first | exact (cD_ HR0_0.out HB.out) | (with_reducible first | refine cA_ ?_ _ | refine cB_ ?_ _ | refine cC_ ?_)))
     (case side2 => exact HC0_0.out)
     (case side3 => repeat (first | exact (cD_ HR0_1.out HB.out) | (with_reducible first | refine cA_ ?_ _ | refine cB_ ?_ _ | refine cC_ ?_)))
     (case side4 => exact HC0_1.out)
     (case side5 => repeat (first | exact (cD_ HR1.out HB.out) | (with_reducible first | refine cA_ ?_ _ | refine cB_ ?_ _ | refine cC_ ?_)))
     (case side6 => exact HC1.out)
     rintro e w18 ⟨rfl, hb⟩
     refine ⟨_, rfl, ?_⟩
     have n0_ := A_ (kE_ (g := gb528) (by (with_reducible repeat (first | refine kA_ ?_ _ | refine kB_ ?_ | refine kC_ ?_ _)); exact BK528.out) hb)
     have n1_ := A_ (bE_ (by repeat (first | (with_reducible first | exact HB.out | apply bA_ | apply bB_ | apply bC_ | refine bD_ ?_ GE528.out) | exact HB.out)) hb)
     clear BK528
     clear HB
     have BK528 := n0_
     have HB := n1_
     clear n0_ n1_
     (try clear hb)
     (try clear hb2)
     (try clear hk)
     (try clear hi)
     refine hK.out _ _ ⟨(blk_cell BK528.out 0).trans rfl, (blk_cell BK528.out 1).trans rfl⟩ (fun hHeld => ?_)
     clear hK K
     refine norm_ (a' := ?_) ?_ ?_
     rotate_left
     ·show Act.put _ (some 31) _ = _
      simp only [Act.put, sA_, sB_, sC_, i64_w, i32_w]
      rfl
     refine pure_ (i := 7) (N := some 32) (v := ?_) (a' := ?_) #[true, true, true, true, true, true, true, true, false, false] rfl rfl (any_of HT_.out (by kernel_rfl)) (fun _ _ _ h => h) (Or.inl ⟨by rfl, ?_⟩) ?_ ?_
     rotate_left
     ·intro w'
      go_simp
      with_reducible rfl
     rotate_left
     ·simp only [Act.put, sA_, sB_, sC_, i64_w, i32_w]
      rfl
     refine pure_ (i := 8) (N := some 33) (v := ?_) (a' := ?_) #[true, true, true, true, true, true, true, true, true, false] rfl rfl (any_of HT_.out (by kernel_rfl)) (fun _ _ _ h => h) (Or.inl ⟨by rfl, ?_⟩) ?_ ?_
     rotate_left
     ·intro w'
      go_simp
      with_reducible rfl
     rotate_left
     ·simp only [Act.put, sA_, sB_, sC_, i64_w, i32_w]
      rfl
     refine pure_ (i := 9) (N := some 4) (v := ?_) (a' := ?_) #[true, true, true, true, true, true, true, true, true, true] rfl rfl (any_of HT_.out (by kernel_rfl)) (fun _ _ _ h => h) (Or.inl ⟨by rfl, ?_⟩) ?_ ?_
     rotate_left
     ·intro w'
      go_simp
      with_reducible rfl
     rotate_left
     ·simp only [Act.put, sA_, sB_, sC_, i64_w, i32_w]
      rfl
     refine done_ (done_of HT_.out (by kernel_rfl)) ?_
     try go_wp2
     go_ret
     exact ⟨by first | rfl | (simp [errW_none, errW_some] <;> rfl) | (simp [*, errW_none, errW_some] <;> rfl), by repeat (first | (with_reducible first | exact HB.out | apply bA_ | apply bB_ | apply bC_ | refine bD_ ?_ GE528.out) | exact HB.out)⟩
 ·replace c4 := Bool.eq_false_iff.mpr c4
  subst c4
  have H1 : (some (-1)) = some r := by rw [if_neg (show ¬ (false = true) by decide)] at H; exact H
  clear H
  have H := H1
  clear H1
  obtain rfl := Option.some.inj H
  go_enter Try.func62, Try.ntmps62
  go_wp2_with (first | ((with_reducible refine gB_ (N := 2) rfl ?_); refine xA_ ?hg (N := 2) ?hd (cs := #[.slice A0_0 l0_0.length c0_0, .slice A0_1 l0_1.length c0_1]) (t := 27) ?hr ?_; (case hd => rfl); (case hg => rfl); (case hr => first | (go_simp; done) | (go_simp; rfl)); intro gb528 hg w19 hbox hb; have n0_ := A_ (bE_ (by repeat (first | (with_reducible first | exact HB.out | apply bA_ | apply bB_ | apply bC_) | exact HB.out)) hb); have n1_ := A_ (hbox); have n2_ := A_ ((by rw [hg]; exact (bF_ (by repeat (first | (with_reducible first | exact HB.out | apply bA_ | apply bB_ | apply bC_) | exact HB.out))) : w.heap.size ≤ gb528)); have n3_ := A_ ((by rw [hg]; exact (bF_ (by repeat (first | (with_reducible first | exact HB.out | apply bA_ | apply bB_ | apply bC_) | exact HB.out))) : w.heap.size ≤ gb528)); clear HB; have HB := n0_; have BK528 := n1_; have GW528 := n2_; have GE528 := n3_; clear n0_ n1_ n2_ n3_; clear hb hbox hg; have hcz20_0 := cz0_ BK528.out; have hcz20_1 := cz1_ BK528.out; have hfz20_0 := kD_ BK528.out 0; have hfz20_1 := kD_ BK528.out 1) | ((with_reducible refine gA_ (f := 107) rfl ?_); refine goesL_ (some 8) rfl rfl Try.func107 (by kernel_rfl) rfl #[.agg #[.slice A0_0 l0_0.length c0_0, .slice A0_1 l0_1.length c0_1], .slice A1 l1.length c1] rfl (by (try simp only [mA_, mB_, mC_]); first | done | rfl | (simp only [lA_, lB_]; rfl)) ?_; (with_reducible refine (Z36.calls k _ _ l0_0 _ _ l0_1 _ _ l1 false _ ?side1 ?side2 ?side3 ?side4 ?side5 ?side6 A3.out).mono ?_); (case side1 => repeat (first | exact (cD_ HR0_0.out HB.out) | (with_reducible first | refine cA_ ?_ _ | refine cB_ ?_ _ | refine cC_ ?_))); (case side2 => exact HC0_0.out); (case side3 => repeat (first | exact (cD_ HR0_1.out HB.out) | (with_reducible first | refine cA_ ?_ _ | refine cB_ ?_ _ | refine cC_ ?_))); (case side4 => exact HC0_1.out); (case side5 => repeat (first | exact (cD_ HR1.out HB.out) | (with_reducible first | refine cA_ ?_ _ | refine cB_ ?_ _ | refine cC_ ?_))); (case side6 => exact HC1.out); rintro e w21 ⟨rfl, hb⟩; refine ⟨_, rfl, ?_⟩; have n0_ := A_ (kE_ (g := gb528) (by (with_reducible repeat (first | refine kA_ ?_ _ | refine kB_ ?_ | refine kC_ ?_ _)); exact BK528.out) hb); have n1_ := A_ (bE_ (by repeat (first | (with_reducible first | exact HB.out | apply bA_ | apply bB_ | apply bC_ | refine bD_ ?_ GE528.out) | exact HB.out)) hb); clear BK528; clear HB; have BK528 := n0_; have HB := n1_; clear n0_ n1_; (try clear hb); (try clear hb2); (try clear hk); (try clear hi)))
  go_ret
  exact ⟨by first | rfl | (simp [errW_none, errW_some] <;> rfl) | (simp [*, errW_none, errW_some] <;> rfl), by repeat (first | (with_reducible first | exact HB.out | apply bA_ | apply bB_ | apply bC_ | refine bD_ ?_ GE528.out) | exact HB.out)⟩
def Z1.l0 : Nat → List (List Int) → Int → Int → List Int → List Int → Option (Bool)
 | 0, _, _, _, _, _ => none
 | k + 1, x6, x7, x8, x535000, x535001 => if x8 < x7 then (if 0 ≤ x8 then (if x8 < (x6.length : Int) then ((Z3.f k x535000 x535001 (rd_L1 x6 x8)).bind fun t539 => (if t539 = 0 then (some true) else (Z1.l0 k x6 x7 (wrap64 (x8 + 1)) x535000 x535001))) else (none)) else (none)) else (some false)
def Z1.f (k : Nat) (l0_0 : List Int) (l0_1 : List Int) : Option (Bool) := (Z30.f k l0_0 l0_1).bind fun t535 => (Z1.l0 k t535 (t535.length : Int) 0 l0_0 l0_1)
theorem Z1.mono_l : ∀ k, (∀ y0 y1 y2 y3 y4, LeO (Z1.l0 k y0 y1 y2 y3 y4) (Z1.l0 (k + 1) y0 y1 y2 y3 y4))
 | 0 => fun _ _ _ _ _ r h => by simp [Z1.l0] at h
 | k + 1 => by
  have ih0 := Z1.mono_l k
  ·intro y0 y1 y2 y3 y4
   unfold Z1.l0
   repeat' first
   | (with_reducible exact ih0 _ _ _ _ _)
   | (with_reducible exact Z3.mono _ _ _ _)
   | (with_reducible exact Z30.mono _ _ _)
   | (with_reducible exact LeO.refl _)
   | (with_reducible exact LeO.none _)
   | (with_reducible refine LeO.ite ?_ ?_)
   | (with_reducible refine LeO.bind ?_ (fun _ => ?_))
   | exact ih0 _ _ _ _ _
   | exact Z3.mono _ _ _ _
   | exact Z30.mono _ _ _
   | exact LeO.none _
   | refine LeO.ite ?_ ?_
   | refine LeO.bind ?_ (fun _ => ?_)
theorem Z1.mono : ∀ a0 a1 k, LeO (Z1.f k a0 a1) (Z1.f (k + 1) a0 a1) := by
 intro a0 a1 k
 have ih0 := Z1.mono_l k
 unfold Z1.f
 repeat' first
   | (with_reducible exact ih0 _ _ _ _ _)
   | (with_reducible exact Z3.mono _ _ _ _)
   | (with_reducible exact Z30.mono _ _ _)
   | (with_reducible exact LeO.refl _)
   | (with_reducible exact LeO.none _)
   | (with_reducible refine LeO.ite ?_ ?_)
   | (with_reducible refine LeO.bind ?_ (fun _ => ?_))
   | exact ih0 _ _ _ _ _
   | exact Z3.mono _ _ _ _
   | exact Z30.mono _ _ _
   | exact LeO.none _
   | refine LeO.ite ?_ ?_
   | refine LeO.bind ?_ (fun _ => ?_)
set_option maxHeartbeats 8000000 in
set_option maxRecDepth 100000 in
theorem Z1.calls (k : Nat) (A0_0 : Option Addr) (c0_0 : Nat) (l0_0 : List Int) (A0_1 : Option Addr) (c0_1 : Nat) (l0_1 : List Int) (r : Bool) (w : World) (hr0_0 : Kd.C (Kd.int .i64) w A0_0 l0_0.length l0_0) (hc0_0 : l0_0.length ≤ c0_0) (hr0_1 : Kd.C (Kd.int .i64) w A0_1 l0_1.length l0_1) (hc0_1 : l0_1.length ≤ c0_1) (h : Z1.f k l0_0 l0_1 = some r) :
  Calls Try.prog 17 #[.agg #[.slice A0_0 l0_0.length c0_0, .slice A0_1 l0_1.length c0_1]] w fun e w' => e = .returned (.bool r) ∧ Below w.heap.size w w' := by
 have hu27 := Try.underlying27
 have HR0_0 := A_ hr0_0
 have HC0_0 := A_ hc0_0
 clear hr0_0 hc0_0
 have HR0_1 := A_ hr0_1
 have HC0_1 := A_ hc0_1
 clear hr0_1 hc0_1
 have HB := A_ (Below.refl w.heap.size w)
 have H : ((Z30.f k l0_0 l0_1).bind fun t535 => (Z1.l0 k t535 (t535.length : Int) 0 l0_0 l0_1)) = some r := h
 clear h
 replace H := Option.bind_eq_some_iff.mp H
 obtain ⟨t535, A20, H⟩ := H
 replace H : (Z1.l0 k t535 (t535.length : Int) 0 l0_0 l0_1) = some r := H
 have A2 := A_ A20
 clear A20
 have H' := A_ H
 clear H
 go_enter Try.func17, Try.ntmps17
 go_wp2_with (first | ((with_reducible refine gB_ (N := 1) rfl ?_); refine xA_ ?hg (N := 1) ?hd (cs := #[.slice A0_0 l0_0.length c0_0, .slice A0_1 l0_1.length c0_1]) (t := 27) ?hr ?_; (case hd => rfl); (case hg => rfl); (case hr => first | (go_simp; done) | (go_simp; rfl)); intro gb534 hg w3 hbox hb; have n0_ := A_ (bE_ (by repeat (first | (with_reducible first | exact HB.out | apply bA_ | apply bB_ | apply bC_) | exact HB.out)) hb); have n1_ := A_ (hbox); have n2_ := A_ ((by rw [hg]; exact (bF_ (by repeat (first | (with_reducible first | exact HB.out | apply bA_ | apply bB_ | apply bC_) | exact HB.out))) : w.heap.size ≤ gb534)); have n3_ := A_ ((by rw [hg]; exact (bF_ (by repeat (first | (with_reducible first | exact HB.out | apply bA_ | apply bB_ | apply bC_) | exact HB.out))) : w.heap.size ≤ gb534)); clear HB; have HB := n0_; have BK534 := n1_; have GW534 := n2_; have GE534 := n3_; clear n0_ n1_ n2_ n3_; clear hb hbox hg; have hcz4_0 := cz0_ BK534.out; have hcz4_1 := cz1_ BK534.out; have hfz4_0 := kD_ BK534.out 0; have hfz4_1 := kD_ BK534.out 1) | ((with_reducible refine gA_ (f := 61) rfl ?_); refine goesL_ (some 6) rfl rfl Try.func61 (by kernel_rfl) rfl #[.agg #[.slice A0_0 l0_0.length c0_0, .slice A0_1 l0_1.length c0_1]] rfl (by (try simp only [mA_, mB_, mC_]); first | done | rfl | (simp only [lA_, lB_]; rfl)) ?_; (with_reducible refine (Z30.calls k _ _ l0_0 _ _ l0_1 t535 _ ?side1 ?side2 ?side3 ?side4 A2.out).mono ?_); (case side1 => repeat (first | exact (cD_ HR0_0.out HB.out) | (with_reducible first | refine cA_ ?_ _ | refine cB_ ?_ _ | refine cC_ ?_))); (case side2 => exact HC0_0.out); (case side3 => repeat (first | exact (cD_ HR0_1.out HB.out) | (with_reducible first | refine cA_ ?_ _ | refine cB_ ?_ _ | refine cC_ ?_))); (case side4 => exact HC0_1.out); rintro e w5 ⟨v536, rfl, ho0, hb⟩; refine ⟨_, rfl, ?_⟩; have n0_ := A_ (Kd.S_lower ho0 (bF_ (by repeat (first | (with_reducible first | exact HB.out | apply bA_ | apply bB_ | apply bC_ | refine bD_ ?_ GE534.out) | exact HB.out)))); have n1_ := A_ (kE_ (g := gb534) (by (with_reducible repeat (first | refine kA_ ?_ _ | refine kB_ ?_ | refine kC_ ?_ _)); exact BK534.out) hb); have n2_ := A_ (bE_ (by repeat (first | (with_reducible first | exact HB.out | apply bA_ | apply bB_ | apply bC_ | refine bD_ ?_ GE534.out) | exact HB.out)) hb); clear BK534; clear HB; have HO537 := n0_; have BK534 := n1_; have HB := n2_; clear n0_ n1_ n2_; (try clear hb); (try clear hb2); (try clear hk); (try clear hi); (try clear ho0); obtain ⟨Ao6, co6, eo6⟩ := Kd.S_slice HO537.out; subst eo6))
 go_loopg [8] k (fun kq v8 w' => ∃ (x8_1 : Int), v8 = .int .i64 x8_1 ∧ Aside0 (Z1.l0 kq t535 (t535.length : Int) x8_1 l0_0 l0_1 = some r) ∧ Aside0 (kq ≤ k) ∧ Aside0 (Kd.S (Kd.slice 3 (Kd.int .i64)) 22 w' w.heap.size (fun _ => True) (.slice Ao6 t535.length co6) t535) ∧ Aside0 (w'.heap[gb534]? = some (.cells #[(.slice A0_0 l0_0.length c0_0), (.slice A0_1 l0_1.length c0_1)] 27 (0, 0))) ∧ Aside0 (Below w.heap.size w w'))
 case atStart => exact ⟨(0), (by first | rfl | (simp; done) | (simp [*]; done)), H', ⟨nA_ _⟩, ⟨by (with_reducible repeat (first | apply Kd.S_alloc | apply Kd.S_drewN | apply Kd.S_drew)); exact HO537.out⟩, ⟨by (with_reducible repeat (first | refine kA_ ?_ _ | refine kB_ ?_ | refine kC_ ?_ _)); exact BK534.out⟩, ⟨by repeat (first | (with_reducible first | exact HB.out | apply bA_ | apply bB_ | apply bC_ | refine bD_ ?_ GE534.out) | exact HB.out)⟩⟩
 case round =>
  clear H'
  (try clear c1); (try clear p2); (try clear c6); (try clear hcz4_0); (try clear hcz4_1); (try clear hfz4_0); (try clear hfz4_1)
  obtain ⟨x8_1, rfl, HA, HK1, HO_6, BK534, HB⟩ := hrel
  cases gk with
  | zero => exact absurd HA.out (by simp [Z1.l0])
  | succ k1 =>
   have H := HA.out
   clear HA
   simp only [Z1.l0] at H
   by_cases c7 : x8_1 < (t535.length : Int)
   ·rw [if_pos c7] at H
    have c7b0 : decide (x8_1 < (t535.length : Int)) = true := oC_ c7
    clear c7
    by_cases c8 : 0 ≤ x8_1
    ·rw [if_pos c8] at H
     have c8b0 : decide (0 ≤ x8_1) = true := oC_ c8
     clear c8
     by_cases c9 : x8_1 < (t535.length : Int)
     ·rw [if_pos c9] at H
      have c9b0 : decide (x8_1 < (t535.length : Int)) = true := oC_ c9
      clear c9
      replace H := Option.bind_eq_some_iff.mp H
      obtain ⟨t539, A100, H⟩ := H
      replace H : (if t539 = 0 then (some true) else (Z1.l0 k1 t535 (t535.length : Int) (wrap64 (x8_1 + 1)) l0_0 l0_1)) = some r := H
      have A10 := A_ A100
      clear A100
      by_cases c11 : t539 = 0
      ·rw [if_pos c11] at H
       have c11b0 : (t539 == 0) = true := beq_iff_eq.mpr c11
       have c11b1 : (t539 != 0) = false := bne_eq_false_iff_eq.mpr c11
       clear c11
       obtain rfl := Option.some.inj H
       have p538 : 0 ≤ (x8_1 : Int) := oB_ (by first | (with_reducible assumption) | assumption)
       have q538 : x8_1 < (t535.length : Int) := oB_ (by first | (with_reducible assumption) | assumption)
       obtain ⟨ad538, A538_0, c538_0, e538, hx538_0, hl538_0, hi538_0⟩ := at_L1 (Kd.S_reads' HO_6.out).2.2 x8_1 p538 q538
       cases e538
       obtain ⟨ce538, hce538, hMe538, hcc538⟩ := Kd.S_get HO_6.out [] x8_1 p538 (by first | exact q538 | exact oB_ (by first | (with_reducible assumption) | assumption) | (have e_ := (Kd.S_reads' HO_6.out).1; omega))
       obtain ⟨ve538_0, rfl, ge538_0⟩ := hMe538
       have hv538_0 := hcc538 0 _ rfl
       rw [Nat.add_zero, show ((Kd.slice 3 (Kd.int .i64))).sz = 1 from rfl, Nat.mul_one] at hv538_0
       replace hv538_0 := Option.some.inj (hv538_0.symm.trans hx538_0)
       rw [hv538_0] at ge538_0
       have HL538_0 := A_ (show Kd.R (Kd.int .i64) 3 _ _ _ _ (rd_L1 t535 x8_1) from ge538_0)
       clear hv538_0 ge538_0
       clear hcc538 hce538
       have HR538_0 := A_ hi538_0
       have HC538_0 := A_ hl538_0
       clear hi538_0 hl538_0
       replace p538 := eq_true p538
       replace q538 := eq_true q538
       have hcz12_0 := cz0_ BK534.out
       have hcz12_1 := cz1_ BK534.out
       have hfz12_0 := kD_ BK534.out 0
       have hfz12_1 := kD_ BK534.out 1
       go_wp2_with (first | ((with_reducible refine gA_ (f := 62) rfl ?_); refine goesL_ (some 14) rfl rfl Try.func62 (by kernel_rfl) rfl #[.agg #[.slice A0_0 l0_0.length c0_0, .slice A0_1 l0_1.length c0_1], .slice A538_0 (rd_L1 t535 x8_1).length c538_0] rfl (by (try simp only [mA_, mB_, mC_]); first | done | rfl | (simp only [lA_, lB_]; rfl)) ?_; (with_reducible refine (Z3.calls k1 _ _ l0_0 _ _ l0_1 _ _ (rd_L1 t535 x8_1) t539 _ ?side1 ?side2 ?side3 ?side4 ?side5 ?side6 A10.out).mono ?_); (case side1 => repeat (first | exact (cD_ HR0_0.out HB.out) | (with_reducible first | refine cA_ ?_ _ | refine cB_ ?_ _ | refine cC_ ?_))); (case side2 => exact HC0_0.out); (case side3 => repeat (first | exact (cD_ HR0_1.out HB.out) | (with_reducible first | refine cA_ ?_ _ | refine cB_ ?_ _ | refine cC_ ?_))); (case side4 => exact HC0_1.out); (case side5 => repeat (first | exact (by repeat (first | (with_reducible exact HR538_0.out) | (with_reducible refine cA_ ?_ _) | (with_reducible refine cB_ ?_ _) | (with_reducible refine cC_ ?_) | exact HR538_0.out)) | (with_reducible first | refine cA_ ?_ _ | refine cB_ ?_ _ | refine cC_ ?_))); (case side6 => exact HC538_0.out); rintro e w13 ⟨rfl, hb⟩; refine ⟨_, rfl, ?_⟩; have n0_ := A_ (Kd.S_below (by (with_reducible repeat (first | apply Kd.S_alloc | apply Kd.S_drewN | apply Kd.S_drew)); exact HO_6.out) hb); have n1_ := A_ (rD_ (by (with_reducible repeat (first | apply rA_ | apply rB_ | apply rC_)); exact HL538_0.out) hb); have n2_ := A_ (kE_ (g := gb534) (by (with_reducible repeat (first | refine kA_ ?_ _ | refine kB_ ?_ | refine kC_ ?_ _)); exact BK534.out) hb); have n3_ := A_ (cD_ (by repeat (first | (with_reducible exact HR538_0.out) | (with_reducible refine cA_ ?_ _) | (with_reducible refine cB_ ?_ _) | (with_reducible refine cC_ ?_) | exact HR538_0.out)) hb); have n4_ := A_ (bE_ (by repeat (first | (with_reducible first | exact HB.out | apply bA_ | apply bB_ | apply bC_ | refine bD_ ?_ GE534.out) | exact HB.out)) hb); clear HO_6; clear HL538_0; clear BK534; clear HR538_0; clear HB; have HO_6 := n0_; have HL538_0 := n1_; have BK534 := n2_; have HR538_0 := n3_; have HB := n4_; clear n0_ n1_ n2_ n3_ n4_; (try clear hb); (try clear hb2); (try clear hk); (try clear hi)))
       go_ret
       exact ⟨by first | rfl | (simp [errW_none, errW_some] <;> rfl) | (simp [*, errW_none, errW_some] <;> rfl), by repeat (first | (with_reducible first | exact HB.out | apply bA_ | apply bB_ | apply bC_ | refine bD_ ?_ GE534.out) | exact HB.out)⟩
      ·rw [if_neg c11] at H
       have c11b0 : (t539 == 0) = false := beq_eq_false_iff_ne.mpr c11
       have c11b1 : (t539 != 0) = true := bne_iff_ne.mpr c11
       have H' := A_ H
       clear H
       have p538 : 0 ≤ (x8_1 : Int) := oB_ (by first | (with_reducible assumption) | assumption)
       have q538 : x8_1 < (t535.length : Int) := oB_ (by first | (with_reducible assumption) | assumption)
       obtain ⟨ad538, A538_0, c538_0, e538, hx538_0, hl538_0, hi538_0⟩ := at_L1 (Kd.S_reads' HO_6.out).2.2 x8_1 p538 q538
       cases e538
       obtain ⟨ce538, hce538, hMe538, hcc538⟩ := Kd.S_get HO_6.out [] x8_1 p538 (by first | exact q538 | exact oB_ (by first | (with_reducible assumption) | assumption) | (have e_ := (Kd.S_reads' HO_6.out).1; omega))
       obtain ⟨ve538_0, rfl, ge538_0⟩ := hMe538
       have hv538_0 := hcc538 0 _ rfl
       rw [Nat.add_zero, show ((Kd.slice 3 (Kd.int .i64))).sz = 1 from rfl, Nat.mul_one] at hv538_0
       replace hv538_0 := Option.some.inj (hv538_0.symm.trans hx538_0)
       rw [hv538_0] at ge538_0
       have HL538_0 := A_ (show Kd.R (Kd.int .i64) 3 _ _ _ _ (rd_L1 t535 x8_1) from ge538_0)
       clear hv538_0 ge538_0
       clear hcc538 hce538
       have HR538_0 := A_ hi538_0
       have HC538_0 := A_ hl538_0
       clear hi538_0 hl538_0
       replace p538 := eq_true p538
       replace q538 := eq_true q538
       have hcz14_0 := cz0_ BK534.out
       have hcz14_1 := cz1_ BK534.out
       have hfz14_0 := kD_ BK534.out 0
       have hfz14_1 := kD_ BK534.out 1
       go_wp2_with (first | ((with_reducible refine gA_ (f := 62) rfl ?_); refine goesL_ (some 14) rfl rfl Try.func62 (by kernel_rfl) rfl #[.agg #[.slice A0_0 l0_0.length c0_0, .slice A0_1 l0_1.length c0_1], .slice A538_0 (rd_L1 t535 x8_1).length c538_0] rfl (by (try simp only [mA_, mB_, mC_]); first | done | rfl | (simp only [lA_, lB_]; rfl)) ?_; (with_reducible refine (Z3.calls k1 _ _ l0_0 _ _ l0_1 _ _ (rd_L1 t535 x8_1) t539 _ ?side1 ?side2 ?side3 ?side4 ?side5 ?side6 A10.out).mono ?_); (case side1 => repeat (first | exact (cD_ HR0_0.out HB.out) | (with_reducible first | refine cA_ ?_ _ | refine cB_ ?_ _ | refine cC_ ?_))); (case side2 => exact HC0_0.out); (case side3 => repeat (first | exact (cD_ HR0_1.out HB.out) | (with_reducible first | refine cA_ ?_ _ | refine cB_ ?_ _ | refine cC_ ?_))); (case side4 => exact HC0_1.out); (case side5 => repeat (first | exact (by repeat (first | (with_reducible exact HR538_0.out) | (with_reducible refine cA_ ?_ _) | (with_reducible refine cB_ ?_ _) | (with_reducible refine cC_ ?_) | exact HR538_0.out)) | (with_reducible first | refine cA_ ?_ _ | refine cB_ ?_ _ | refine cC_ ?_))); (case side6 => exact HC538_0.out); rintro e w15 ⟨rfl, hb⟩; refine ⟨_, rfl, ?_⟩; have n0_ := A_ (Kd.S_below (by (with_reducible repeat (first | apply Kd.S_alloc | apply Kd.S_drewN | apply Kd.S_drew)); exact HO_6.out) hb); have n1_ := A_ (rD_ (by (with_reducible repeat (first | apply rA_ | apply rB_ | apply rC_)); exact HL538_0.out) hb); have n2_ := A_ (kE_ (g := gb534) (by (with_reducible repeat (first | refine kA_ ?_ _ | refine kB_ ?_ | refine kC_ ?_ _)); exact BK534.out) hb); have n3_ := A_ (cD_ (by repeat (first | (with_reducible exact HR538_0.out) | (with_reducible refine cA_ ?_ _) | (with_reducible refine cB_ ?_ _) | (with_reducible refine cC_ ?_) | exact HR538_0.out)) hb); have n4_ := A_ (bE_ (by repeat (first | (with_reducible first | exact HB.out | apply bA_ | apply bB_ | apply bC_ | refine bD_ ?_ GE534.out) | exact HB.out)) hb); clear HO_6; clear HL538_0; clear BK534; clear HR538_0; clear HB; have HO_6 := n0_; have HL538_0 := n1_; have BK534 := n2_; have HR538_0 := n3_; have HB := n4_; clear n0_ n1_ n2_ n3_ n4_; (try clear hb); (try clear hb2); (try clear hk); (try clear hi)))
       go_roundg k1
       case measure => have := HK1.out; omega
       case rel => exact ⟨(wrap64 (x8_1 + 1)), (by first | rfl | (simp; done) | (simp [*]; done)), H', ⟨by have := HK1.out; omega⟩, ⟨by (with_reducible repeat (first | apply Kd.S_alloc | apply Kd.S_drewN | apply Kd.S_drew)); exact HO_6.out⟩, ⟨by (with_reducible repeat (first | refine kA_ ?_ _ | refine kB_ ?_ | refine kC_ ?_ _)); exact BK534.out⟩, ⟨by repeat (first | (with_reducible first | exact HB.out | apply bA_ | apply bB_ | apply bC_ | refine bD_ ?_ GE534.out) | exact HB.out)⟩⟩
     ·rw [if_neg c9] at H
      exact absurd H (by simp)
    ·rw [if_neg c8] at H
     exact absurd H (by simp)
   ·rw [if_neg c7] at H
    have c7b0 : decide (x8_1 < (t535.length : Int)) = false := oD_ c7
    clear c7
    obtain rfl := Option.some.inj H
    go_wp2
    go_ret
    exact ⟨by first | rfl | (simp [errW_none, errW_some] <;> rfl) | (simp [*, errW_none, errW_some] <;> rfl), by repeat (first | (with_reducible first | exact HB.out | apply bA_ | apply bB_ | apply bC_ | refine bD_ ?_ GE534.out) | exact HB.out)⟩
def Z39.l0 : Nat → List Int → List Int → Int → Option (Bool)
 | 0, _, _, _ => none
 | k + 1, x0, x1, x5 => if x5 < (x0.length : Int) then (if 0 ≤ x5 then (if x5 < (x1.length : Int) then (if (rd x0 x5) = (rd x1 x5) then (Z39.l0 k x0 x1 (wrap64 (x5 + 1))) else (some false)) else (none)) else (none)) else (some true)
def Z39.f (k : Nat) (l0 : List Int) (l1 : List Int) : Option (Bool) := if (l0.length : Int) = (l1.length : Int) then (Z39.l0 k l0 l1 0) else (some false)
theorem Z39.mono_l : ∀ k, (∀ y0 y1 y2, LeO (Z39.l0 k y0 y1 y2) (Z39.l0 (k + 1) y0 y1 y2))
 | 0 => fun _ _ _ r h => by simp [Z39.l0] at h
 | k + 1 => by
  have ih0 := Z39.mono_l k
  ·intro y0 y1 y2
   unfold Z39.l0
   repeat' first
   | (with_reducible exact ih0 _ _ _)
   | (with_reducible exact LeO.refl _)
   | (with_reducible exact LeO.none _)
   | (with_reducible refine LeO.ite ?_ ?_)
   | (with_reducible refine LeO.bind ?_ (fun _ => ?_))
   | exact ih0 _ _ _
   | exact LeO.none _
   | refine LeO.ite ?_ ?_
   | refine LeO.bind ?_ (fun _ => ?_)
theorem Z39.mono : ∀ a0 a1 k, LeO (Z39.f k a0 a1) (Z39.f (k + 1) a0 a1) := by
 intro a0 a1 k
 have ih0 := Z39.mono_l k
 unfold Z39.f
 repeat' first
   | (with_reducible exact ih0 _ _ _)
   | (with_reducible exact LeO.refl _)
   | (with_reducible exact LeO.none _)
   | (with_reducible refine LeO.ite ?_ ?_)
   | (with_reducible refine LeO.bind ?_ (fun _ => ?_))
   | exact ih0 _ _ _
   | exact LeO.none _
   | refine LeO.ite ?_ ?_
   | refine LeO.bind ?_ (fun _ => ?_)
set_option maxHeartbeats 8000000 in
set_option maxRecDepth 100000 in
theorem Z39.calls (k : Nat) (A0 : Option Addr) (c0 : Nat) (l0 : List Int) (A1 : Option Addr) (c1 : Nat) (l1 : List Int) (r : Bool) (w : World) (hr0 : Kd.C (Kd.int .i64) w A0 l0.length l0) (hc0 : l0.length ≤ c0) (hr1 : Kd.C (Kd.int .i64) w A1 l1.length l1) (hc1 : l1.length ≤ c1) (h : Z39.f k l0 l1 = some r) :
  Calls Try.prog 36 #[.slice A0 l0.length c0, .slice A1 l1.length c1] w fun e w' => e = .returned (.bool r) ∧ Drawn0 w w' := by
 have HR0 := A_ hr0
 have HC0 := A_ hc0
 clear hr0 hc0
 have HR1 := A_ hr1
 have HC1 := A_ hc1
 clear hr1 hc1
 have H : (if (l0.length : Int) = (l1.length : Int) then (Z39.l0 k l0 l1 0) else (some false)) = some r := h
 clear h
 by_cases c3 : (l0.length : Int) = (l1.length : Int)
 ·rw [if_pos c3] at H
  have c3b0 : ((l0.length : Int) == (l1.length : Int)) = true := beq_iff_eq.mpr c3
  have c3b1 : ((l0.length : Int) != (l1.length : Int)) = false := bne_eq_false_iff_eq.mpr c3
  have c3b2 : (l0.length == l1.length) = true := by first | simpa using c3 | (simp at c3 ⊢; omega)
  clear c3
  have H' := A_ H
  clear H
  go_enter Try.func36, Try.ntmps36
  go_wp2
  repeat (go_quiet (fail); try go_wp2)
  go_loopg [5] k (fun kq v5 w' => ∃ (x5_1 : Int), v5 = .int .i64 x5_1 ∧ Aside0 (Z39.l0 kq l0 l1 x5_1 = some r) ∧ Aside0 (kq ≤ k) ∧ Drawn0 w w')
  case atStart => exact ⟨(0), (by first | rfl | (simp; done) | (simp [*]; done)), H', ⟨nA_ _⟩, by repeat (first | exact Drawn0.refl _ | apply Drawn0.step)⟩
  case round =>
   clear H'
   (try clear c1); (try clear p2); (try clear c3); (try clear c3b0); (try clear c3b1); (try clear c3b2)
   obtain ⟨x5_1, rfl, HA, HK1, ⟨m1, rfl⟩⟩ := hrel
   cases gk with
   | zero => exact absurd HA.out (by simp [Z39.l0])
   | succ k1 =>
    have H := HA.out
    clear HA
    simp only [Z39.l0] at H
    by_cases c4 : x5_1 < (l0.length : Int)
    ·rw [if_pos c4] at H
     have c4b0 : decide (x5_1 < (l0.length : Int)) = true := oC_ c4
     clear c4
     by_cases c5 : 0 ≤ x5_1
     ·rw [if_pos c5] at H
      have c5b0 : decide (0 ≤ x5_1) = true := oC_ c5
      clear c5
      by_cases c6 : x5_1 < (l1.length : Int)
      ·rw [if_pos c6] at H
       have c6b0 : decide (x5_1 < (l1.length : Int)) = true := oC_ c6
       clear c6
       by_cases c7 : (rd l0 x5_1) = (rd l1 x5_1)
       ·rw [if_pos c7] at H
        have c7b0 : ((rd l0 x5_1) == (rd l1 x5_1)) = true := beq_iff_eq.mpr c7
        have c7b1 : ((rd l0 x5_1) != (rd l1 x5_1)) = false := bne_eq_false_iff_eq.mpr c7
        clear c7
        have H' := A_ H
        clear H
        have p540 : 0 ≤ (x5_1 : Int) := oB_ (by first | (with_reducible assumption) | assumption)
        have q540 : x5_1 < (l0.length : Int) := oB_ (by first | (with_reducible assumption) | assumption)
        obtain ⟨ad540, e540, hx540_0⟩ := Kd.at_int HR0.out x5_1 p540 q540
        cases e540
        replace p540 := eq_true p540
        replace q540 := eq_true q540
        have p541 : 0 ≤ (x5_1 : Int) := oB_ (by first | (with_reducible assumption) | assumption)
        have q541 : x5_1 < (l1.length : Int) := oB_ (by first | (with_reducible assumption) | assumption)
        obtain ⟨ad541, e541, hx541_0⟩ := Kd.at_int HR1.out x5_1 p541 q541
        cases e541
        replace p541 := eq_true p541
        replace q541 := eq_true q541
        go_wp2
        repeat (go_quiet (fail); try go_wp2)
        go_roundg k1
        case measure => have := HK1.out; omega
        case rel => exact ⟨(wrap64 (x5_1 + 1)), (by first | rfl | (simp; done) | (simp [*]; done)), H', ⟨by have := HK1.out; omega⟩, by repeat (first | exact Drawn0.refl _ | apply Drawn0.step)⟩
       ·rw [if_neg c7] at H
        have c7b0 : ((rd l0 x5_1) == (rd l1 x5_1)) = false := beq_eq_false_iff_ne.mpr c7
        have c7b1 : ((rd l0 x5_1) != (rd l1 x5_1)) = true := bne_iff_ne.mpr c7
        obtain rfl := Option.some.inj H
        have p540 : 0 ≤ (x5_1 : Int) := oB_ (by first | (with_reducible assumption) | assumption)
        have q540 : x5_1 < (l0.length : Int) := oB_ (by first | (with_reducible assumption) | assumption)
        obtain ⟨ad540, e540, hx540_0⟩ := Kd.at_int HR0.out x5_1 p540 q540
        cases e540
        replace p540 := eq_true p540
        replace q540 := eq_true q540
        have p541 : 0 ≤ (x5_1 : Int) := oB_ (by first | (with_reducible assumption) | assumption)
        have q541 : x5_1 < (l1.length : Int) := oB_ (by first | (with_reducible assumption) | assumption)
        obtain ⟨ad541, e541, hx541_0⟩ := Kd.at_int HR1.out x5_1 p541 q541
        cases e541
        replace p541 := eq_true p541
        replace q541 := eq_true q541
        go_wp2
        repeat (go_quiet (fail); try go_wp2)
        go_ret
        exact ⟨by first | rfl | (simp; done) | (simp [*]; done), by repeat (first | exact Drawn0.refl _ | apply Drawn0.step)⟩
      ·rw [if_neg c6] at H
       exact absurd H (by simp)
     ·rw [if_neg c5] at H
      exact absurd H (by simp)
    ·rw [if_neg c4] at H
     have c4b0 : decide (x5_1 < (l0.length : Int)) = false := oD_ c4
     clear c4
     obtain rfl := Option.some.inj H
     go_wp2
     repeat (go_quiet (fail); try go_wp2)
     go_ret
     exact ⟨by first | rfl | (simp; done) | (simp [*]; done), by repeat (first | exact Drawn0.refl _ | apply Drawn0.step)⟩
 ·rw [if_neg c3] at H
  have c3b0 : ((l0.length : Int) == (l1.length : Int)) = false := beq_eq_false_iff_ne.mpr c3
  have c3b1 : ((l0.length : Int) != (l1.length : Int)) = true := bne_iff_ne.mpr c3
  have c3b2 : (l0.length == l1.length) = false := by first | simpa using c3 | (simp at c3 ⊢; omega)
  obtain rfl := Option.some.inj H
  go_enter Try.func36, Try.ntmps36
  go_wp2
  repeat (go_quiet (fail); try go_wp2)
  go_ret
  exact ⟨by first | rfl | (simp; done) | (simp [*]; done), by repeat (first | exact Drawn0.refl _ | apply Drawn0.step)⟩
def Z17.f (k : Nat) (l0_0 : List Int) (l0_1 : List Int) (l1_0 : List Int) (l1_1 : List Int) : Option (Bool) := (Z39.f k l0_0 l1_0).bind fun t544 => (if t544 = true then ((Z39.f k l0_1 l1_1).bind fun t545 => (if t545 = true then (some true) else (some false))) else (some false))
theorem Z17.mono : ∀ a0 a1 a2 a3 k, LeO (Z17.f k a0 a1 a2 a3) (Z17.f (k + 1) a0 a1 a2 a3) := by
 intro a0 a1 a2 a3 k
 unfold Z17.f
 repeat' first
   | (with_reducible exact Z39.mono _ _ _)
   | (with_reducible exact LeO.refl _)
   | (with_reducible exact LeO.none _)
   | (with_reducible refine LeO.ite ?_ ?_)
   | (with_reducible refine LeO.bind ?_ (fun _ => ?_))
   | exact Z39.mono _ _ _
   | exact LeO.none _
   | refine LeO.ite ?_ ?_
   | refine LeO.bind ?_ (fun _ => ?_)
set_option maxHeartbeats 8000000 in
set_option maxRecDepth 100000 in
theorem Z17.calls (k : Nat) (A0_0 : Option Addr) (c0_0 : Nat) (l0_0 : List Int) (A0_1 : Option Addr) (c0_1 : Nat) (l0_1 : List Int) (A1_0 : Option Addr) (c1_0 : Nat) (l1_0 : List Int) (A1_1 : Option Addr) (c1_1 : Nat) (l1_1 : List Int) (r : Bool) (w : World) (hr0_0 : Kd.C (Kd.int .i64) w A0_0 l0_0.length l0_0) (hc0_0 : l0_0.length ≤ c0_0) (hr0_1 : Kd.C (Kd.int .i64) w A0_1 l0_1.length l0_1) (hc0_1 : l0_1.length ≤ c0_1) (hr1_0 : Kd.C (Kd.int .i64) w A1_0 l1_0.length l1_0) (hc1_0 : l1_0.length ≤ c1_0) (hr1_1 : Kd.C (Kd.int .i64) w A1_1 l1_1.length l1_1) (hc1_1 : l1_1.length ≤ c1_1) (h : Z17.f k l0_0 l0_1 l1_0 l1_1 = some r) :
  Calls Try.prog 18 #[.agg #[.slice A0_0 l0_0.length c0_0, .slice A0_1 l0_1.length c0_1], .agg #[.slice A1_0 l1_0.length c1_0, .slice A1_1 l1_1.length c1_1]] w fun e w' => e = .returned (.bool r) ∧ Below w.heap.size w w' := by
 have hu27 := Try.underlying27
 have HR0_0 := A_ hr0_0
 have HC0_0 := A_ hc0_0
 clear hr0_0 hc0_0
 have HR0_1 := A_ hr0_1
 have HC0_1 := A_ hc0_1
 clear hr0_1 hc0_1
 have HR1_0 := A_ hr1_0
 have HC1_0 := A_ hc1_0
 clear hr1_0 hc1_0
 have HR1_1 := A_ hr1_1
 have HC1_1 := A_ hc1_1
 clear hr1_1 hc1_1
 have HB := A_ (Below.refl w.heap.size w)
 have H : ((Z39.f k l0_0 l1_0).bind fun t544 => (if t544 = true then ((Z39.f k l0_1 l1_1).bind fun t545 => (if t545 = true then (some true) else (some false))) else (some false))) = some r := h
 clear h
 replace H := Option.bind_eq_some_iff.mp H
 obtain ⟨t544, A30, H⟩ := H
 replace H : (if t544 = true then ((Z39.f k l0_1 l1_1).bind fun t545 => (if t545 = true then (some true) else (some false))) else (some false)) = some r := H
 have A3 := A_ A30
 clear A30
 by_cases c4 : t544 = true
 ·subst c4
  have H1 : ((Z39.f k l0_1 l1_1).bind fun t545 => (if t545 = true then (some true) else (some false))) = some r := by rw [if_pos rfl] at H; exact H
  clear H
  have H := H1
  clear H1
  replace H := Option.bind_eq_some_iff.mp H
  obtain ⟨t545, A50, H⟩ := H
  replace H : (if t545 = true then (some true) else (some false)) = some r := H
  have A5 := A_ A50
  clear A50
  by_cases c6 : t545 = true
  ·subst c6
   have H1 : (some true) = some r := by rw [if_pos rfl] at H; exact H
   clear H
   have H := H1
   clear H1
   obtain rfl := Option.some.inj H
   go_enter Try.func18, Try.ntmps18
   go_wp2_with (first | ((with_reducible refine gB_ (N := 2) rfl ?_); refine xA_ ?hg (N := 2) ?hd (cs := #[.slice A0_0 l0_0.length c0_0, .slice A0_1 l0_1.length c0_1]) (t := 27) ?hr ?_; (case hd => rfl); (case hg => rfl); (case hr => first | (go_simp; done) | (go_simp; rfl)); intro gb542 hg w7 hbox hb; have n0_ := A_ (bE_ (by repeat (first | (with_reducible first | exact HB.out | apply bA_ | apply bB_ | apply bC_) | exact HB.out)) hb); have n1_ := A_ (hbox); have n2_ := A_ ((by rw [hg]; exact (bF_ (by repeat (first | (with_reducible first | exact HB.out | apply bA_ | apply bB_ | apply bC_) | exact HB.out))) : w.heap.size ≤ gb542)); have n3_ := A_ ((by rw [hg]; exact (bF_ (by repeat (first | (with_reducible first | exact HB.out | apply bA_ | apply bB_ | apply bC_) | exact HB.out))) : w.heap.size ≤ gb542)); clear HB; have HB := n0_; have BK542 := n1_; have GW542 := n2_; have GE542 := n3_; clear n0_ n1_ n2_ n3_; clear hb hbox hg) | ((with_reducible refine gB_ (N := 3) rfl ?_); refine xA_ ?hg (N := 3) ?hd (cs := #[.slice A1_0 l1_0.length c1_0, .slice A1_1 l1_1.length c1_1]) (t := 27) ?hr ?_; (case hd => rfl); (case hg => rfl); (case hr => first | (go_simp; done) | (go_simp; rfl)); intro gb543 hg w8 hbox hb; have n0_ := A_ (kE_ (g := gb542) (by (with_reducible repeat (first | refine kA_ ?_ _ | refine kB_ ?_ | refine kC_ ?_ _)); exact BK542.out) hb); have n1_ := A_ (bE_ (by repeat (first | (with_reducible first | exact HB.out | apply bA_ | apply bB_ | apply bC_ | refine bD_ ?_ GE542.out) | exact HB.out)) hb); have n2_ := A_ (hbox); have n3_ := A_ ((by rw [hg]; exact (bF_ (by repeat (first | (with_reducible first | exact HB.out | apply bA_ | apply bB_ | apply bC_ | refine bD_ ?_ GE542.out) | exact HB.out))) : w.heap.size ≤ gb543)); have n4_ := A_ ((by rw [hg]; exact (bF_ (by repeat (first | (with_reducible first | exact HB.out | apply bA_ | apply bB_ | apply bC_ | refine bD_ ?_ GE542.out) | exact HB.out))) : w.heap.size ≤ gb543)); have n5_ := A_ ((by rw [hg]; exact Nat.ne_of_lt (blk_lt (g := gb542) (o := .cells #[.slice A0_0 l0_0.length c0_0, .slice A0_1 l0_1.length c0_1] 27 (0, 0)) (by (with_reducible repeat (first | refine kA_ ?_ _ | refine kB_ ?_ | refine kC_ ?_ _)); exact BK542.out)) : gb542 ≠ gb543)); have n6_ := A_ ((by rw [hg]; exact Nat.ne_of_gt (blk_lt (g := gb542) (o := .cells #[.slice A0_0 l0_0.length c0_0, .slice A0_1 l0_1.length c0_1] 27 (0, 0)) (by (with_reducible repeat (first | refine kA_ ?_ _ | refine kB_ ?_ | refine kC_ ?_ _)); exact BK542.out)) : gb543 ≠ gb542)); clear BK542; clear HB; have BK542 := n0_; have HB := n1_; have BK543 := n2_; have GW543 := n3_; have GE543 := n4_; have NB542_543 := n5_; have NB543_542 := n6_; clear n0_ n1_ n2_ n3_ n4_ n5_ n6_; clear hb hbox hg; have hnb9 := NB542_543.out; have hnc9 := NB543_542.out; have hcz10_0 := cz0_ BK542.out; have hcz10_1 := cz1_ BK542.out; have hfz10_0 := kD_ BK542.out 0; have hfz10_1 := kD_ BK542.out 1; have hcz11_0 := cz0_ BK543.out; have hcz11_1 := cz1_ BK543.out; have hfz11_0 := kD_ BK543.out 0; have hfz11_1 := kD_ BK543.out 1) | ((with_reducible refine gA_ (f := 36) rfl ?_); refine goesL_ (some 9) rfl rfl Try.func36 (by kernel_rfl) rfl #[.slice A0_0 l0_0.length c0_0, .slice A1_0 l1_0.length c1_0] rfl (by (try simp only [mA_, mB_, mC_]); first | done | rfl | (simp only [lA_, lB_]; rfl)) ?_; (with_reducible refine (Z39.calls k _ _ l0_0 _ _ l1_0 true _ ?side1 ?side2 ?side3 ?side4 A3.out).mono ?_); (case side1 => repeat (first | exact (cD_ HR0_0.out HB.out) | (with_reducible first | refine cA_ ?_ _ | refine cB_ ?_ _ | refine cC_ ?_))); (case side2 => exact HC0_0.out); (case side3 => repeat (first | exact (cD_ HR1_0.out HB.out) | (with_reducible first | refine cA_ ?_ _ | refine cB_ ?_ _ | refine cC_ ?_))); (case side4 => exact HC1_0.out); rintro e w' ⟨rfl, ⟨nd, rfl⟩⟩; refine ⟨_, rfl, ?_⟩) | ((with_reducible refine gA_ (f := 36) rfl ?_); refine goesL_ (some 15) rfl rfl Try.func36 (by kernel_rfl) rfl #[.slice A0_1 l0_1.length c0_1, .slice A1_1 l1_1.length c1_1] rfl (by (try simp only [mA_, mB_, mC_]); first | done | rfl | (simp only [lA_, lB_]; rfl)) ?_; (with_reducible refine (Z39.calls k _ _ l0_1 _ _ l1_1 true _ ?side1 ?side2 ?side3 ?side4 A5.out).mono ?_); (case side1 => repeat (first | exact (cD_ HR0_1.out (by repeat (first | (with_reducible first | exact HB.out | apply bA_ | apply bB_ | apply bC_ | refine bD_ ?_ GE542.out | refine bD_ ?_ GE543.out) | exact HB.out))) | (with_reducible first | refine cA_ ?_ _ | refine cB_ ?_ _ | refine cC_ ?_))); (case side2 => exact HC0_1.out); (case side3 => repeat (first | exact (cD_ HR1_1.out (by repeat (first | (with_reducible first | exact HB.out | apply bA_ | apply bB_ | apply bC_ | refine bD_ ?_ GE542.out | refine bD_ ?_ GE543.out) | exact HB.out))) | (with_reducible first | refine cA_ ?_ _ | refine cB_ ?_ _ | refine cC_ ?_))); (case side4 => exact HC1_1.out); rintro e w' ⟨rfl, ⟨nd, rfl⟩⟩; refine ⟨_, rfl, ?_⟩))
   go_ret
   exact ⟨by first | rfl | (simp [errW_none, errW_some] <;> rfl) | (simp [*, errW_none, errW_some] <;> rfl), by repeat (first | (with_reducible first | exact HB.out | apply bA_ | apply bB_ | apply bC_ | refine bD_ ?_ GE542.out | refine bD_ ?_ GE543.out) | exact HB.out)⟩
  ·replace c6 := Bool.eq_false_iff.mpr c6
   subst c6
   have H1 : (some false) = some r := by rw [if_neg (show ¬ (false = true) by decide)] at H; exact H
   clear H
   have H := H1
   clear H1
   obtain rfl := Option.some.inj H
   go_enter Try.func18, Try.ntmps18
   go_wp2_with (first | ((with_reducible refine gB_ (N := 2) rfl ?_); refine xA_ ?hg (N := 2) ?hd (cs := #[.slice A0_0 l0_0.length c0_0, .slice A0_1 l0_1.length c0_1]) (t := 27) ?hr ?_; (case hd => rfl); (case hg => rfl); (case hr => first | (go_simp; done) | (go_simp; rfl)); intro gb542 hg w12 hbox hb; have n0_ := A_ (bE_ (by repeat (first | (with_reducible first | exact HB.out | apply bA_ | apply bB_ | apply bC_) | exact HB.out)) hb); have n1_ := A_ (hbox); have n2_ := A_ ((by rw [hg]; exact (bF_ (by repeat (first | (with_reducible first | exact HB.out | apply bA_ | apply bB_ | apply bC_) | exact HB.out))) : w.heap.size ≤ gb542)); have n3_ := A_ ((by rw [hg]; exact (bF_ (by repeat (first | (with_reducible first | exact HB.out | apply bA_ | apply bB_ | apply bC_) | exact HB.out))) : w.heap.size ≤ gb542)); clear HB; have HB := n0_; have BK542 := n1_; have GW542 := n2_; have GE542 := n3_; clear n0_ n1_ n2_ n3_; clear hb hbox hg) | ((with_reducible refine gB_ (N := 3) rfl ?_); refine xA_ ?hg (N := 3) ?hd (cs := #[.slice A1_0 l1_0.length c1_0, .slice A1_1 l1_1.length c1_1]) (t := 27) ?hr ?_; (case hd => rfl); (case hg => rfl); (case hr => first | (go_simp; done) | (go_simp; rfl)); intro gb543 hg w13 hbox hb; have n0_ := A_ (kE_ (g := gb542) (by (with_reducible repeat (first | refine kA_ ?_ _ | refine kB_ ?_ | refine kC_ ?_ _)); exact BK542.out) hb); have n1_ := A_ (bE_ (by repeat (first | (with_reducible first | exact HB.out | apply bA_ | apply bB_ | apply bC_ | refine bD_ ?_ GE542.out) | exact HB.out)) hb); have n2_ := A_ (hbox); have n3_ := A_ ((by rw [hg]; exact (bF_ (by repeat (first | (with_reducible first | exact HB.out | apply bA_ | apply bB_ | apply bC_ | refine bD_ ?_ GE542.out) | exact HB.out))) : w.heap.size ≤ gb543)); have n4_ := A_ ((by rw [hg]; exact (bF_ (by repeat (first | (with_reducible first | exact HB.out | apply bA_ | apply bB_ | apply bC_ | refine bD_ ?_ GE542.out) | exact HB.out))) : w.heap.size ≤ gb543)); have n5_ := A_ ((by rw [hg]; exact Nat.ne_of_lt (blk_lt (g := gb542) (o := .cells #[.slice A0_0 l0_0.length c0_0, .slice A0_1 l0_1.length c0_1] 27 (0, 0)) (by (with_reducible repeat (first | refine kA_ ?_ _ | refine kB_ ?_ | refine kC_ ?_ _)); exact BK542.out)) : gb542 ≠ gb543)); have n6_ := A_ ((by rw [hg]; exact Nat.ne_of_gt (blk_lt (g := gb542) (o := .cells #[.slice A0_0 l0_0.length c0_0, .slice A0_1 l0_1.length c0_1] 27 (0, 0)) (by (with_reducible repeat (first | refine kA_ ?_ _ | refine kB_ ?_ | refine kC_ ?_ _)); exact BK542.out)) : gb543 ≠ gb542)); clear BK542; clear HB; have BK542 := n0_; have HB := n1_; have BK543 := n2_; have GW543 := n3_; have GE543 := n4_; have NB542_543 := n5_; have NB543_542 := n6_; clear n0_ n1_ n2_ n3_ n4_ n5_ n6_; clear hb hbox hg; have hnb14 := NB542_543.out; have hnc14 := NB543_542.out; have hcz15_0 := cz0_ BK542.out; have hcz15_1 := cz1_ BK542.out; have hfz15_0 := kD_ BK542.out 0; have hfz15_1 := kD_ BK542.out 1; have hcz16_0 := cz0_ BK543.out; have hcz16_1 := cz1_ BK543.out; have hfz16_0 := kD_ BK543.out 0; have hfz16_1 := kD_ BK543.out 1) | ((with_reducible refine gA_ (f := 36) rfl ?_); refine goesL_ (some 9) rfl rfl Try.func36 (by kernel_rfl) rfl #[.slice A0_0 l0_0.length c0_0, .slice A1_0 l1_0.length c1_0] rfl (by (try simp only [mA_, mB_, mC_]); first | done | rfl | (simp only [lA_, lB_]; rfl)) ?_; (with_reducible refine (Z39.calls k _ _ l0_0 _ _ l1_0 true _ ?side1 ?side2 ?side3 ?side4 A3.out).mono ?_); (case side1 => repeat (first | exact (cD_ HR0_0.out HB.out) | (with_reducible first | refine cA_ ?_ _ | refine cB_ ?_ _ | refine cC_ ?_))); (case side2 => exact HC0_0.out); (case side3 => repeat (first | exact (cD_ HR1_0.out HB.out) | (with_reducible first | refine cA_ ?_ _ | refine cB_ ?_ _ | refine cC_ ?_))); (case side4 => exact HC1_0.out); rintro e w' ⟨rfl, ⟨nd, rfl⟩⟩; refine ⟨_, rfl, ?_⟩) | ((with_reducible refine gA_ (f := 36) rfl ?_); refine goesL_ (some 15) rfl rfl Try.func36 (by kernel_rfl) rfl #[.slice A0_1 l0_1.length c0_1, .slice A1_1 l1_1.length c1_1] rfl (by (try simp only [mA_, mB_, mC_]); first | done | rfl | (simp only [lA_, lB_]; rfl)) ?_; (with_reducible refine (Z39.calls k _ _ l0_1 _ _ l1_1 false _ ?side1 ?side2 ?side3 ?side4 A5.out).mono ?_); (case side1 => repeat (first | exact (cD_ HR0_1.out (by repeat (first | (with_reducible first | exact HB.out | apply bA_ | apply bB_ | apply bC_ | refine bD_ ?_ GE542.out | refine bD_ ?_ GE543.out) | exact HB.out))) | (with_reducible first | refine cA_ ?_ _ | refine cB_ ?_ _ | refine cC_ ?_))); (case side2 => exact HC0_1.out); (case side3 => repeat (first | exact (cD_ HR1_1.out (by repeat (first | (with_reducible first | exact HB.out | apply bA_ | apply bB_ | apply bC_ | refine bD_ ?_ GE542.out | refine bD_ ?_ GE543.out) | exact HB.out))) | (with_reducible first | refine cA_ ?_ _ | refine cB_ ?_ _ | refine cC_ ?_))); (case side4 => exact HC1_1.out); rintro e w' ⟨rfl, ⟨nd, rfl⟩⟩; refine ⟨_, rfl, ?_⟩))
   go_ret
   exact ⟨by first | rfl | (simp [errW_none, errW_some] <;> rfl) | (simp [*, errW_none, errW_some] <;> rfl), by repeat (first | (with_reducible first | exact HB.out | apply bA_ | apply bB_ | apply bC_ | refine bD_ ?_ GE542.out | refine bD_ ?_ GE543.out) | exact HB.out)⟩
 ·replace c4 := Bool.eq_false_iff.mpr c4
  subst c4
  have H1 : (some false) = some r := by rw [if_neg (show ¬ (false = true) by decide)] at H; exact H
  clear H
  have H := H1
  clear H1
  obtain rfl := Option.some.inj H
  go_enter Try.func18, Try.ntmps18
  go_wp2_with (first | ((with_reducible refine gB_ (N := 2) rfl ?_); refine xA_ ?hg (N := 2) ?hd (cs := #[.slice A0_0 l0_0.length c0_0, .slice A0_1 l0_1.length c0_1]) (t := 27) ?hr ?_; (case hd => rfl); (case hg => rfl); (case hr => first | (go_simp; done) | (go_simp; rfl)); intro gb542 hg w17 hbox hb; have n0_ := A_ (bE_ (by repeat (first | (with_reducible first | exact HB.out | apply bA_ | apply bB_ | apply bC_) | exact HB.out)) hb); have n1_ := A_ (hbox); have n2_ := A_ ((by rw [hg]; exact (bF_ (by repeat (first | (with_reducible first | exact HB.out | apply bA_ | apply bB_ | apply bC_) | exact HB.out))) : w.heap.size ≤ gb542)); have n3_ := A_ ((by rw [hg]; exact (bF_ (by repeat (first | (with_reducible first | exact HB.out | apply bA_ | apply bB_ | apply bC_) | exact HB.out))) : w.heap.size ≤ gb542)); clear HB; have HB := n0_; have BK542 := n1_; have GW542 := n2_; have GE542 := n3_; clear n0_ n1_ n2_ n3_; clear hb hbox hg) | ((with_reducible refine gB_ (N := 3) rfl ?_); refine xA_ ?hg (N := 3) ?hd (cs := #[.slice A1_0 l1_0.length c1_0, .slice A1_1 l1_1.length c1_1]) (t := 27) ?hr ?_; (case hd => rfl); (case hg => rfl); (case hr => first | (go_simp; done) | (go_simp; rfl)); intro gb543 hg w18 hbox hb; have n0_ := A_ (kE_ (g := gb542) (by (with_reducible repeat (first | refine kA_ ?_ _ | refine kB_ ?_ | refine kC_ ?_ _)); exact BK542.out) hb); have n1_ := A_ (bE_ (by repeat (first | (with_reducible first | exact HB.out | apply bA_ | apply bB_ | apply bC_ | refine bD_ ?_ GE542.out) | exact HB.out)) hb); have n2_ := A_ (hbox); have n3_ := A_ ((by rw [hg]; exact (bF_ (by repeat (first | (with_reducible first | exact HB.out | apply bA_ | apply bB_ | apply bC_ | refine bD_ ?_ GE542.out) | exact HB.out))) : w.heap.size ≤ gb543)); have n4_ := A_ ((by rw [hg]; exact (bF_ (by repeat (first | (with_reducible first | exact HB.out | apply bA_ | apply bB_ | apply bC_ | refine bD_ ?_ GE542.out) | exact HB.out))) : w.heap.size ≤ gb543)); have n5_ := A_ ((by rw [hg]; exact Nat.ne_of_lt (blk_lt (g := gb542) (o := .cells #[.slice A0_0 l0_0.length c0_0, .slice A0_1 l0_1.length c0_1] 27 (0, 0)) (by (with_reducible repeat (first | refine kA_ ?_ _ | refine kB_ ?_ | refine kC_ ?_ _)); exact BK542.out)) : gb542 ≠ gb543)); have n6_ := A_ ((by rw [hg]; exact Nat.ne_of_gt (blk_lt (g := gb542) (o := .cells #[.slice A0_0 l0_0.length c0_0, .slice A0_1 l0_1.length c0_1] 27 (0, 0)) (by (with_reducible repeat (first | refine kA_ ?_ _ | refine kB_ ?_ | refine kC_ ?_ _)); exact BK542.out)) : gb543 ≠ gb542)); clear BK542; clear HB; have BK542 := n0_; have HB := n1_; have BK543 := n2_; have GW543 := n3_; have GE543 := n4_; have NB542_543 := n5_; have NB543_542 := n6_; clear n0_ n1_ n2_ n3_ n4_ n5_ n6_; clear hb hbox hg; have hnb19 := NB542_543.out; have hnc19 := NB543_542.out; have hcz20_0 := cz0_ BK542.out; have hcz20_1 := cz1_ BK542.out; have hfz20_0 := kD_ BK542.out 0; have hfz20_1 := kD_ BK542.out 1; have hcz21_0 := cz0_ BK543.out; have hcz21_1 := cz1_ BK543.out; have hfz21_0 := kD_ BK543.out 0; have hfz21_1 := kD_ BK543.out 1) | ((with_reducible refine gA_ (f := 36) rfl ?_); refine goesL_ (some 9) rfl rfl Try.func36 (by kernel_rfl) rfl #[.slice A0_0 l0_0.length c0_0, .slice A1_0 l1_0.length c1_0] rfl (by (try simp only [mA_, mB_, mC_]); first | done | rfl | (simp only [lA_, lB_]; rfl)) ?_; (with_reducible refine (Z39.calls k _ _ l0_0 _ _ l1_0 false _ ?side1 ?side2 ?side3 ?side4 A3.out).mono ?_); (case side1 => repeat (first | exact (cD_ HR0_0.out HB.out) | (with_reducible first | refine cA_ ?_ _ | refine cB_ ?_ _ | refine cC_ ?_))); (case side2 => exact HC0_0.out); (case side3 => repeat (first | exact (cD_ HR1_0.out HB.out) | (with_reducible first | refine cA_ ?_ _ | refine cB_ ?_ _ | refine cC_ ?_))); (case side4 => exact HC1_0.out); rintro e w' ⟨rfl, ⟨nd, rfl⟩⟩; refine ⟨_, rfl, ?_⟩))
  go_ret
  exact ⟨by first | rfl | (simp [errW_none, errW_some] <;> rfl) | (simp [*, errW_none, errW_some] <;> rfl), by repeat (first | (with_reducible first | exact HB.out | apply bA_ | apply bB_ | apply bC_ | refine bD_ ?_ GE542.out | refine bD_ ?_ GE543.out) | exact HB.out)⟩
end Go.Proofs.Ytbdnellgioimbaa.A
end
section
/- What a call made lies apart from what was there. No conditions. -/
namespace Go.Proofs.Ytbdnellgioimbaa.M
open Go.RowKit Go.Proofs.YtbdnellgioimbaaW.PrintWords Go.Proofs.YtbdnellgioimbaaW.PrintLast Go.Proofs.YtbdnellgioimbaaW.PrintMore
theorem fresh_R {α : Type} {d : Kd α} {e b b0 : Nat} {w : World} {ok : Nat → Prop} {v : Value} {xs : List α} (h : d.R e w b ok v xs) (hb : b0 ≤ b) : d.R e w b0 (fun k => b ≤ k ∧ k < w.heap.size) v xs :=
 Kd.R_lower (Kd.R_mono (Kd.R_bound h) (fun _ hk => ⟨hk.2.1, hk.2.2.1⟩)) hb
theorem box_store {w0 W : World} {g t : Nat} {cs : Array Value} (hb : W.heap[g]? = some (.cells cs t (0, 0))) (x y : Value) (hB : Below w0.heap.size w0 W) (hg : w0.heap.size ≤ g) :
  ((W.setCell ⟨g, 0, none⟩ x).setCell ⟨g, 1, none⟩ y).heap[g]? = some (.cells ((cs.setIfInBounds 0 x).setIfInBounds 1 y) t (0, 0)) ∧ Kept W ((W.setCell ⟨g, 0, none⟩ x).setCell ⟨g, 1, none⟩ y) (fun k => k = g) ∧ Below w0.heap.size w0 ((W.setCell ⟨g, 0, none⟩ x).setCell ⟨g, 1, none⟩ y) :=
 ⟨blk_set (blk_set hb 0 x) 1 y, Kept.setCell (p := ⟨g, 1, none⟩) (Kept.setCell (p := ⟨g, 0, none⟩) (Kept.refl W (fun k => k = g)) (.inl rfl) x) (.inl rfl) y, below_set (below_set hB hg) hg⟩
end Go.Proofs.Ytbdnellgioimbaa.M
end
section
namespace Go.Proofs.Ytbdnellgioimbaa.A
open Go.RowKit Go.Proofs.YtbdnellgioimbaaW.PrintWords Go.Proofs.YtbdnellgioimbaaW.PrintLast Go.Proofs.YtbdnellgioimbaaW.PrintMore Go.Proofs.Ytbdnellgioimbaa.M
set_option linter.unusedVariables false
set_option linter.unusedSimpArgs false
def Z0.F (k : Nat) (l0_0 : List Int) (l0_1 : List Int) : Prop := ∃ s0 : Int, Z18.f l0_0 l0_1 1048576 = some s0 ∧ (s0 < 0 ∨ (¬ s0 < 0 ∧ (∃ (r0 : Bool), Z19.f k l0_0 l0_1 = some (l0_0, l0_1) ∧ Z17.f k l0_0 l0_1 l0_0 l0_1 = some true ∧ Z2.f k l0_0 l0_1 = some r0 ∧ Z1.f k l0_0 l0_1 = some r0)))
set_option maxHeartbeats 8000000 in
set_option maxRecDepth 100000 in
theorem Z0.calls (k : Nat) (A0_0 : Option Addr) (c0_0 : Nat) (l0_0 : List Int) (A0_1 : Option Addr) (c0_1 : Nat) (l0_1 : List Int) (w : World) (hr0_0 : Kd.C (Kd.int .i64) w A0_0 l0_0.length l0_0) (hc0_0 : l0_0.length ≤ c0_0) (hr0_1 : Kd.C (Kd.int .i64) w A0_1 l0_1.length l0_1) (hc0_1 : l0_1.length ≤ c0_1) (h : Z0.F k l0_0 l0_1) :
  Calls Try.prog 3 #[.agg #[.slice A0_0 l0_0.length c0_0, .slice A0_1 l0_1.length c0_1]] w fun e w' => e = .returned (.bool true) ∧ Below w.heap.size w w' := by
 have hu24 := Try.underlying24
 have hu27 := Try.underlying27
 have HR0_0 := A_ hr0_0; have HC0_0 := A_ hc0_0; clear hr0_0 hc0_0
 have HR0_1 := A_ hr0_1; have HC0_1 := A_ hc0_1; clear hr0_1 hc0_1
 have HB := A_ (Below.refl w.heap.size w)
 unfold Z0.F at h
 obtain ⟨s0, FZ0, h⟩ := h
 replace FZ0 := A_ FZ0
 rcases h with hneg | ⟨hneg, h⟩
 ·have hq0 : decide (s0 < 0) = true := oC_ hneg
  go_enter Try.func3, Try.ntmps3
  go_upto_region 2 with (first | ((with_reducible refine gB_ (N := 1) rfl ?_); refine xA_ ?hg (N := 1) ?hd (cs := #[.slice A0_0 l0_0.length c0_0, .slice A0_1 l0_1.length c0_1]) (t := 24) ?hr ?_; (case hd => rfl); (case hg => rfl); (case hr => first | (go_simp; done) | (go_simp; rfl)); intro gbp0 hg w1 hbox hb; have HBo := HB.out; have n_ := A_ (below_then HBo HBo.size hb); clear HB; have HB := n_; clear n_; have HSw1 := A_ hb.size; have BKp0 := A_ hbox; have GIp0 := A_ (show w.heap.size ≤ gbp0 ∧ gbp0 < w1.heap.size from ⟨by omega, blk_lt hbox⟩); have GEp0 := A_ (show w.heap.size ≤ gbp0 from by have := HBo.size; omega); clear hb hbox hg HBo; have hczp0_0 := cz0_ BKp0.out; have hczp0_1 := cz1_ BKp0.out; have hfzp0_0 := kD_ BKp0.out 0; have hfzp0_1 := kD_ BKp0.out 1))
  go_wp2_with (first | ((with_reducible refine gA_ (f := 14) rfl ?_); refine goesL_ _ rfl rfl Try.func14 (by kernel_rfl) rfl #[.agg #[.slice A0_0 l0_0.length c0_0, .slice A0_1 l0_1.length c0_1], .int .i64 1048576] rfl (by (try simp only [mA_, mB_, mC_]); first | done | rfl) ?_; have HBo := HB.out; refine (Z18.calls A0_0 c0_0 l0_0 A0_1 c0_1 l0_1 1048576 s0 _ (cD_ HR0_0.out HB.out) HC0_0.out (cD_ HR0_1.out HB.out) HC0_1.out FZ0.out).mono ?_; rintro e w2 ⟨rfl, hb0⟩; refine ⟨_, rfl, ?_⟩; clear hczp0_0 hfzp0_0 hczp0_1 hfzp0_1; have n_ := A_ (kE_ BKp0.out hb0); clear BKp0; have BKp0 := n_; clear n_; have n_ := A_ (below_then HBo HBo.size hb0); clear HB; have HB := n_; clear n_; have HSw2 := A_ hb0.size; clear hb0 HBo; have hczp0_0 := cz0_ BKp0.out; have hczp0_1 := cz1_ BKp0.out; have hfzp0_0 := kD_ BKp0.out 0; have hfzp0_1 := kD_ BKp0.out 1))
  go_ret
  exact ⟨rfl, HB.out⟩
 have hq0 : decide (s0 < 0) = false := oD_ hneg
 clear hneg
 obtain ⟨r0, FS0, FE0, FW, FG⟩ := h
 replace FS0 := A_ FS0
 replace FE0 := A_ FE0
 replace FW := A_ FW
 replace FG := A_ FG
 go_enter Try.func3, Try.ntmps3
 go_upto_region 2 with (first | ((with_reducible refine gB_ (N := 1) rfl ?_); refine xA_ ?hg (N := 1) ?hd (cs := #[.slice A0_0 l0_0.length c0_0, .slice A0_1 l0_1.length c0_1]) (t := 24) ?hr ?_; (case hd => rfl); (case hg => rfl); (case hr => first | (go_simp; done) | (go_simp; rfl)); intro gbp0 hg w1 hbox hb; have HBo := HB.out; have n_ := A_ (below_then HBo HBo.size hb); clear HB; have HB := n_; clear n_; have HSw1 := A_ hb.size; have BKp0 := A_ hbox; have GIp0 := A_ (show w.heap.size ≤ gbp0 ∧ gbp0 < w1.heap.size from ⟨by omega, blk_lt hbox⟩); have GEp0 := A_ (show w.heap.size ≤ gbp0 from by have := HBo.size; omega); clear hb hbox hg HBo; have hczp0_0 := cz0_ BKp0.out; have hczp0_1 := cz1_ BKp0.out; have hfzp0_0 := kD_ BKp0.out 0; have hfzp0_1 := kD_ BKp0.out 1))
 go_upto_region 5 with (first | ((with_reducible refine gA_ (f := 14) rfl ?_); refine goesL_ _ rfl rfl Try.func14 (by kernel_rfl) rfl #[.agg #[.slice A0_0 l0_0.length c0_0, .slice A0_1 l0_1.length c0_1], .int .i64 1048576] rfl (by (try simp only [mA_, mB_, mC_]); first | done | rfl) ?_; have HBo := HB.out; refine (Z18.calls A0_0 c0_0 l0_0 A0_1 c0_1 l0_1 1048576 s0 _ (cD_ HR0_0.out HB.out) HC0_0.out (cD_ HR0_1.out HB.out) HC0_1.out FZ0.out).mono ?_; rintro e w2 ⟨rfl, hb0⟩; refine ⟨_, rfl, ?_⟩; clear hczp0_0 hfzp0_0 hczp0_1 hfzp0_1; have n_ := A_ (kE_ BKp0.out hb0); clear BKp0; have BKp0 := n_; clear n_; have n_ := A_ (below_then HBo HBo.size hb0); clear HB; have HB := n_; clear n_; have HSw2 := A_ hb0.size; clear hb0 HBo; have hczp0_0 := cz0_ BKp0.out; have hczp0_1 := cz1_ BKp0.out; have hfzp0_0 := kD_ BKp0.out 0; have hfzp0_1 := kD_ BKp0.out 1))
 go_upto_region 6 with (first | ((with_reducible refine gA_ (f := 16) rfl ?_); refine goesL_ _ rfl rfl Try.func16 (by kernel_rfl) rfl #[.agg #[.slice A0_0 l0_0.length c0_0, .slice A0_1 l0_1.length c0_1]] rfl (by (try simp only [mA_, mB_, mC_]); first | done | rfl) ?_; have HBo := HB.out; refine (Z19.calls k A0_0 c0_0 l0_0 A0_1 c0_1 l0_1 l0_0 l0_1 _ (cD_ HR0_0.out HB.out) HC0_0.out (cD_ HR0_1.out HB.out) HC0_1.out FS0.out).mono ?_; rintro e w3 ⟨v0_, v1_, rfl, h0_, h1_, hb0⟩; refine ⟨_, rfl, ?_⟩; clear hczp0_0 hfzp0_0 hczp0_1 hfzp0_1; have n_ := A_ (kE_ BKp0.out hb0); clear BKp0; have BKp0 := n_; clear n_; have n_ := A_ (below_then HBo HBo.size hb0); clear HB; have HB := n_; clear n_; have HSw3 := A_ hb0.size; have NE1 := A_ h0_.1; have Hx1a := A_ (fresh_R (b0 := w.heap.size) h0_ HBo.size); clear h0_; obtain ⟨Ax1a, cx1a, ex1a⟩ := Kd.R_slice Hx1a.out; subst ex1a; have Hx1b := A_ (fresh_R (b0 := w.heap.size) h1_ HBo.size); clear h1_; obtain ⟨Ax1b, cx1b, ex1b⟩ := Kd.R_slice Hx1b.out; subst ex1b; clear hb0 HBo; have hczp0_0 := cz0_ BKp0.out; have hczp0_1 := cz1_ BKp0.out; have hfzp0_0 := kD_ BKp0.out 0; have hfzp0_1 := kD_ BKp0.out 1) | ((with_reducible refine gA_ (f := 15) rfl ?_); refine goesL_ _ rfl rfl Try.func15 (by kernel_rfl) rfl #[.agg #[.slice Ax1a l0_0.length cx1a, .slice Ax1b l0_1.length cx1b]] rfl (by (try simp only [mA_, mB_, mC_]); first | done | rfl) ?_; have HBo := HB.out; refine (Z2.calls k Ax1a cx1a l0_0 Ax1b cx1b l0_1 r0 _ (Kd.R_reads' Hx1a.out).2.2 (Kd.R_reads' Hx1a.out).2.1 (Kd.R_reads' Hx1b.out).2.2 (Kd.R_reads' Hx1b.out).2.1 FW.out).mono ?_; rintro e w4 ⟨rfl, hb0⟩; refine ⟨_, rfl, ?_⟩; clear hczp0_0 hfzp0_0 hczp0_1 hfzp0_1; have n_ := A_ (kE_ BKp0.out hb0); clear BKp0; have BKp0 := n_; clear n_; have n_ := A_ (rD_ Hx1a.out hb0); clear Hx1a; have Hx1a := n_; clear n_; have n_ := A_ (rD_ Hx1b.out hb0); clear Hx1b; have Hx1b := n_; clear n_; have n_ := A_ (below_then HBo HBo.size hb0); clear HB; have HB := n_; clear n_; have HSw4 := A_ hb0.size; clear hb0 HBo; have hczp0_0 := cz0_ BKp0.out; have hczp0_1 := cz1_ BKp0.out; have hfzp0_0 := kD_ BKp0.out 0; have hfzp0_1 := kD_ BKp0.out 1; clear Hx1a Hx1b))
 go_upto_region 7 with (first | ((with_reducible refine gA_ (f := 16) rfl ?_); refine goesL_ _ rfl rfl Try.func16 (by kernel_rfl) rfl #[.agg #[.slice A0_0 l0_0.length c0_0, .slice A0_1 l0_1.length c0_1]] rfl (by (try simp only [mA_, mB_, mC_]); first | done | rfl) ?_; have HBo := HB.out; refine (Z19.calls k A0_0 c0_0 l0_0 A0_1 c0_1 l0_1 l0_0 l0_1 _ (cD_ HR0_0.out HB.out) HC0_0.out (cD_ HR0_1.out HB.out) HC0_1.out FS0.out).mono ?_; rintro e w5 ⟨v0_, v1_, rfl, h0_, h1_, hb0⟩; refine ⟨_, rfl, ?_⟩; clear hczp0_0 hfzp0_0 hczp0_1 hfzp0_1; have n_ := A_ (kE_ BKp0.out hb0); clear BKp0; have BKp0 := n_; clear n_; have n_ := A_ (below_then HBo HBo.size hb0); clear HB; have HB := n_; clear n_; have HSw5 := A_ hb0.size; have NE2 := A_ h0_.1; have Hx2a := A_ (fresh_R (b0 := w.heap.size) h0_ HBo.size); clear h0_; obtain ⟨Ax2a, cx2a, ex2a⟩ := Kd.R_slice Hx2a.out; subst ex2a; have Hx2b := A_ (fresh_R (b0 := w.heap.size) h1_ HBo.size); clear h1_; obtain ⟨Ax2b, cx2b, ex2b⟩ := Kd.R_slice Hx2b.out; subst ex2b; clear hb0 HBo; have hczp0_0 := cz0_ BKp0.out; have hczp0_1 := cz1_ BKp0.out; have hfzp0_0 := kD_ BKp0.out 0; have hfzp0_1 := kD_ BKp0.out 1) | ((with_reducible refine gB_ (N := 5) rfl ?_); refine xA_ ?hg (N := 5) ?hd (cs := #[.slice none 0 0, .slice none 0 0]) (t := 27) ?hr ?_; (case hd => rfl); (case hg => rfl); (case hr => first | (go_simp; done) | (go_simp; rfl)); intro gbx0 hg w6 hbox hb; clear hczp0_0 hfzp0_0 hczp0_1 hfzp0_1; have HBo := HB.out; have n_ := A_ (kE_ BKp0.out hb); clear BKp0; have BKp0 := n_; clear n_; have n_ := A_ (rD_ Hx2a.out hb); clear Hx2a; have Hx2a := n_; clear n_; have n_ := A_ (rD_ Hx2b.out hb); clear Hx2b; have Hx2b := n_; clear n_; have n_ := A_ (below_then HBo HBo.size hb); clear HB; have HB := n_; clear n_; have HSw6 := A_ hb.size; have BKx0 := A_ hbox; have GIx0 := A_ (show w5.heap.size ≤ gbx0 ∧ gbx0 < w6.heap.size from ⟨by omega, blk_lt hbox⟩); have GEx0 := A_ (show w.heap.size ≤ gbx0 from by have := HBo.size; omega); clear hb hbox hg HBo; have hczp0_0 := cz0_ BKp0.out; have hczp0_1 := cz1_ BKp0.out; have hfzp0_0 := kD_ BKp0.out 0; have hfzp0_1 := kD_ BKp0.out 1; have hczx0_0 := cz0_ BKx0.out; have hczx0_1 := cz1_ BKx0.out; have hfzx0_0 := kD_ BKx0.out 0; have hfzx0_1 := kD_ BKx0.out 1) | ((with_reducible refine gate_store (t := 27) (p := 5) rfl ?_); refine store_event (t := 27) (p := 5) (v := ?vo) (w1 := ((w6.setCell ⟨gbx0, 0, none⟩ (.slice Ax2a l0_0.length cx2a)).setCell ⟨gbx0, 1, none⟩ (.slice Ax2b l0_1.length cx2b))) ?hg ?ho ?hn ?hr ?_; (case ho => rfl); (case hg => rfl); (case hn => rfl); (case hr => first | (go_simp; done) | (go_simp; rfl)); intro wq hw; subst hw; obtain ⟨hbox, hkp, hB2⟩ := box_store BKx0.out (.slice Ax2a l0_0.length cx2a) (.slice Ax2b l0_1.length cx2b) HB.out GEx0.out; generalize hw : ((w6.setCell ⟨gbx0, 0, none⟩ (.slice Ax2a l0_0.length cx2a)).setCell ⟨gbx0, 1, none⟩ (.slice Ax2b l0_1.length cx2b)) = w7 at hbox hkp hB2 ⊢; clear hw; clear hczp0_0 hfzp0_0 hczp0_1 hfzp0_1 hczx0_0 hfzx0_0 hczx0_1 hfzx0_1; have n_ := A_ (blk_kept (g := gbp0) BKp0.out hkp (fun hs => by have hk := GIp0.out; have := hk.1; have := hk.2; have := GIx0.out; have := HSw1.out; have := HSw2.out; have := HSw3.out; have := HSw4.out; have := HSw5.out; have := HSw6.out; omega)); clear BKp0; have BKp0 := n_; clear n_; have n_ := A_ (Kd.R_kept Hx2a.out hkp (fun k_ hk hs => by have := hk.1; have := hk.2; have := GIx0.out; have := HSw1.out; have := HSw2.out; have := HSw3.out; have := HSw4.out; have := HSw5.out; have := HSw6.out; omega)); clear Hx2a; have Hx2a := n_; clear n_; have n_ := A_ (Kd.R_kept Hx2b.out hkp (fun k_ hk hs => by have := hk.1; have := hk.2; have := GIx0.out; have := HSw1.out; have := HSw2.out; have := HSw3.out; have := HSw4.out; have := HSw5.out; have := HSw6.out; omega)); clear Hx2b; have Hx2b := n_; clear n_; have n_ := A_ (hB2); clear HB; have HB := n_; clear n_; have HSw7 := A_ hkp.1; clear BKx0; have BKx0 := A_ (show w7.heap[gbx0]? = some (.cells #[.slice Ax2a l0_0.length cx2a, .slice Ax2b l0_1.length cx2b] 27 (0, 0)) from hbox); clear hbox hkp hB2; have hczp0_0 := cz0_ BKp0.out; have hczp0_1 := cz1_ BKp0.out; have hfzp0_0 := kD_ BKp0.out 0; have hfzp0_1 := kD_ BKp0.out 1; have hczx0_0 := cz0_ BKx0.out; have hczx0_1 := cz1_ BKx0.out; have hfzx0_0 := kD_ BKx0.out 0; have hfzx0_1 := kD_ BKx0.out 1))
 go_upto_region 10 with (first | ((with_reducible refine gA_ (f := 17) rfl ?_); refine goesL_ _ rfl rfl Try.func17 (by kernel_rfl) rfl #[.agg #[.slice Ax2a l0_0.length cx2a, .slice Ax2b l0_1.length cx2b]] rfl (by (try simp only [mA_, mB_, mC_]); first | done | rfl) ?_; have HBo := HB.out; refine (Z1.calls k Ax2a cx2a l0_0 Ax2b cx2b l0_1 r0 _ (Kd.R_reads' Hx2a.out).2.2 (Kd.R_reads' Hx2a.out).2.1 (Kd.R_reads' Hx2b.out).2.2 (Kd.R_reads' Hx2b.out).2.1 FG.out).mono ?_; rintro e w8 ⟨rfl, hb0⟩; refine ⟨_, rfl, ?_⟩; clear hczp0_0 hfzp0_0 hczp0_1 hfzp0_1 hczx0_0 hfzx0_0 hczx0_1 hfzx0_1; have n_ := A_ (kE_ BKp0.out hb0); clear BKp0; have BKp0 := n_; clear n_; have n_ := A_ (rD_ Hx2a.out hb0); clear Hx2a; have Hx2a := n_; clear n_; have n_ := A_ (rD_ Hx2b.out hb0); clear Hx2b; have Hx2b := n_; clear n_; have n_ := A_ (kE_ BKx0.out hb0); clear BKx0; have BKx0 := n_; clear n_; have n_ := A_ (below_then HBo HBo.size hb0); clear HB; have HB := n_; clear n_; have HSw8 := A_ hb0.size; clear hb0 HBo; have hczp0_0 := cz0_ BKp0.out; have hczp0_1 := cz1_ BKp0.out; have hfzp0_0 := kD_ BKp0.out 0; have hfzp0_1 := kD_ BKp0.out 1; have hczx0_0 := cz0_ BKx0.out; have hczx0_1 := cz1_ BKx0.out; have hfzx0_0 := kD_ BKx0.out 0; have hfzx0_1 := kD_ BKx0.out 1))
 clear hczp0_0 hfzp0_0 hczp0_1 hfzp0_1 hczx0_0 hfzx0_0 hczx0_1 hfzx0_1
 have n_ := A_ (kB_ BKp0.out)
 clear BKp0
 have BKp0 := n_
 clear n_
 have n_ := A_ (rC_ Hx2a.out)
 clear Hx2a
 have Hx2a := n_
 clear n_
 have n_ := A_ (rC_ Hx2b.out)
 clear Hx2b
 have Hx2b := n_
 clear n_
 have n_ := A_ (kB_ BKx0.out)
 clear BKx0
 have BKx0 := n_
 clear n_
 have n_ := A_ (bC_ HB.out)
 clear HB
 have HB := n_
 clear n_
 have HSw10 := A_ (show w8.heap.size ≤ w8.drew.heap.size from nA_ _)
 refine start_ (n := 5) (S := fun w' => w'.cell? ⟨gbp0, 0, none⟩ = some (.slice A0_0 l0_0.length c0_0) ∧ w'.cell? ⟨gbp0, 1, none⟩ = some (.slice A0_1 l0_1.length c0_1) ∧ w'.cell? ⟨gbx0, 0, none⟩ = some (.slice Ax2a l0_0.length cx2a) ∧ w'.cell? ⟨gbx0, 1, none⟩ = some (.slice Ax2b l0_1.length cx2b)) (ds := []) #[false, false, false, false, false] (by kernel_rfl) rfl rfl ⟨(blk_cell BKp0.out 0).trans rfl, (blk_cell BKp0.out 1).trans rfl, (blk_cell BKx0.out 0).trans rfl, (blk_cell BKx0.out 1).trans rfl⟩ (fun hHeld => ?_)
 generalize hwd : w8.drew = w10 at BKp0 Hx2a Hx2b BKx0 HB HSw10 hHeld ⊢
 clear hwd
 refine take_ (i := 0) (N := some 22) (v := ?_) (a' := ?_) #[true, false, false, false, false] rfl rfl (by kernel_rfl) (fun _ _ _ h => h) (Or.inl ⟨by rfl, ?_⟩) hHeld ?_ ?_
 rotate_left
 ·rintro w' ⟨s0, s1, s2, s3⟩
  go_simp
  with_reducible rfl
 rotate_left
 ·simp only [Act.put, sA_, sB_, sC_, i64_w, i32_w]
  rfl
 refine take_ (i := 1) (N := some 23) (v := ?_) (a' := ?_) #[true, true, false, false, false] rfl rfl (by kernel_rfl) (fun _ _ _ h => h) (Or.inl ⟨by rfl, ?_⟩) hHeld ?_ ?_
 rotate_left
 ·rintro w' ⟨s0, s1, s2, s3⟩
  go_simp
  with_reducible rfl
 rotate_left
 ·simp only [Act.put, sA_, sB_, sC_, i64_w, i32_w]
  rfl
 refine one_ (i := 2) (N := some 24) #[true, true, true, false, false] rfl rfl (by kernel_rfl) (by decide) (fun K hK => ?_)
 replace hK := A_ hK
 refine goes_ Try.func16 (by kernel_rfl) rfl #[.agg #[.slice A0_0 l0_0.length c0_0, .slice A0_1 l0_1.length c0_1]] (by rfl) rfl rfl (by (try simp only [mA_, mB_, mC_]); first | done | rfl) ?_
 have HBo := HB.out
 refine (Z19.calls k A0_0 c0_0 l0_0 A0_1 c0_1 l0_1 l0_0 l0_1 _ (cD_ HR0_0.out HB.out) HC0_0.out (cD_ HR0_1.out HB.out) HC0_1.out FS0.out).mono ?_
 rintro e w11 ⟨v0_, v1_, rfl, h0_, h1_, hb0⟩
 refine ⟨_, rfl, ?_⟩
 clear hHeld
 have n_ := A_ (kE_ BKp0.out hb0)
 clear BKp0
 have BKp0 := n_
 clear n_
 have n_ := A_ (rD_ Hx2a.out hb0)
 clear Hx2a
 have Hx2a := n_
 clear n_
 have n_ := A_ (rD_ Hx2b.out hb0)
 clear Hx2b
 have Hx2b := n_
 clear n_
 have n_ := A_ (kE_ BKx0.out hb0)
 clear BKx0
 have BKx0 := n_
 clear n_
 have n_ := A_ (below_then HBo HBo.size hb0)
 clear HB
 have HB := n_
 clear n_
 have HSw11 := A_ hb0.size
 have NE3 := A_ h0_.1
 have Hx3a := A_ (fresh_R (b0 := w.heap.size) h0_ HBo.size)
 clear h0_
 obtain ⟨Ax3a, cx3a, ex3a⟩ := Kd.R_slice Hx3a.out
 subst ex3a
 have Hx3b := A_ (fresh_R (b0 := w.heap.size) h1_ HBo.size)
 clear h1_
 obtain ⟨Ax3b, cx3b, ex3b⟩ := Kd.R_slice Hx3b.out
 subst ex3b
 clear hb0 HBo
 refine hK.out _ _ ⟨(blk_cell BKp0.out 0).trans rfl, (blk_cell BKp0.out 1).trans rfl, (blk_cell BKx0.out 0).trans rfl, (blk_cell BKx0.out 1).trans rfl⟩ (fun hHeld => ?_)
 clear hK K
 refine norm_ (a' := ?_) ?_ ?_
 rotate_left
 ·show Act.put _ (some 24) _ = _
  simp only [Act.put, sA_, sB_, sC_, i64_w, i32_w]
  rfl
 refine one_ (i := 3) (N := some 25) #[true, true, true, true, false] rfl rfl (by kernel_rfl) (by decide) (fun K hK => ?_)
 replace hK := A_ hK
 refine goes_ Try.func18 (by kernel_rfl) rfl #[.agg #[.slice Ax2a l0_0.length cx2a, .slice Ax2b l0_1.length cx2b], .agg #[.slice Ax3a l0_0.length cx3a, .slice Ax3b l0_1.length cx3b]] (by rfl) rfl rfl (by (try simp only [mA_, mB_, mC_]); first | done | rfl) ?_
 have HBo := HB.out
 refine (Z17.calls k Ax2a cx2a l0_0 Ax2b cx2b l0_1 Ax3a cx3a l0_0 Ax3b cx3b l0_1 true _ (Kd.R_reads' Hx2a.out).2.2 (Kd.R_reads' Hx2a.out).2.1 (Kd.R_reads' Hx2b.out).2.2 (Kd.R_reads' Hx2b.out).2.1 (Kd.R_reads' Hx3a.out).2.2 (Kd.R_reads' Hx3a.out).2.1 (Kd.R_reads' Hx3b.out).2.2 (Kd.R_reads' Hx3b.out).2.1 FE0.out).mono ?_
 rintro e w12 ⟨rfl, hb0⟩
 refine ⟨_, rfl, ?_⟩
 clear hHeld
 have n_ := A_ (kE_ BKp0.out hb0)
 clear BKp0
 have BKp0 := n_
 clear n_
 have n_ := A_ (rD_ Hx2a.out hb0)
 clear Hx2a
 have Hx2a := n_
 clear n_
 have n_ := A_ (rD_ Hx2b.out hb0)
 clear Hx2b
 have Hx2b := n_
 clear n_
 have n_ := A_ (kE_ BKx0.out hb0)
 clear BKx0
 have BKx0 := n_
 clear n_
 have n_ := A_ (rD_ Hx3a.out hb0)
 clear Hx3a
 have Hx3a := n_
 clear n_
 have n_ := A_ (rD_ Hx3b.out hb0)
 clear Hx3b
 have Hx3b := n_
 clear n_
 have n_ := A_ (below_then HBo HBo.size hb0)
 clear HB
 have HB := n_
 clear n_
 have HSw12 := A_ hb0.size
 clear hb0 HBo
 refine hK.out _ _ ⟨(blk_cell BKp0.out 0).trans rfl, (blk_cell BKp0.out 1).trans rfl, (blk_cell BKx0.out 0).trans rfl, (blk_cell BKx0.out 1).trans rfl⟩ (fun hHeld => ?_)
 clear hK K
 refine norm_ (a' := ?_) ?_ ?_
 rotate_left
 ·show Act.put _ (some 25) _ = _
  simp only [Act.put, sA_, sB_, sC_, i64_w, i32_w]
  rfl
 refine pure_ (i := 4) (N := some 26) (v := ?_) (a' := ?_) #[true, true, true, true, true] rfl rfl (by kernel_rfl) (fun _ _ _ h => h) (Or.inl ⟨by rfl, ?_⟩) ?_ ?_
 rotate_left
 ·intro w'
  go_simp
  with_reducible rfl
 rotate_left
 ·simp only [Act.put, sA_, sB_, sC_, i64_w, i32_w]
  rfl
 refine done_ (by kernel_rfl) ?_
 clear hHeld
 have hczp0_0 := cz0_ BKp0.out
 have hczp0_1 := cz1_ BKp0.out
 have hfzp0_0 := kD_ BKp0.out 0
 have hfzp0_1 := kD_ BKp0.out 1
 have hczx0_0 := cz0_ BKx0.out
 have hczx0_1 := cz1_ BKx0.out
 have hfzx0_0 := kD_ BKx0.out 0
 have hfzx0_1 := kD_ BKx0.out 1
 clear Hx3a Hx3b
 go_wp2
 go_ret
 exact ⟨rfl, HB.out⟩
end Go.Proofs.Ytbdnellgioimbaa.A
end
section
/- Plain mathematics: permutations as lists of numbers. No conditions. -/
namespace Go.Proofs.Ytbdnellgioimbaa.M
set_option linter.unusedVariables false
set_option linter.unusedSimpArgs false
def I (l : List Nat) : List Int := l.map Int.ofNat
def g (p : List Nat) (i : Nat) : Nat := p.getD i 0
def tab (n : Nat) (f : Nat → Nat) : List Nat := (List.range n).map f
theorem I_len (l : List Nat) : (I l).length = l.length := by simp [I]
theorem I_inj {a b : List Nat} (h : I a = I b) : a = b := by
 unfold I at h
 exact (List.map_inj_right (fun x y hxy => Int.ofNat.inj hxy)).mp h
theorem tab_len (n : Nat) (f : Nat → Nat) : (tab n f).length = n := by simp [tab]
theorem g_tab {n : Nat} {f : Nat → Nat} {i : Nat} (h : i < n) : g (tab n f) i = f i := by simp [g, tab, List.getD_eq_getElem?_getD, h]
theorem g_get {p : List Nat} {i : Nat} (h : i < p.length) : g p i = p[i] := by simp [g, List.getD_eq_getElem?_getD, h]
theorem g_mem {p : List Nat} {i : Nat} (h : i < p.length) : g p i ∈ p := by rw [g_get h]; exact List.getElem_mem h
theorem mem_g {p : List Nat} {x : Nat} (h : x ∈ p) : ∃ i, i < p.length ∧ g p i = x := by
 obtain ⟨i, hi, rfl⟩ := List.mem_iff_getElem.mp h
 exact ⟨i, hi, g_get hi⟩
theorem ext_g {a b : List Nat} (hl : a.length = b.length) (h : ∀ i, i < a.length → g a i = g b i) : a = b := by
 apply List.ext_getElem hl
 intro i h1 h2
 rw [← g_get h1, ← g_get h2]
 exact h i h1
theorem eq_tab {l : List Nat} {n : Nat} {f : Nat → Nat} (hl : l.length = n) (h : ∀ i, i < n → g l i = f i) : l = tab n f :=
 ext_g (by rw [tab_len, hl]) (fun i hi => by rw [hl] at hi; rw [g_tab hi, h i hi])
theorem g_set {p : List Nat} {i x j : Nat} (h : i < p.length) : g (p.set i x) j = if i = j then x else g p j := by
 unfold g
 rw [List.getD_eq_getElem?_getD, List.getD_eq_getElem?_getD, List.getElem?_set]
 by_cases e : i = j
 ·subst e
  simp [h]
 ·simp [e]
theorem I_set (p : List Nat) (i x : Nat) : (I p).set i (x : Int) = I (p.set i x) := by simp [I, List.map_set]
theorem I_snoc (p : List Nat) (x : Nat) : I p ++ [(x : Int)] = I (p ++ [x]) := by simp [I]
theorem I_rep (n x : Nat) : I (List.replicate n x) = List.replicate n (x : Int) := by simp [I]
structure IsP (p : List Nat) : Prop where
 lt : ∀ x ∈ p, x < p.length
 nd : p.Nodup
instance (p : List Nat) : Decidable (IsP p) := decidable_of_iff ((∀ x ∈ p, x < p.length) ∧ p.Nodup) ⟨fun h => ⟨h.1, h.2⟩, fun h => ⟨h.lt, h.nd⟩⟩
theorem nodup_le (n : Nat) : ∀ l : List Nat, l.Nodup → (∀ x ∈ l, x < n) → l.length ≤ n := by
 induction n with
 | zero =>
  intro l _ h
  cases l with
  | nil => simp
  | cons a l => exact absurd (h a (by simp)) (by omega)
 | succ n ih =>
  intro l hn h
  have h1 := ih (l.erase n) (hn.erase n) (fun x hx => by
   have h2 := (List.Nodup.mem_erase_iff hn).mp hx
   have h3 := h x h2.2
   have h4 := h2.1
   omega)
  have h5 := @List.length_erase _ _ _ n l
  split at h5 <;> omega
theorem mem_all {p : List Nat} (hp : IsP p) {x : Nat} (h : x < p.length) : x ∈ p := by
 apply Classical.byContradiction
 intro hx
 have := nodup_le p.length (x :: p) (List.nodup_cons.mpr ⟨hx, hp.nd⟩) (fun y hy => by
  rcases List.mem_cons.mp hy with rfl | hy
  ·exact h
  ·exact hp.lt y hy)
 simp at this
 omega
theorem g_lt {p : List Nat} (hp : IsP p) {i : Nat} (h : i < p.length) : g p i < p.length := hp.lt _ (g_mem h)
theorem g_inj {p : List Nat} (hp : IsP p) {i j : Nat} (hi : i < p.length) (hj : j < p.length) (h : g p i = g p j) : i = j := by
 rw [g_get hi, g_get hj] at h
 have hw := List.pairwise_iff_getElem.mp hp.nd
 rcases Nat.lt_trichotomy i j with hij | hij | hij
 ·exact absurd h (hw i j hi hj hij)
 ·exact hij
 ·exact absurd h.symm (hw j i hj hi hij)
def ix (p : List Nat) (x : Nat) : Nat := p.idxOf x
theorem ix_lt {p : List Nat} (hp : IsP p) {x : Nat} (h : x < p.length) : ix p x < p.length := List.idxOf_lt_length_of_mem (mem_all hp h)
theorem g_ix {p : List Nat} (hp : IsP p) {x : Nat} (h : x < p.length) : g p (ix p x) = x := by
 rw [g_get (ix_lt hp h)]
 exact List.getElem_idxOf (ix_lt hp h)
theorem isP_mk {p : List Nat} (h1 : ∀ i, i < p.length → g p i < p.length) (h2 : ∀ i j, i < p.length → j < p.length → g p i = g p j → i = j) : IsP p := by
 refine ⟨fun x hx => ?_, ?_⟩
 ·obtain ⟨i, hi, rfl⟩ := mem_g hx
  exact h1 i hi
 ·refine List.pairwise_iff_getElem.mpr ?_
  intro i j hi hj hij e'
  rw [← g_get hi, ← g_get hj] at e'
  have := h2 i j hi hj e'
  omega
theorem isP_tab {n : Nat} {f : Nat → Nat} (h1 : ∀ i, i < n → f i < n) (h2 : ∀ i j, i < n → j < n → f i = f j → i = j) : IsP (tab n f) := by
 refine isP_mk (fun i hi => ?_) (fun i j hi hj e => ?_)
 ·rw [tab_len] at hi ⊢; rw [g_tab hi]; exact h1 i hi
 ·rw [tab_len] at hi hj; rw [g_tab hi, g_tab hj] at e; exact h2 i j hi hj e
def inv (p : List Nat) : List Nat := tab p.length (ix p)
theorem inv_len (p : List Nat) : (inv p).length = p.length := tab_len _ _
theorem g_inv {p : List Nat} {i : Nat} (h : i < p.length) : g (inv p) i = ix p i := g_tab h
theorem isP_inv {p : List Nat} (hp : IsP p) : IsP (inv p) := isP_tab (fun i hi => ix_lt hp hi) (fun i j hi hj e => by rw [← g_ix hp hi, ← g_ix hp hj, e])
def thn (p q : List Nat) : List Nat := tab p.length (fun i => g q (g p i))
theorem thn_len (p q : List Nat) : (thn p q).length = p.length := tab_len _ _
theorem g_thn {p q : List Nat} {i : Nat} (h : i < p.length) : g (thn p q) i = g q (g p i) := g_tab h
theorem isP_thn {p q : List Nat} (hp : IsP p) (hq : IsP q) (hl : p.length = q.length) : IsP (thn p q) :=
 isP_tab (fun i hi => by have h1 := g_lt hp hi; have h2 := g_lt hq (i := g p i) (by omega); omega)
  (fun i j hi hj e => g_inj hp hi hj (g_inj hq (by have := g_lt hp hi; omega) (by have := g_lt hp hj; omega) e))
def idn (n : Nat) : List Nat := tab n id
theorem idn_len (n : Nat) : (idn n).length = n := tab_len _ _
theorem g_idn {n i : Nat} (h : i < n) : g (idn n) i = i := g_tab h
end Go.Proofs.Ytbdnellgioimbaa.M
end
section
/- Plain mathematics: permutations of whole numbers, and what is reached by two of them. No conditions. -/
namespace Go.Proofs.Ytbdnellgioimbaa.M
set_option linter.unusedVariables false
set_option linter.unusedSimpArgs false
open Go.RowKit Go.Proofs.YtbdnellgioimbaaW.PrintWords Go.Proofs.YtbdnellgioimbaaW.PrintLast Go.Proofs.YtbdnellgioimbaaW.PrintMore
theorem w64 {x : Int} (h0 : -9223372036854775808 ≤ x) (h1 : x ≤ 9223372036854775807) : wrap64 x = x := by unfold wrap64; omega
theorem w64s (i : Nat) (h : i ≤ 9000000000000000000) : wrap64 ((i : Int) + 1) = ((i + 1 : Nat) : Int) := by rw [w64 (by omega) (by omega)]; omega
theorem ev_succ {α : Type} {f : Nat → Option α} {r : α} (h : Ev (fun k => f (k + 1)) r) : Ev f r := Ev.step (fun _ => rfl) h
theorem rdI (p : List Nat) (i : Nat) : rd (I p) (i : Int) = ((g p i : Nat) : Int) := by
 unfold rd g I
 simp only [Int.toNat_natCast, List.getD_eq_getElem?_getD, List.getElem?_map]
 cases p[i]? <;> rfl
theorem rd_get (l : List Int) (i : Nat) (h : i < l.length) : rd l (i : Int) = l[i] := by
 unfold rd
 simp [List.getD_eq_getElem?_getD, h]
theorem mem_I {p : List Nat} {x : Nat} : (x : Int) ∈ I p ↔ x ∈ p := by
 unfold I
 constructor
 ·intro h
  obtain ⟨y, hy, e⟩ := List.mem_map.mp h
  have : y = x := Int.ofNat.inj e
  exact this ▸ hy
 ·intro h
  exact List.mem_map.mpr ⟨x, h, rfl⟩
def PI (l : List Int) : Prop := l.length ≤ 24 ∧ (∀ x ∈ l, 0 ≤ x ∧ x < (l.length : Int)) ∧ l.Nodup
instance : DecidablePred PI := fun l => by unfold PI; infer_instance
def permB (l : List Int) : Bool := decide (PI l)
def N (l : List Int) : List Nat := l.map Int.toNat
theorem N_I (p : List Nat) : N (I p) = p := by
 unfold N I
 rw [List.map_map]
 exact List.map_id'' (fun x => rfl) p
theorem N_len (l : List Int) : (N l).length = l.length := by simp [N]
theorem I_N {l : List Int} (h : ∀ x ∈ l, 0 ≤ x) : I (N l) = l := by
 unfold N I
 rw [List.map_map]
 conv => rhs; rw [← List.map_id l]
 apply List.map_congr_left
 intro x hx
 have := h x hx
 simp only [Function.comp, id]
 show ((x.toNat : Nat) : Int) = x
 omega
theorem PI_nat {l : List Int} (h : PI l) : ∃ p, l = I p ∧ IsP p ∧ p.length ≤ 24 := by
 obtain ⟨h1, h2, h3⟩ := h
 refine ⟨N l, (I_N (fun x hx => (h2 x hx).1)).symm, ?_, by rw [N_len]; exact h1⟩
 have e := I_N (fun x hx => (h2 x hx).1)
 refine ⟨fun x hx => ?_, ?_⟩
 ·have := (h2 (x : Int) (by rw [← e]; exact mem_I.mpr hx)).2
  rw [N_len]
  omega
 ·rw [← e] at h3
  unfold I at h3
  exact (List.pairwise_map.mp h3).imp (fun {a b} hab hh => hab (by rw [hh]))
theorem PI_I {p : List Nat} : PI (I p) ↔ IsP p ∧ p.length ≤ 24 := by
 constructor
 ·intro h
  obtain ⟨q, e, h1, h2⟩ := PI_nat h
  have := I_inj e
  subst this
  exact ⟨h1, h2⟩
 ·intro ⟨h1, h2⟩
  refine ⟨by rw [I_len]; exact h2, fun x hx => ?_, ?_⟩
  ·unfold I at hx
   obtain ⟨y, hy, rfl⟩ := List.mem_map.mp hx
   have := h1.lt y hy
   rw [I_len]
   exact ⟨Int.natCast_nonneg y, Int.ofNat_lt.mpr this⟩
  ·unfold I
   exact List.pairwise_map.mpr (h1.nd.imp (fun {a b} hab hh => hab (Int.ofNat.inj hh)))
theorem permB_I {p : List Nat} : permB (I p) = true ↔ IsP p ∧ p.length ≤ 24 := by
 unfold permB
 rw [decide_eq_true_iff]
 exact PI_I
def okFrom (l : List Int) (i : Nat) : Prop := ∀ j : Nat, i ≤ j → j < l.length → 0 ≤ rd l (j : Int) ∧ rd l (j : Int) < (l.length : Int) ∧ rd l (j : Int) ∉ l.take j
theorem okFrom_end (l : List Int) (i : Nat) (h : l.length ≤ i) : okFrom l i := fun j h1 h2 => by omega
theorem okFrom_step {l : List Int} {i : Nat} (h : 0 ≤ rd l (i : Int) ∧ rd l (i : Int) < (l.length : Int) ∧ rd l (i : Int) ∉ l.take i) : okFrom l i ↔ okFrom l (i + 1) := by
 constructor
 ·intro k j h1 h2
  exact k j (by omega) h2
 ·intro k j h1 h2
  by_cases e : j = i
  ·subst e
   exact h
  ·exact k j (by omega) h2
theorem okFrom_not {l : List Int} {i : Nat} (hi : i < l.length) (h : ¬ (0 ≤ rd l (i : Int) ∧ rd l (i : Int) < (l.length : Int) ∧ rd l (i : Int) ∉ l.take i)) : ¬ okFrom l i := fun k => h (k i (Nat.le_refl _) hi)
theorem okFrom_PI {l : List Int} (h : l.length ≤ 24) : okFrom l 0 ↔ PI l := by
 constructor
 ·intro k
  refine ⟨h, fun x hx => ?_, ?_⟩
  ·obtain ⟨i, hi, rfl⟩ := List.mem_iff_getElem.mp hx
   have := k i (Nat.zero_le _) hi
   rw [rd_get l i hi] at this
   exact ⟨this.1, this.2.1⟩
  ·refine List.pairwise_iff_getElem.mpr ?_
   intro i j hi hj hij e
   have := (k j (Nat.zero_le _) hj).2.2
   rw [rd_get l j hj, ← e] at this
   exact this (List.mem_take_iff_getElem.mpr ⟨i, by omega, rfl⟩)
 ·intro ⟨_, h2, h3⟩ j _ hj
  rw [rd_get l j hj]
  refine ⟨(h2 _ (List.getElem_mem hj)).1, (h2 _ (List.getElem_mem hj)).2, fun hm => ?_⟩
  obtain ⟨i, hi, e⟩ := List.mem_take_iff_getElem.mp hm
  exact List.pairwise_iff_getElem.mp h3 i j (by omega) hj (by omega) e
theorem permB_of {l : List Int} {b : Bool} (h : l.length ≤ 24) (hb : b = true ↔ okFrom l 0) : b = permB l := by
 rw [Bool.eq_iff_iff, hb, okFrom_PI h]
 unfold permB
 rw [decide_eq_true_iff]
theorem take_succ (l : List Int) (i : Nat) (h : i < l.length) : l.take (i + 1) = l.take i ++ [rd l (i : Int)] := by
 rw [rd_get l i h, List.take_append_getElem h]
def st1 (out : List Nat) (x : Nat) : List Nat := if x ∈ out then out else out ++ [x]
def bfs (p q : List Nat) : Nat → Nat → List Nat → List Nat
 | 0, _, out => out
 | f + 1, a, out => if a < out.length then bfs p q f (a + 1) (st1 (st1 out (g p (g out a))) (g q (g out a))) else out
def reach (p q : List Nat) (s : Nat) : List Nat := bfs p q (p.length + 1) 0 [s]
structure RInv (n : Nat) (out : List Nat) : Prop where
 nd : out.Nodup
 lt : ∀ x ∈ out, x < n
theorem RInv.le {n : Nat} {out : List Nat} (h : RInv n out) : out.length ≤ n := nodup_le n out h.nd h.lt
theorem RInv.st {n : Nat} {out : List Nat} {x : Nat} (h : RInv n out) (hx : x < n) : RInv n (st1 out x) := by
 unfold st1
 split
 ·exact h
 ·rename_i hn
  refine ⟨List.nodup_append.mpr ⟨h.nd, by simp, fun a ha b hb e => ?_⟩, fun y hy => ?_⟩
  ·have : b = x := by simpa using hb
   subst this
   exact hn (e ▸ ha)
  ·rcases List.mem_append.mp hy with hy | hy
   ·exact h.lt y hy
   ·have : y = x := by simpa using hy
    omega
theorem st1_len (out : List Nat) (x : Nat) : out.length ≤ (st1 out x).length := by
 unfold st1
 split <;> simp
theorem RInv.g {n : Nat} {out : List Nat} {a : Nat} (h : RInv n out) (ha : a < out.length) : M.g out a < n := h.lt _ (g_mem ha)
structure Sf (r u : List Nat) : Prop where
 pr : IsP r
 pu : IsP u
 le : r.length ≤ 24
 eq : u.length = r.length
 pos : 0 < r.length
 all : (reach r u 0).length = r.length
def surfB (r u : List Int) : Bool := permB r && permB u && decide (r.length = u.length) && decide (0 < r.length) && ((reach (N r) (N u) 0).length == r.length)
theorem surf_nat {r u : List Int} (h : surfB r u = true) : ∃ r' u', r = I r' ∧ u = I u' ∧ Sf r' u' := by
 unfold surfB at h
 simp only [Bool.and_eq_true, decide_eq_true_eq, beq_iff_eq] at h
 obtain ⟨⟨⟨⟨h1, h2⟩, h3⟩, h4⟩, h5⟩ := h
 obtain ⟨r', rfl, a1, a2⟩ := PI_nat (of_decide_eq_true h1)
 obtain ⟨u', rfl, b1, b2⟩ := PI_nat (of_decide_eq_true h2)
 rw [N_I, N_I, I_len] at h5
 rw [I_len, I_len] at h3
 rw [I_len] at h4
 exact ⟨r', u', rfl, rfl, a1, b1, a2, h3.symm, h4, h5⟩
theorem surfB_I {r u : List Nat} : surfB (I r) (I u) = true ↔ Sf r u := by
 constructor
 ·intro h
  obtain ⟨r', u', e1, e2, hs⟩ := surf_nat h
  have := I_inj e1
  have := I_inj e2
  subst_vars
  exact hs
 ·intro h
  unfold surfB
  simp only [Bool.and_eq_true, decide_eq_true_eq, beq_iff_eq]
  rw [N_I, N_I, I_len, I_len]
  exact ⟨⟨⟨⟨permB_I.mpr ⟨h.pr, h.le⟩, permB_I.mpr ⟨h.pu, by have := h.le; have := h.eq; omega⟩⟩, h.eq.symm⟩, h.pos⟩, h.all⟩
end Go.Proofs.Ytbdnellgioimbaa.M
end
section
/- The tests of permutations, program and reference, come to one plain test. No conditions. -/
namespace Go.Proofs.Ytbdnellgioimbaa.M
set_option linter.unusedVariables false
set_option linter.unusedSimpArgs false
open Go.RowKit Go.Proofs.YtbdnellgioimbaaW.PrintWords Go.Proofs.YtbdnellgioimbaaW.PrintLast Go.Proofs.YtbdnellgioimbaaW.PrintMore Go.Proofs.Ytbdnellgioimbaa.A
theorem has_ev (l : List Int) (a : Int) (hl : l.length ≤ 1000000000) : Ev (fun k => Z44.f k l a) (decide (a ∈ l)) := by
 have H : ∀ d i : Nat, i + d = l.length → Ev (fun k => Z44.l0 k a l (l.length : Int) (i : Int)) (decide (a ∈ l.drop i)) := by
  intro d
  induction d with
  | zero =>
   intro i h
   refine ev_succ ?_
   have h1 : ¬ ((i : Int) < (l.length : Int)) := by omega
   have e : decide (a ∈ l.drop i) = false := by
    rw [List.drop_of_length_le (by omega)]
    simp
   simp only [Z44.l0, h1, if_false]
   rw [e]
   exact Ev.now _
  | succ d ih =>
   intro i h
   refine ev_succ ?_
   have hi : i < l.length := by omega
   have h1 : (i : Int) < (l.length : Int) := by omega
   have h2 : (0 : Int) ≤ (i : Int) := by omega
   have h3 := w64s i (by omega)
   have e := List.drop_eq_getElem_cons hi
   rw [← rd_get l i hi] at e
   by_cases hr : rd l (i : Int) = a
   ·have e2 : decide (a ∈ l.drop i) = true := by rw [e, hr]; simp
    simp only [Z44.l0, h1, h2, hr, if_true]
    rw [e2]
    exact Ev.now _
   ·have e2 : decide (a ∈ l.drop i) = decide (a ∈ l.drop (i + 1)) := by
     rw [e]
     have : ¬ a = rd l (i : Int) := fun h => hr h.symm
     simp [this]
    simp only [Z44.l0, h1, h2, h3, hr, if_true, if_false]
    rw [e2]
    exact ih (i + 1) (by omega)
 have := H l.length 0 (by omega)
 simpa [Z44.f] using this
theorem in_f (x : Int) (n : Nat) (hn : n ≤ 24) : Z45.f x 0 (wrap64 ((n : Int) - 1)) = some (decide (0 ≤ x ∧ x < (n : Int))) := by
 unfold Z45.f
 rw [w64 (by omega) (by omega)]
 by_cases h : x ≥ 0
 ·rw [if_pos h]
  congr 1
  rw [Bool.eq_iff_iff, decide_eq_true_iff, decide_eq_true_iff]
  omega
 ·rw [if_neg h]
  congr 1
  symm
  rw [decide_eq_false_iff_not]
  omega
theorem spec_permOk (l : List Int) : Ev (fun k => Z43.f k l) (permB l) := by
 unfold Z43.f
 by_cases h24 : (l.length : Int) > 24
 ·simp only [h24, if_true]
  have : permB l = false := by
   unfold permB
   rw [decide_eq_false_iff_not]
   intro h
   have := h.1
   omega
  rw [this]
  exact Ev.now _
 ·simp only [h24, if_false]
  have H : ∀ d i : Nat, i + d = l.length → ∃ b, Ev (fun k => Z43.l0 k l l (l.length : Int) (i : Int)) b ∧ (b = true ↔ okFrom l i) := by
   intro d
   induction d with
   | zero =>
    intro i h
    refine ⟨true, ev_succ ?_, by simp [okFrom_end l i (by omega)]⟩
    have h1 : ¬ ((i : Int) < (l.length : Int)) := by omega
    simp only [Z43.l0, h1, if_false]
    exact Ev.now _
   | succ d ih =>
    intro i h
    have hi : i < l.length := by omega
    have h1 : (i : Int) < (l.length : Int) := by omega
    have h1' : (i : Int) ≤ (l.length : Int) := by omega
    have h2 : (0 : Int) ≤ (i : Int) := by omega
    have h3 := w64s i (by omega)
    have hin := in_f (rd l (i : Int)) l.length (by omega)
    by_cases c1 : 0 ≤ rd l (i : Int) ∧ rd l (i : Int) < (l.length : Int)
    ·have hh := has_ev (l.take i) (rd l (i : Int)) (by rw [List.length_take]; omega)
     by_cases c2 : rd l (i : Int) ∈ l.take i
     ·refine ⟨false, ev_succ ?_, by simpa using okFrom_not hi (fun h => h.2.2 c2)⟩
      simp only [Z43.l0, h1, h1', h2, hin, c1, if_true, Option.bind_some, decide_true, Int.toNat_natCast, and_self]
      refine Ev.bind hh ?_
      simp only [c2, decide_true, if_true]
      exact Ev.now _
     ·obtain ⟨b, i1, i2⟩ := ih (i + 1) (by omega)
      refine ⟨b, ev_succ ?_, by rw [i2]; exact (okFrom_step ⟨c1.1, c1.2, c2⟩).symm⟩
      simp only [Z43.l0, h1, h1', h2, h3, hin, c1, if_true, Option.bind_some, decide_true, Int.toNat_natCast, and_self]
      refine Ev.bind hh ?_
      simp only [c2, decide_false, Bool.false_eq_true, if_false]
      exact i1
    ·refine ⟨false, ev_succ ?_, by simpa using okFrom_not hi (fun h => c1 ⟨h.1, h.2.1⟩)⟩
     simp only [Z43.l0, h1, h2, hin, c1, if_true, if_false, Option.bind_some, decide_false, Bool.false_eq_true]
     exact Ev.now _
  obtain ⟨b, i1, i2⟩ := H l.length 0 (by omega)
  rw [← permB_of (by omega) i2]
  exact i1
theorem rdOf_nat (s : List Bool) (x : Nat) : rdOf false s (x : Int) = s.getD x false := rfl
theorem getD_set (s : List Bool) (x y : Nat) (h : x < s.length) : (s.set x true).getD y false = if x = y then true else s.getD y false := by
 rw [List.getD_eq_getElem?_getD, List.getD_eq_getElem?_getD, List.getElem?_set]
 by_cases e : x = y
 ·subst e
  simp [h]
 ·simp [e]
theorem impl_permOk (l : List Int) : Ev (fun k => Z37.f k l) (permB l) := by
 unfold Z37.f
 by_cases h24 : (l.length : Int) > 24
 ·simp only [h24, if_true]
  have : permB l = false := by
   unfold permB
   rw [decide_eq_false_iff_not]
   intro h
   have := h.1
   omega
  rw [this]
  exact Ev.now _
 ·simp only [h24, if_false]
  have H : ∀ (d i : Nat) (s : List Bool), i + d = l.length → s.length = 24 → (∀ x : Nat, x < 24 → (s.getD x false = true ↔ (x : Int) ∈ l.take i)) → ∃ b, Ev (fun k => Z37.l0 k l s (i : Int)) b ∧ (b = true ↔ okFrom l i) := by
   intro d
   induction d with
   | zero =>
    intro i s h hs hx
    refine ⟨true, ev_succ ?_, by simp [okFrom_end l i (by omega)]⟩
    have h1 : ¬ ((i : Int) < (l.length : Int)) := by omega
    simp only [Z37.l0, h1, if_false]
    exact Ev.now _
   | succ d ih =>
    intro i s h hs hx
    have hi : i < l.length := by omega
    have h1 : (i : Int) < (l.length : Int) := by omega
    have h2 : (0 : Int) ≤ (i : Int) := by omega
    have h3 := w64s i (by omega)
    by_cases c1 : rd l (i : Int) < 0
    ·refine ⟨false, ev_succ ?_, by simpa using okFrom_not hi (fun h => by omega)⟩
     simp only [Z37.l0, h1, h2, c1, if_true]
     exact Ev.now _
    ·by_cases c2 : rd l (i : Int) ≥ (l.length : Int)
     ·refine ⟨false, ev_succ ?_, by simpa using okFrom_not hi (fun h => by omega)⟩
      simp only [Z37.l0, h1, h2, c1, c2, if_true, if_false]
      exact Ev.now _
     ·obtain ⟨x, ex⟩ : ∃ x : Nat, rd l (i : Int) = (x : Int) := ⟨(rd l (i : Int)).toNat, by omega⟩
      have hx24 : x < 24 := by omega
      by_cases c3 : s.getD x false = true
      ·have hm := (hx x hx24).mp c3
       refine ⟨false, ev_succ ?_, by simpa using okFrom_not hi (fun h => h.2.2 (by rw [ex]; exact hm))⟩
       rw [ex] at c1 c2
       simp only [Z37.l0, h1, h2, ex, c1, c2, rdOf_nat, c3, if_true, if_false]
       exact Ev.now _
      ·have hm : (x : Int) ∉ l.take i := fun h => c3 ((hx x hx24).mpr h)
       obtain ⟨b, i1, i2⟩ := ih (i + 1) (s.set x true) (by omega) (by rw [List.length_set]; exact hs) (fun y hy => by
        rw [getD_set s x y (by omega), take_succ l i hi, ex]
        by_cases e : x = y
        ·subst e
         simp
        ·rw [if_neg e, hx y hy]
         have : ¬ (y : Int) = (x : Int) := by omega
         simp [this])
       refine ⟨b, ev_succ ?_, by rw [i2]; exact (okFrom_step ⟨by omega, by omega, by rw [ex]; exact hm⟩).symm⟩
       rw [ex] at c1 c2
       simp only [Z37.l0, h1, h2, h3, ex, c1, c2, rdOf_nat, c3, if_true, if_false, Int.toNat_natCast]
       exact i1
  obtain ⟨b, i1, i2⟩ := H l.length 0 (List.replicate 24 false) (by omega) rfl (fun x hx => by
   have : (List.replicate 24 false).getD x false = false := by
    rw [List.getD_eq_getElem?_getD, List.getElem?_replicate]
    simp [hx]
   rw [this]
   simp)
  rw [← permB_of (by omega) i2]
  exact i1
end Go.Proofs.Ytbdnellgioimbaa.M
end
section
/- The tests of surfaces, program and reference, come to one plain test. No conditions. -/
namespace Go.Proofs.Ytbdnellgioimbaa.M
set_option linter.unusedVariables false
set_option linter.unusedSimpArgs false
open Go.RowKit Go.Proofs.YtbdnellgioimbaaW.PrintWords Go.Proofs.YtbdnellgioimbaaW.PrintLast Go.Proofs.YtbdnellgioimbaaW.PrintMore Go.Proofs.Ytbdnellgioimbaa.A
theorem I_pair (a b : Nat) : ([(a : Int), (b : Int)] : List Int) = I [a, b] := rfl
theorem I_len' (l : List Nat) : ((I l).length : Int) = (l.length : Int) := by rw [I_len]
theorem st1_I (out : List Nat) (x : Nat) : I (st1 out x) = if (x : Int) ∈ I out then I out else I out ++ [(x : Int)] := by
 unfold st1
 by_cases h : x ∈ out
 ·rw [if_pos h, if_pos (mem_I.mpr h)]
 ·rw [if_neg h, if_neg (fun k => h (mem_I.mp k)), I_snoc]
theorem reach_one (p q out pr : List Nat) (a : Nat) (j : Nat) (hj : j < pr.length) (hp : pr.length ≤ 2) (hl : out.length ≤ 1000) (r : List Int)
  (H : Ev (fun k => Z28.l1 k (I p) (I q) (I (st1 out (g pr j))) (a : Int) (I pr) (pr.length : Int) ((j + 1 : Nat) : Int)) r) :
  Ev (fun k => Z28.l1 k (I p) (I q) (I out) (a : Int) (I pr) (pr.length : Int) (j : Int)) r := by
 refine ev_succ ?_
 have h1 : (j : Int) < (pr.length : Int) := by omega
 have h2 : (0 : Int) ≤ (j : Int) := by omega
 have h3 := w64s j (by omega)
 have h4 : (I out).length < 17592186044416 := by rw [I_len]; omega
 have hh := has_ev (I out) ((g pr j : Nat) : Int) (by rw [I_len]; omega)
 simp only [Z28.l1, h1, h2, h3, h4, rdI, I_len', if_true]
 refine Ev.bind hh ?_
 rw [st1_I] at H
 by_cases hm : ((g pr j : Nat) : Int) ∈ I out
 ·rw [if_pos hm] at H
  simp only [hm, decide_true, if_true]
  exact H
 ·rw [if_neg hm] at H
  simp only [hm, decide_false, Bool.false_eq_true, if_false]
  exact H
theorem reach_loop {p q : List Nat} (hp : IsP p) (hq : IsP q) (hl : q.length = p.length) (h24 : p.length ≤ 24) (f : Nat) : ∀ (a : Nat) (out : List Nat), RInv p.length out → a ≤ out.length → p.length < f + a →
  Ev (fun k => Z28.l0 k (I p) (I q) (I out) (a : Int)) (I (bfs p q f a out)) := by
 induction f with
 | zero =>
  intro a out hr ha hf
  have := hr.le
  omega
 | succ f ih =>
  intro a out hr ha hf
  have hle := hr.le
  refine ev_succ ?_
  by_cases h : a < out.length
  ·have h1 : (a : Int) < (out.length : Int) := by omega
   have h2 : (0 : Int) ≤ (a : Int) := by omega
   have hx := hr.g h
   have h3 : ((g out a : Nat) : Int) < (p.length : Int) := by omega
   have h4 : (0 : Int) ≤ ((g out a : Nat) : Int) := by omega
   have h5 : ((g out a : Nat) : Int) < (q.length : Int) := by omega
   have h6 := w64s a (by omega)
   simp only [Z28.l0, h1, h2, h3, h4, h5, rdI, I_len', if_true, Option.bind_some, I_pair]
   have r1 := hr.st (g_lt hp hx)
   have r2 := r1.st (x := g q (g out a)) (by have := g_lt hq (i := g out a) (by omega); omega)
   have hb : bfs p q (f + 1) a out = bfs p q f (a + 1) (st1 (st1 out (g p (g out a))) (g q (g out a))) := by
    rw [bfs, if_pos h]
   rw [hb]
   have i1 := ih (a + 1) _ r2 (by have := st1_len out (g p (g out a)); have := st1_len (st1 out (g p (g out a))) (g q (g out a)); omega) (by omega)
   refine reach_one p q out [g p (g out a), g q (g out a)] a 0 (by simp) (by simp) (by omega) _ ?_
   refine reach_one p q _ [g p (g out a), g q (g out a)] a 1 (by simp) (by simp) (by have := r1.le; simp only [g, List.getD_cons_zero] at this ⊢; omega) _ ?_
   refine ev_succ ?_
   have h7 : ¬ (((1 + 1 : Nat) : Int) < (([g p (g out a), g q (g out a)] : List Nat).length : Int)) := by simp
   simp only [Z28.l1, h7, h6, if_false]
   exact i1
  ·have h1 : ¬ ((a : Int) < (out.length : Int)) := by omega
   have hb : bfs p q (f + 1) a out = out := by rw [bfs, if_neg h]
   rw [hb]
   simp only [Z28.l0, h1, I_len', if_false]
   exact Ev.now _
theorem reach_ev {p q : List Nat} (hp : IsP p) (hq : IsP q) (hl : q.length = p.length) (h24 : p.length ≤ 24) (s : Nat) (hs : s < p.length) : Ev (fun k => Z28.f k (I p) (I q) (s : Int)) (I (reach p q s)) := by
 unfold Z28.f reach
 exact reach_loop hp hq hl h24 (p.length + 1) 0 [s] ⟨by simp, by simpa using hs⟩ (by simp) (by omega)
theorem len_ne_false {r u : List Int} (h : r.length ≠ u.length) : surfB r u = false := by
 unfold surfB
 simp [h]
theorem surfB_mk {r u : List Int} (h1 : permB r = true) (h2 : permB u = true) (h3 : r.length = u.length) (h4 : 0 < r.length) : surfB r u = ((reach (N r) (N u) 0).length == r.length) := by
 unfold surfB
 simp [h1, h2, h3, h4]
 intro _
 omega
theorem spec_trans (r u : List Int) : Ev (fun k => Z7.f k r u) (surfB r u) := by
 unfold Z7.f
 refine Ev.bind (spec_permOk r) ?_
 by_cases h1 : permB r = true
 ·simp only [h1, if_true]
  refine Ev.bind (spec_permOk u) ?_
  by_cases h2 : permB u = true
  ·simp only [h2, if_true]
   by_cases h3 : (r.length : Int) = (u.length : Int)
   ·have h3' : r.length = u.length := by omega
    by_cases h4 : (r.length : Int) > 0
    ·have h4' : 0 < r.length := by omega
     rw [surfB_mk h1 h2 h3' h4']
     obtain ⟨p, rfl, a1, a2⟩ := PI_nat (of_decide_eq_true h1)
     obtain ⟨q, rfl, b1, b2⟩ := PI_nat (of_decide_eq_true h2)
     rw [I_len, I_len] at h3'
     rw [I_len] at h4'
     have := reach_ev a1 b1 h3'.symm a2 0 h4'
     simp only [h3, h4, if_true]
     rw [h3] at h4
     simp only [h4, if_true]
     refine Ev.bind this ?_
     rw [N_I, N_I]
     have e : (((I (reach p q 0)).length : Int) == ((I q).length : Int)) = ((reach p q 0).length == (I p).length) := by
      rw [I_len, I_len, I_len, Bool.eq_iff_iff, beq_iff_eq, beq_iff_eq]
      omega
     rw [← h3] at e
     simp only [h3] at e
     rw [← e]
     exact Ev.now _
    ·simp only [h3, if_true]
     rw [h3] at h4
     simp only [h4, if_false]
     have : surfB r u = false := by
      unfold surfB
      have : ¬ 0 < r.length := by omega
      simp [this]
     rw [this]
     exact Ev.now _
   ·simp only [h3, if_false]
    rw [len_ne_false (by omega)]
    exact Ev.now _
  ·have h2' := Bool.eq_false_iff.mpr h2
   simp only [h2', Bool.false_eq_true, if_false]
   have : surfB r u = false := by unfold surfB; simp [h2']
   rw [this]
   exact Ev.now _
 ·have h1' := Bool.eq_false_iff.mpr h1
  simp only [h1', Bool.false_eq_true, if_false]
  have : surfB r u = false := by unfold surfB; simp [h1']
  rw [this]
  exact Ev.now _
theorem spec_surf (r u : List Int) : Ev (fun k => Z21.f k r u) (surfB r u) := by
 unfold Z21.f
 exact Ev.bind (spec_trans r u) (Ev.now _)
def Marks (n : Nat) (s : List Bool) (out : List Nat) : Prop := s.length = n ∧ ∀ x, x < n → (s.getD x false = true ↔ x ∈ out)
theorem Marks.add {n : Nat} {s : List Bool} {out : List Nat} {x : Nat} (h : Marks n s out) (hx : x < n) : Marks n (s.set x true) (out ++ [x]) := by
 refine ⟨by rw [List.length_set]; exact h.1, fun y hy => ?_⟩
 rw [getD_set s x y (by rw [h.1]; exact hx)]
 by_cases e : x = y
 ·subst e
  simp
 ·rw [if_neg e, h.2 y hy]
  have : ¬ y = x := fun k => e k.symm
  simp [this]
theorem trans_one (p q out pr : List Nat) (s : List Bool) (a : Nat) (j : Nat) (hj : j < pr.length) (hp : pr.length ≤ 2) (hl : out.length ≤ 1000) (hm : Marks p.length s out) (hx : g pr j < p.length) (r : Bool)
  (H : ∀ s', Marks p.length s' (st1 out (g pr j)) → Ev (fun k => Z6.l1 k (I p) (I q) s' (I (st1 out (g pr j))) (a : Int) (I pr) (pr.length : Int) ((j + 1 : Nat) : Int)) r) :
  Ev (fun k => Z6.l1 k (I p) (I q) s (I out) (a : Int) (I pr) (pr.length : Int) (j : Int)) r := by
 refine ev_succ ?_
 have h1 : (j : Int) < (pr.length : Int) := by omega
 have h2 : (0 : Int) ≤ (j : Int) := by omega
 have h3 := w64s j (by omega)
 have h4 : (I out).length < 17592186044416 := by rw [I_len]; omega
 have h5 : (0 : Int) ≤ ((g pr j : Nat) : Int) := by omega
 have h6 : ((g pr j : Nat) : Int) < (s.length : Int) := by rw [hm.1]; omega
 simp only [Z6.l1, h1, h2, h3, h4, h5, h6, rdI, I_len', rdOf_nat, if_true, Int.toNat_natCast]
 by_cases hin : g pr j ∈ out
 ·have hs := (hm.2 _ hx).mpr hin
  have e : st1 out (g pr j) = out := by unfold st1; rw [if_pos hin]
  have := H s (by rw [e]; exact hm)
  rw [e] at this
  simp only [hs, if_true]
  exact this
 ·have hs : s.getD (g pr j) false = false := Bool.eq_false_iff.mpr (fun h => hin ((hm.2 _ hx).mp h))
  have e : st1 out (g pr j) = out ++ [g pr j] := by unfold st1; rw [if_neg hin]
  have := H (s.set (g pr j) true) (by rw [e]; exact hm.add hx)
  rw [e, ← I_snoc] at this
  simp only [hs, Bool.false_eq_true, if_false]
  exact this
theorem trans_loop {p q : List Nat} (hp : IsP p) (hq : IsP q) (hl : q.length = p.length) (h24 : p.length ≤ 24) (f : Nat) : ∀ (a : Nat) (out : List Nat) (s : List Bool), RInv p.length out → Marks p.length s out → a ≤ out.length → p.length < f + a →
  Ev (fun k => Z6.l0 k (I p) (I q) s (I out) (a : Int)) ((bfs p q f a out).length == p.length) := by
 induction f with
 | zero =>
  intro a out s hr hm ha hf
  have := hr.le
  omega
 | succ f ih =>
  intro a out s hr hm ha hf
  have hle := hr.le
  refine ev_succ ?_
  by_cases h : a < out.length
  ·have h1 : (a : Int) < (out.length : Int) := by omega
   have h2 : (0 : Int) ≤ (a : Int) := by omega
   have hx := hr.g h
   have h3 : ((g out a : Nat) : Int) < (p.length : Int) := by omega
   have h4 : (0 : Int) ≤ ((g out a : Nat) : Int) := by omega
   have h5 : ((g out a : Nat) : Int) < (q.length : Int) := by omega
   have h6 := w64s a (by omega)
   simp only [Z6.l0, h1, h2, h3, h4, h5, rdI, I_len', if_true, Option.bind_some, I_pair]
   have hg1 := g_lt hp hx
   have hg2 : g q (g out a) < p.length := by have := g_lt hq (i := g out a) (by omega); omega
   have r1 := hr.st hg1
   have r2 := r1.st hg2
   have hb : bfs p q (f + 1) a out = bfs p q f (a + 1) (st1 (st1 out (g p (g out a))) (g q (g out a))) := by
    rw [bfs, if_pos h]
   rw [hb]
   refine trans_one p q out [g p (g out a), g q (g out a)] s a 0 (by simp) (by simp) (by omega) hm hg1 _ (fun s1 hm1 => ?_)
   refine trans_one p q _ [g p (g out a), g q (g out a)] s1 a 1 (by simp) (by simp) (by have := r1.le; simp only [g, List.getD_cons_zero] at this ⊢; omega) hm1 hg2 _ (fun s2 hm2 => ?_)
   refine ev_succ ?_
   have h7 : ¬ (((1 + 1 : Nat) : Int) < (([g p (g out a), g q (g out a)] : List Nat).length : Int)) := by simp
   simp only [Z6.l1, h7, h6, if_false]
   exact ih (a + 1) _ s2 r2 hm2 (Nat.le_trans (by omega : a + 1 ≤ out.length) (Nat.le_trans (st1_len _ _) (st1_len _ _))) (by omega)
  ·have h1 : ¬ ((a : Int) < (out.length : Int)) := by omega
   have hb : bfs p q (f + 1) a out = out := by rw [bfs, if_neg h]
   rw [hb]
   simp only [Z6.l0, h1, I_len', if_false]
   have e : ((out.length : Int) == (p.length : Int)) = (out.length == p.length) := by
    rw [Bool.eq_iff_iff, beq_iff_eq, beq_iff_eq]
    omega
   rw [e]
   exact Ev.now _
theorem j0_true (r u : List Int) : Ev (fun k => Z6.j0 k r u true) false := by
 refine ev_succ ?_
 simp only [Z6.j0, if_true]
 exact Ev.now _
theorem impl_trans (r u : List Int) : Ev (fun k => Z6.f k r u) (surfB r u) := by
 unfold Z6.f
 refine Ev.bind (impl_permOk r) ?_
 by_cases h1 : permB r = true
 ·simp only [h1, if_true]
  refine Ev.bind (impl_permOk u) ?_
  by_cases h2 : permB u = true
  ·simp only [h2, if_true]
   by_cases h3 : (r.length : Int) = (u.length : Int)
   ·have h3' : r.length = u.length := by omega
    simp only [h3, if_true]
    by_cases h4 : 0 < r.length
    ·rw [surfB_mk h1 h2 h3' h4]
     obtain ⟨p, rfl, a1, a2⟩ := PI_nat (of_decide_eq_true h1)
     obtain ⟨q, rfl, b1, b2⟩ := PI_nat (of_decide_eq_true h2)
     rw [I_len, I_len] at h3'
     rw [I_len] at h4
     refine ev_succ ?_
     have e0 : ((q.length : Int) == 0) = false := by rw [beq_eq_false_iff_ne]; omega
     have e1 : (0 : Int) ≤ (p.length : Int) := by omega
     have e2 : ((p.length : Int)).toNat ≤ 281474976710656 := by omega
     have e3 : (0 : Int) < ((List.replicate p.length false).length : Int) := by rw [List.length_replicate]; omega
     simp only [Z6.j0, e0, I_len', e1, e2, Bool.false_eq_true, if_true, if_false, Option.bind_some, Int.toNat_natCast, e3]
     simp only [Int.toNat_natCast] at e2
     simp only [e2, if_true]
     rw [N_I, N_I, I_len]
     refine trans_loop a1 b1 h3'.symm a2 (p.length + 1) 0 [0] _ ⟨by simp, by simpa using h4⟩ ?_ (by simp) (by omega)
     refine ⟨by simp, fun x hx => ?_⟩
     have : (0 : Int).toNat = 0 := rfl
     rw [this, getD_set _ 0 x (by simp; omega)]
     by_cases e : 0 = x
     ·subst e
      simp
     ·rw [if_neg e]
      have h0 : ¬ x = 0 := fun h => e h.symm
      have : (List.replicate p.length false).getD x false = false := by
       rw [List.getD_eq_getElem?_getD, List.getElem?_replicate]
       simp [hx]
      rw [this]
      simp [h0]
    ·have e0 : ((u.length : Int) == 0) = true := by rw [beq_iff_eq]; omega
     have : surfB r u = false := by unfold surfB; simp [h4]
     rw [this]
     simp only [e0]
     exact j0_true r u
   ·simp only [h3, if_false]
    rw [len_ne_false (by omega)]
    exact j0_true r u
  ·have h2' := Bool.eq_false_iff.mpr h2
   simp only [h2', Bool.false_eq_true, if_false]
   have : surfB r u = false := by unfold surfB; simp [h2']
   rw [this]
   exact j0_true r u
 ·have h1' := Bool.eq_false_iff.mpr h1
  simp only [h1', Bool.false_eq_true, if_false]
  have : surfB r u = false := by unfold surfB; simp [h1']
  rw [this]
  exact j0_true r u
theorem impl_surf (r u : List Int) : Ev (fun k => Z16.f k r u) (surfB r u) := by
 unfold Z16.f
 exact Ev.bind (impl_trans r u) (Ev.now _)
end Go.Proofs.Ytbdnellgioimbaa.M
end
section
/- What every law does with its arguments; inverses. No conditions. -/
namespace Go.Proofs.Ytbdnellgioimbaa.M
set_option linter.unusedVariables false
set_option linter.unusedSimpArgs false
open Go.RowKit Go.Proofs.YtbdnellgioimbaaW.PrintWords Go.Proofs.YtbdnellgioimbaaW.PrintLast Go.Proofs.YtbdnellgioimbaaW.PrintMore Go.Proofs.Ytbdnellgioimbaa.A
theorem rd_set {l : List Int} {i j : Nat} {x : Int} (h : i < l.length) : rd (l.set i x) (j : Int) = if i = j then x else rd l (j : Int) := by
 unfold rd
 simp only [Int.toNat_natCast]
 rw [List.getD_eq_getElem?_getD, List.getD_eq_getElem?_getD, List.getElem?_set]
 by_cases e : i = j
 ·subst e
  simp [h]
 ·simp [e]
theorem ext_rd {a b : List Int} (hl : a.length = b.length) (h : ∀ i : Nat, i < a.length → rd a (i : Int) = rd b (i : Int)) : a = b := by
 apply List.ext_getElem hl
 intro i h1 h2
 rw [← rd_get a i h1, ← rd_get b i h2]
 exact h i h1
theorem sz_small {r u : List Int} (h : r.length + u.length ≤ 1048576) : Z18.f r u 1048576 = some (1048576 - (r.length : Int) - (u.length : Int)) := by
 unfold Z18.f Z40.f
 have e1 : wrap64 (1048576 - (r.length : Int)) = 1048576 - (r.length : Int) := w64 (by omega) (by omega)
 have e2 : wrap64 (1048576 - (r.length : Int) - (u.length : Int)) = 1048576 - (r.length : Int) - (u.length : Int) := w64 (by omega) (by omega)
 have c1 : ¬ (1048576 - (r.length : Int) < 0) := by omega
 have c2 : ¬ (1048576 - (r.length : Int) - (u.length : Int) < 0) := by omega
 simp only [e1, c1, if_false, Option.bind_some, e2, c2]
theorem sz_big {r u : List Int} (hr : r.length ≤ 9223372036854775807) (hu : u.length ≤ 9223372036854775807) (h : ¬ r.length + u.length ≤ 1048576) : Z18.f r u 1048576 = some (-1) := by
 unfold Z18.f Z40.f
 have e1 : wrap64 (1048576 - (r.length : Int)) = 1048576 - (r.length : Int) := w64 (by omega) (by omega)
 by_cases c1 : 1048576 - (r.length : Int) < 0
 ·have c3 : (-1 : Int) < 0 := by omega
  simp only [e1, c1, if_true, Option.bind_some, c3]
 ·have e2 : wrap64 (1048576 - (r.length : Int) - (u.length : Int)) = 1048576 - (r.length : Int) - (u.length : Int) := w64 (by omega) (by omega)
  have c2 : 1048576 - (r.length : Int) - (u.length : Int) < 0 := by omega
  have c3 : (-1 : Int) < 0 := by omega
  simp only [e1, c1, if_false, Option.bind_some, e2, c2, if_true, c3]
theorem toInts_ev (l : List Int) (h : l.length ≤ 1048576) : Ev (fun k => Z41.f k l) l := by
 unfold Z41.f
 have h1 : (0 : Int) ≤ (l.length : Int) := by omega
 have h2 : ((l.length : Int)).toNat ≤ 35184372088832 := by omega
 simp only [h1, h2, if_true]
 have H : ∀ (d i : Nat) (c : List Int), i + d = l.length → c.length = l.length → (∀ j : Nat, j < i → rd c (j : Int) = rd l (j : Int)) → Ev (fun k => Z41.l0 k l c (i : Int)) l := by
  intro d
  induction d with
  | zero =>
   intro i c h hc hx
   refine ev_succ ?_
   have h1 : ¬ ((i : Int) < (l.length : Int)) := by omega
   have e : c = l := ext_rd hc (fun j hj => hx j (by omega))
   simp only [Z41.l0, h1, if_false]
   rw [e]
   exact Ev.now _
  | succ d ih =>
   intro i c h hc hx
   refine ev_succ ?_
   have h1 : (i : Int) < (l.length : Int) := by omega
   have h2 : (0 : Int) ≤ (i : Int) := by omega
   have h3 : (i : Int) < (c.length : Int) := by omega
   have h4 := w64s i (by omega)
   simp only [Z41.l0, h1, h2, h3, h4, if_true, Int.toNat_natCast]
   refine ih (i + 1) _ (by omega) (by rw [List.length_set]; exact hc) (fun j hj => ?_)
   rw [rd_set (by omega)]
   by_cases e : i = j
   ·subst e
    simp
   ·rw [if_neg e]
    exact hx j (by omega)
 exact H l.length 0 _ (by omega) (by rw [List.length_replicate]; omega) (fun j hj => by omega)
theorem toSurf_ev (r u : List Int) (hr : r.length ≤ 1048576) (hu : u.length ≤ 1048576) : Ev (fun k => Z19.f k r u) (r, u) := by
 unfold Z19.f
 exact Ev.bind (toInts_ev r hr) (Ev.bind (toInts_ev u hu) (Ev.now _))
theorem eqInts_ev (a b : List Int) (ha : a.length ≤ 9000000000000000000) : Ev (fun k => Z39.f k a b) (decide (a = b)) := by
 unfold Z39.f
 by_cases hl : (a.length : Int) = (b.length : Int)
 ·simp only [hl, if_true]
  have hl' : a.length = b.length := by omega
  have H : ∀ d i : Nat, i + d = a.length → ∃ c, Ev (fun k => Z39.l0 k a b (i : Int)) c ∧ (c = true ↔ ∀ j : Nat, i ≤ j → j < a.length → rd a (j : Int) = rd b (j : Int)) := by
   intro d
   induction d with
   | zero =>
    intro i h
    refine ⟨true, ev_succ ?_, by simp; intro j h1 h2; omega⟩
    have h1 : ¬ ((i : Int) < (a.length : Int)) := by omega
    simp only [Z39.l0, h1, if_false]
    exact Ev.now _
   | succ d ih =>
    intro i h
    have h1 : (i : Int) < (a.length : Int) := by omega
    have h2 : (0 : Int) ≤ (i : Int) := by omega
    have h3 : (i : Int) < (b.length : Int) := by omega
    have h4 := w64s i (by omega)
    by_cases c : rd a (i : Int) = rd b (i : Int)
    ·obtain ⟨c', i1, i2⟩ := ih (i + 1) (by omega)
     refine ⟨c', ev_succ ?_, by
      rw [i2]
      constructor
      ·intro k j j1 j2
       by_cases e : j = i
       ·subst e; exact c
       ·exact k j (by omega) j2
      ·intro k j j1 j2
       exact k j (by omega) j2⟩
     simp only [Z39.l0, h1, h2, h3, h4, c, if_true]
     exact i1
    ·refine ⟨false, ev_succ ?_, by
      simp only [Bool.false_eq_true, false_iff]
      intro k
      exact c (k i (Nat.le_refl _) (by omega))⟩
     simp only [Z39.l0, h1, h2, h3, c, if_true, if_false]
     exact Ev.now _
  obtain ⟨c, i1, i2⟩ := H a.length 0 (by omega)
  have : decide (a = b) = c := by
   rw [Bool.eq_iff_iff, i2, decide_eq_true_iff]
   constructor
   ·intro e j _ _
    rw [e]
   ·intro k
    exact ext_rd hl' (fun j hj => k j (Nat.zero_le _) hj)
  rw [this]
  exact i1
 ·simp only [hl, if_false]
  have : decide (a = b) = false := by
   rw [decide_eq_false_iff_not]
   intro e
   exact hl (by rw [e])
  rw [this]
  exact Ev.now _
theorem eqInts_same (a : List Int) (ha : a.length ≤ 9000000000000000000) : Ev (fun k => Z39.f k a a) true := by
 have := eqInts_ev a a ha
 simpa using this
theorem eqSurf_same (r u : List Int) (hr : r.length ≤ 9000000000000000000) (hu : u.length ≤ 9000000000000000000) : Ev (fun k => Z17.f k r u r u) true := by
 unfold Z17.f
 refine Ev.bind (eqInts_same r hr) ?_
 simp only [if_true]
 refine Ev.bind (eqInts_same u hu) ?_
 simp only [if_true]
 exact Ev.now _
theorem inv_of {p c : List Nat} (hp : IsP p) (hc : c.length = p.length) (h : ∀ j, j < p.length → g c (g p j) = j) : c = inv p := by
 refine ext_g (by rw [inv_len, hc]) (fun x hx => ?_)
 rw [hc] at hx
 rw [g_inv hx]
 have := h (ix p x) (ix_lt hp hx)
 rw [g_ix hp hx] at this
 exact this
theorem inv_step {p c : List Nat} (hp : IsP p) {i : Nat} (hi : i < p.length) (hc : c.length = p.length) (h : ∀ j, j < i → g c (g p j) = j) : ∀ j, j < i + 1 → g (c.set (g p i) i) (g p j) = j := by
 intro j hj
 rw [g_set (by rw [hc]; exact g_lt hp hi)]
 by_cases e : j = i
 ·subst e
  simp
 ·rw [if_neg (fun k => e (g_inj hp (by omega) hi k.symm))]
  exact h j (by omega)
theorem spec_inv {p : List Nat} (hp : IsP p) (h24 : p.length ≤ 24) : Ev (fun k => Z14.f k (I p)) (I (inv p)) := by
 unfold Z14.f
 have H : ∀ (d i : Nat) (c : List Nat), i + d = p.length → c.length = p.length → (∀ j, j < i → g c (g p j) = j) → Ev (fun k => Z14.l0 k (I c) (I p) (p.length : Int) (i : Int)) (I (inv p)) := by
  intro d
  induction d with
  | zero =>
   intro i c h hc hx
   refine ev_succ ?_
   have h1 : ¬ ((i : Int) < (p.length : Int)) := by omega
   rw [← inv_of hp hc (fun j hj => hx j (by omega))]
   simp only [Z14.l0, h1, if_false]
   exact Ev.now _
  | succ d ih =>
   intro i c h hc hx
   refine ev_succ ?_
   have hi : i < p.length := by omega
   have h1 : (i : Int) < (p.length : Int) := by omega
   have h2 : (0 : Int) ≤ (i : Int) := by omega
   have h3 := w64s i (by omega)
   have h4 : (0 : Int) ≤ ((g p i : Nat) : Int) := by omega
   have h5 : ((g p i : Nat) : Int) < (c.length : Int) := by have := g_lt hp hi; omega
   simp only [Z14.l0, h1, h2, h3, h4, h5, rdI, I_len', I_set, if_true, Int.toNat_natCast]
   exact ih (i + 1) _ (by omega) (by rw [List.length_set]; exact hc) (inv_step hp hi hc hx)
 have h1 : (0 : Int) ≤ (p.length : Int) := by omega
 have h2 : p.length ≤ 35184372088832 := by omega
 simp only [I_len', h1, h2, if_true, Int.toNat_natCast]
 have := H p.length 0 (List.replicate p.length 0) (by omega) (by simp) (fun j hj => by omega)
 rw [I_rep] at this
 exact this
theorem impl_inv {p : List Nat} (hp : IsP p) (h24 : p.length ≤ 24) : Ev (fun k => Z9.f k (I p)) (I (inv p)) := by
 unfold Z9.f
 have H : ∀ (d i : Nat) (c : List Nat), i + d = p.length → c.length = p.length → (∀ j, j < i → g c (g p j) = j) → Ev (fun k => Z9.l0 k (I c) (I p) (p.length : Int) (i : Int)) (I (inv p)) := by
  intro d
  induction d with
  | zero =>
   intro i c h hc hx
   refine ev_succ ?_
   have h1 : ¬ ((i : Int) < (p.length : Int)) := by omega
   rw [← inv_of hp hc (fun j hj => hx j (by omega))]
   simp only [Z9.l0, h1, if_false]
   exact Ev.now _
  | succ d ih =>
   intro i c h hc hx
   refine ev_succ ?_
   have hi : i < p.length := by omega
   have h1 : (i : Int) < (p.length : Int) := by omega
   have h2 : (0 : Int) ≤ (i : Int) := by omega
   have h3 := w64s i (by omega)
   have h4 : (0 : Int) ≤ ((g p i : Nat) : Int) := by omega
   have h5 : ((g p i : Nat) : Int) < (c.length : Int) := by have := g_lt hp hi; omega
   simp only [Z9.l0, h1, h2, h3, h4, h5, rdI, I_len', I_set, if_true, Int.toNat_natCast]
   exact ih (i + 1) _ (by omega) (by rw [List.length_set]; exact hc) (inv_step hp hi hc hx)
 refine Ev.bind (impl_permOk (I p)) ?_
 have h0 : permB (I p) = true := permB_I.mpr ⟨hp, h24⟩
 have h1 : (0 : Int) ≤ (p.length : Int) := by omega
 have h2 : p.length ≤ 35184372088832 := by omega
 simp only [h0, I_len', h1, h2, if_true, Int.toNat_natCast]
 have := H p.length 0 (List.replicate p.length 0) (by omega) (by simp) (fun j hj => by omega)
 rw [I_rep] at this
 exact this
end Go.Proofs.Ytbdnellgioimbaa.M
end
section
/- Half turns: the tests of the program and of the reference come to one plain test. No conditions. -/
namespace Go.Proofs.Ytbdnellgioimbaa.M
set_option linter.unusedVariables false
set_option linter.unusedSimpArgs false
open Go.RowKit Go.Proofs.YtbdnellgioimbaaW.PrintWords Go.Proofs.YtbdnellgioimbaaW.PrintLast Go.Proofs.YtbdnellgioimbaaW.PrintMore Go.Proofs.Ytbdnellgioimbaa.A
def Turn (r u a : List Nat) : Prop := ∀ i, i < a.length → g a (g r i) = ix r (g a i) ∧ g a (g u i) = ix u (g a i)
instance (r u a : List Nat) : Decidable (Turn r u a) := by unfold Turn; infer_instance
def turnB (r u a : List Int) : Bool := surfB r u && permB a && decide (a.length = r.length) && decide (Turn (N r) (N u) (N a))
theorem turnB_mk {r u a : List Nat} (hs : Sf r u) (ha : IsP a) (hl : a.length = r.length) : turnB (I r) (I u) (I a) = decide (Turn r u a) := by
 unfold turnB
 rw [surfB_I.mpr hs, permB_I.mpr ⟨ha, by have := hs.le; omega⟩, I_len, I_len, N_I, N_I, N_I]
 simp [hl]
theorem turn_nat {r u a : List Int} (h : turnB r u a = true) : ∃ r' u' a', r = I r' ∧ u = I u' ∧ a = I a' ∧ Sf r' u' ∧ IsP a' ∧ a'.length = r'.length ∧ Turn r' u' a' := by
 unfold turnB at h
 simp only [Bool.and_eq_true, decide_eq_true_eq] at h
 obtain ⟨⟨⟨h1, h2⟩, h3⟩, h4⟩ := h
 obtain ⟨r', u', rfl, rfl, hs⟩ := surf_nat h1
 obtain ⟨a', rfl, a1, a2⟩ := PI_nat (of_decide_eq_true h2)
 rw [N_I, N_I, N_I] at h4
 rw [I_len, I_len] at h3
 exact ⟨r', u', a', rfl, rfl, rfl, hs, a1, h3, h4⟩
def TurnFrom (r u a : List Nat) (i : Nat) : Prop := ∀ j, i ≤ j → j < a.length → g a (g r j) = ix r (g a j) ∧ g a (g u j) = ix u (g a j)
theorem turnFrom_step {r u a : List Nat} {i : Nat} (h : g a (g r i) = ix r (g a i) ∧ g a (g u i) = ix u (g a i)) : TurnFrom r u a i ↔ TurnFrom r u a (i + 1) := by
 constructor
 ·intro k j h1 h2
  exact k j (by omega) h2
 ·intro k j h1 h2
  by_cases e : j = i
  ·subst e
   exact h
  ·exact k j (by omega) h2
theorem turn_dec {r u a : List Nat} {b : Bool} (h : b = true ↔ TurnFrom r u a 0) : b = decide (Turn r u a) := by
 rw [Bool.eq_iff_iff, h, decide_eq_true_iff]
 constructor
 ·intro k i hi
  exact k i (Nat.zero_le _) hi
 ·intro k i _ hi
  exact k i hi
theorem cast_eq (a b : Nat) : (((a : Nat) : Int) = ((b : Nat) : Int)) = (a = b) := by
 apply propext
 omega
theorem spec_turn (r u a : List Int) : Ev (fun k => Z42.f k r u a) (turnB r u a) := by
 unfold Z42.f
 refine Ev.bind (spec_surf r u) ?_
 by_cases h1 : surfB r u = true
 ·simp only [h1, if_true]
  refine Ev.bind (spec_permOk a) ?_
  by_cases h2 : permB a = true
  ·simp only [h2, if_true]
   by_cases h3 : (a.length : Int) = (r.length : Int)
   ·simp only [h3, if_true]
    obtain ⟨r, u, rfl, rfl, hs⟩ := surf_nat h1
    obtain ⟨a, rfl, a1, a2⟩ := PI_nat (of_decide_eq_true h2)
    rw [I_len, I_len] at h3
    have h3' : a.length = r.length := by omega
    rw [turnB_mk hs a1 h3']
    have hle := hs.le
    have heq := hs.eq
    refine Ev.bind (a := decide (Turn r u a)) ?_ (Ev.now _)
    unfold Z35.f
    refine Ev.bind (spec_inv hs.pr hs.le) (Ev.bind (spec_inv hs.pu (by omega)) ?_)
    have H : ∀ d i : Nat, i + d = a.length → ∃ b, Ev (fun k => Z35.l0 k (I a) (I (inv r)) (I (inv u)) (I a) (a.length : Int) (i : Int) (I r) (I u)) b ∧ (b = true ↔ TurnFrom r u a i) := by
     intro d
     induction d with
     | zero =>
      intro i h
      refine ⟨true, ev_succ ?_, by simp; intro j h1 h2; omega⟩
      have h1 : ¬ ((i : Int) < (a.length : Int)) := by omega
      simp only [Z35.l0, h1, if_false]
      exact Ev.now _
     | succ d ih =>
      intro i h
      have hi : i < a.length := by omega
      have gr := g_lt hs.pr (i := i) (by omega)
      have gu := g_lt hs.pu (i := i) (by omega)
      have ga := g_lt a1 hi
      have c1 : (i : Int) < (a.length : Int) := by omega
      have c2 : (0 : Int) ≤ (i : Int) := by omega
      have c3 : (i : Int) < (r.length : Int) := by omega
      have c4 : (0 : Int) ≤ ((g r i : Nat) : Int) := by omega
      have c5 : ((g r i : Nat) : Int) < (a.length : Int) := by omega
      have c6 : (0 : Int) ≤ ((g a i : Nat) : Int) := by omega
      have c7 : ((g a i : Nat) : Int) < ((inv r).length : Int) := by rw [inv_len]; omega
      have c8 : (i : Int) < (u.length : Int) := by omega
      have c9 : (0 : Int) ≤ ((g u i : Nat) : Int) := by omega
      have c10 : ((g u i : Nat) : Int) < (a.length : Int) := by omega
      have c11 : ((g a i : Nat) : Int) < ((inv u).length : Int) := by rw [inv_len]; omega
      have e1 : g (inv r) (g a i) = ix r (g a i) := g_inv (by omega)
      have e2 : g (inv u) (g a i) = ix u (g a i) := g_inv (by omega)
      have h4 := w64s i (by omega)
      by_cases t1 : g a (g r i) = ix r (g a i)
      ·by_cases t2 : g a (g u i) = ix u (g a i)
       ·obtain ⟨b, i1, i2⟩ := ih (i + 1) (by omega)
        refine ⟨b, ev_succ ?_, by rw [i2]; exact (turnFrom_step ⟨t1, t2⟩).symm⟩
        simp only [Z35.l0, c1, c2, c3, c4, c5, c6, c7, c8, c9, c10, c11, h4, rdI, I_len', e1, e2, cast_eq, t1, t2, if_true]
        exact i1
       ·refine ⟨false, ev_succ ?_, by simp only [Bool.false_eq_true, false_iff]; intro k; exact t2 (k i (Nat.le_refl _) hi).2⟩
        simp only [Z35.l0, c1, c2, c3, c4, c5, c6, c7, c8, c9, c10, c11, rdI, I_len', e1, e2, cast_eq, t1, t2, if_true, if_false]
        exact Ev.now _
      ·refine ⟨false, ev_succ ?_, by simp only [Bool.false_eq_true, false_iff]; intro k; exact t1 (k i (Nat.le_refl _) hi).1⟩
       simp only [Z35.l0, c1, c2, c3, c4, c5, c6, c7, rdI, I_len', e1, cast_eq, t1, if_true, if_false]
       exact Ev.now _
    obtain ⟨b, i1, i2⟩ := H a.length 0 (by omega)
    rw [← turn_dec i2]
    simp only [I_len']
    exact i1
   ·simp only [h3, if_false]
    have : turnB r u a = false := by
     unfold turnB
     have : ¬ a.length = r.length := by omega
     simp [this]
    rw [this]
    exact Ev.now _
  ·have h2' := Bool.eq_false_iff.mpr h2
   simp only [h2', Bool.false_eq_true, if_false]
   have : turnB r u a = false := by unfold turnB; simp [h2']
   rw [this]
   exact Ev.now _
 ·have h1' := Bool.eq_false_iff.mpr h1
  simp only [h1', Bool.false_eq_true, if_false]
  have : turnB r u a = false := by unfold turnB; simp [h1']
  rw [this]
  exact Ev.now _
theorem turn_j0 (a r u : List Int) : Ev (fun k => Z36.j0 k a true r u) false := by
 refine ev_succ ?_
 simp only [Z36.j0, if_true]
 exact Ev.now _
theorem impl_turn (r u a : List Int) : Ev (fun k => Z36.f k r u a) (turnB r u a) := by
 unfold Z36.f
 refine Ev.bind (impl_surf r u) ?_
 by_cases h1 : surfB r u = true
 ·simp only [h1, if_true]
  refine Ev.bind (impl_permOk a) ?_
  by_cases h2 : permB a = true
  ·simp only [h2, if_true]
   by_cases h3 : (a.length : Int) = (r.length : Int)
   ·obtain ⟨r, u, rfl, rfl, hs⟩ := surf_nat h1
    obtain ⟨a, rfl, a1, a2⟩ := PI_nat (of_decide_eq_true h2)
    rw [I_len, I_len] at h3
    have h3' : a.length = r.length := by omega
    rw [turnB_mk hs a1 h3']
    have hle := hs.le
    have heq := hs.eq
    have h3b : ((a.length : Int) != (r.length : Int)) = false := by simp [h3]
    refine ev_succ ?_
    simp only [Z36.j0, I_len', h3b, Bool.false_eq_true, if_false]
    refine Ev.bind (impl_inv hs.pr hs.le) (Ev.bind (impl_inv hs.pu (by omega)) ?_)
    have H : ∀ d i : Nat, i + d = a.length → ∃ b, Ev (fun k => Z36.l0 k (I a) (I (inv r)) (I (inv u)) (a.length : Int) (i : Int) (I r) (I u)) b ∧ (b = true ↔ TurnFrom r u a i) := by
     intro d
     induction d with
     | zero =>
      intro i h
      refine ⟨true, ev_succ ?_, by simp; intro j h1 h2; omega⟩
      have h1 : ¬ ((i : Int) < (a.length : Int)) := by omega
      simp only [Z36.l0, h1, if_false]
      exact Ev.now _
     | succ d ih =>
      intro i h
      have hi : i < a.length := by omega
      have gr := g_lt hs.pr (i := i) (by omega)
      have gu := g_lt hs.pu (i := i) (by omega)
      have ga := g_lt a1 hi
      have c1 : (i : Int) < (a.length : Int) := by omega
      have c2 : (0 : Int) ≤ (i : Int) := by omega
      have c3 : (i : Int) < (r.length : Int) := by omega
      have c4 : (0 : Int) ≤ ((g r i : Nat) : Int) := by omega
      have c5 : ((g r i : Nat) : Int) < (a.length : Int) := by omega
      have c6 : (0 : Int) ≤ ((g a i : Nat) : Int) := by omega
      have c7 : ((g a i : Nat) : Int) < ((inv r).length : Int) := by rw [inv_len]; omega
      have c8 : (i : Int) < (u.length : Int) := by omega
      have c9 : (0 : Int) ≤ ((g u i : Nat) : Int) := by omega
      have c10 : ((g u i : Nat) : Int) < (a.length : Int) := by omega
      have c11 : ((g a i : Nat) : Int) < ((inv u).length : Int) := by rw [inv_len]; omega
      have e1 : g (inv r) (g a i) = ix r (g a i) := g_inv (by omega)
      have e2 : g (inv u) (g a i) = ix u (g a i) := g_inv (by omega)
      have h4 := w64s i (by omega)
      by_cases t1 : g a (g r i) = ix r (g a i)
      ·by_cases t2 : g a (g u i) = ix u (g a i)
       ·obtain ⟨b, i1, i2⟩ := ih (i + 1) (by omega)
        refine ⟨b, ev_succ ?_, by rw [i2]; exact (turnFrom_step ⟨t1, t2⟩).symm⟩
        simp only [Z36.l0, c1, c2, c3, c4, c5, c6, c7, c8, c9, c10, c11, h4, rdI, I_len', e1, e2, cast_eq, t1, t2, if_true]
        exact i1
       ·refine ⟨false, ev_succ ?_, by simp only [Bool.false_eq_true, false_iff]; intro k; exact t2 (k i (Nat.le_refl _) hi).2⟩
        simp only [Z36.l0, c1, c2, c3, c4, c5, c6, c7, c8, c9, c10, c11, rdI, I_len', e1, e2, cast_eq, t1, t2, if_true, if_false]
        exact Ev.now _
      ·refine ⟨false, ev_succ ?_, by simp only [Bool.false_eq_true, false_iff]; intro k; exact t1 (k i (Nat.le_refl _) hi).1⟩
       simp only [Z36.l0, c1, c2, c3, c4, c5, c6, c7, rdI, I_len', e1, cast_eq, t1, if_true, if_false]
       exact Ev.now _
    obtain ⟨b, i1, i2⟩ := H a.length 0 (by omega)
    rw [← turn_dec i2]
    exact i1
   ·have h3b : ((a.length : Int) != (r.length : Int)) = true := by simp; omega
    simp only [h3b]
    have : turnB r u a = false := by
     unfold turnB
     have : ¬ a.length = r.length := by omega
     simp [this]
    rw [this]
    exact turn_j0 a r u
  ·have h2' := Bool.eq_false_iff.mpr h2
   simp only [h2', Bool.false_eq_true, if_false]
   have : turnB r u a = false := by unfold turnB; simp [h2']
   rw [this]
   exact turn_j0 a r u
 ·have h1' := Bool.eq_false_iff.mpr h1
  simp only [h1', Bool.false_eq_true, if_false]
  have : turnB r u a = false := by unfold turnB; simp [h1']
  rw [this]
  exact turn_j0 a r u
end Go.Proofs.Ytbdnellgioimbaa.M
end
section
/- Plain mathematics: going round a permutation. No conditions. -/
namespace Go.Proofs.Ytbdnellgioimbaa.M
set_option linter.unusedVariables false
set_option linter.unusedSimpArgs false
def itr (p : List Nat) : Nat → Nat → Nat
 | 0, s => s
 | m + 1, s => g p (itr p m s)
theorem itr_lt {p : List Nat} (hp : IsP p) (m : Nat) {s : Nat} (hs : s < p.length) : itr p m s < p.length := by
 induction m with
 | zero => exact hs
 | succ m ih => exact g_lt hp ih
theorem itr_add (p : List Nat) (a b s : Nat) : itr p (a + b) s = itr p a (itr p b s) := by
 induction a with
 | zero => simp [itr]
 | succ a ih =>
  have e : a + 1 + b = (a + b) + 1 := by omega
  rw [e, itr, itr, ih]
theorem itr_back {p : List Nat} (hp : IsP p) {s : Nat} (hs : s < p.length) (i d : Nat) (h : itr p (i + d) s = itr p i s) : itr p d s = s := by
 induction i with
 | zero =>
  have e : 0 + d = d := by omega
  rw [e] at h
  exact h
 | succ i ih =>
  have e : i + 1 + d = (i + d) + 1 := by omega
  rw [e] at h
  exact ih (g_inj hp (itr_lt hp _ hs) (itr_lt hp _ hs) h)
theorem period {p : List Nat} (hp : IsP p) {s : Nat} (hs : s < p.length) : ∃ m, 1 ≤ m ∧ m ≤ p.length ∧ itr p m s = s := by
 apply Classical.byContradiction
 intro hn
 have hd : ((List.range (p.length + 1)).map (fun m => itr p m s)).Nodup := by
  refine List.pairwise_map.mpr ?_
  refine List.pairwise_iff_getElem.mpr ?_
  intro i j hi hj hij
  rw [List.length_range] at hi hj
  rw [List.getElem_range, List.getElem_range]
  intro e
  have : itr p (j - i) s = s := itr_back hp hs i (j - i) (by
   have e2 : i + (j - i) = j := by omega
   rw [e2]
   exact e.symm)
  exact hn ⟨j - i, by omega, by omega, this⟩
 have := nodup_le p.length _ hd (fun x hx => by
  obtain ⟨m, _, rfl⟩ := List.mem_map.mp hx
  exact itr_lt hp m hs)
 simp at this
 omega
def per (p : List Nat) (s : Nat) : Nat := (((List.range p.length).find? (fun m => itr p (m + 1) s == s)).getD 0) + 1
theorem per_spec {p : List Nat} (hp : IsP p) {s : Nat} (hs : s < p.length) : itr p (per p s) s = s ∧ per p s ≤ p.length ∧ ∀ m, 1 ≤ m → m < per p s → itr p m s ≠ s := by
 obtain ⟨m, m1, m2, m3⟩ := period hp hs
 unfold per
 cases h : (List.range p.length).find? (fun m => itr p (m + 1) s == s) with
 | none =>
  have := List.find?_eq_none.mp h (m - 1) (List.mem_range.mpr (by omega))
  have e : m - 1 + 1 = m := by omega
  rw [e, m3] at this
  simp at this
 | some a =>
  simp only [Option.getD_some]
  have h1 := List.find?_some h
  have h2 := List.mem_of_find?_eq_some h
  rw [List.mem_range] at h2
  refine ⟨by simpa using h1, by omega, fun m hm1 hm2 e => ?_⟩
  obtain ⟨_, as1, bs1, hb, hn⟩ := List.find?_eq_some_iff_append.mp h
  have hm : m - 1 ∈ as1 := by
   have hl : as1.length = a := by
    have e1 : (List.range p.length)[as1.length]? = some a := by rw [hb]; simp
    have := List.getElem?_eq_some_iff.mp e1
    obtain ⟨_, e2⟩ := this
    rw [List.getElem_range] at e2
    exact e2
   have e1 : (List.range p.length)[m - 1]? = some (m - 1) := by
    rw [List.getElem?_range]
    omega
   rw [hb, List.getElem?_append_left (by omega)] at e1
   exact List.mem_of_getElem? e1
  have := hn _ hm
  have e3 : m - 1 + 1 = m := by omega
  rw [e3, e] at this
  simp at this
theorem per_pos (p : List Nat) (s : Nat) : 1 ≤ per p s := by unfold per; omega
def orbTo (p : List Nat) (s m : Nat) : List Nat := (List.range m).map (fun k => itr p k s)
def orb (p : List Nat) (s : Nat) : List Nat := orbTo p s (per p s)
theorem mem_orbTo {p : List Nat} {s m x : Nat} : x ∈ orbTo p s m ↔ ∃ k, k < m ∧ itr p k s = x := by
 unfold orbTo
 simp
theorem orbTo_snoc (p : List Nat) (s m : Nat) : orbTo p s m ++ [itr p m s] = orbTo p s (m + 1) := by
 unfold orbTo
 rw [List.range_succ]
 simp
theorem orb_close {p : List Nat} (hp : IsP p) {s m : Nat} (hs : s < p.length) (hm : m < per p s) (h1 : 1 ≤ m) : itr p m s ∉ orbTo p s m := by
 intro h
 obtain ⟨k, hk, e⟩ := mem_orbTo.mp h
 have : itr p (m - k) s = s := itr_back hp hs k (m - k) (by
  have e2 : k + (m - k) = m := by omega
  rw [e2]
  exact e.symm)
 exact (per_spec hp hs).2.2 (m - k) (by omega) (by omega) this
theorem mem_orb {p : List Nat} (hp : IsP p) {s : Nat} (hs : s < p.length) {x : Nat} : x ∈ orb p s ↔ ∃ k, itr p k s = x := by
 constructor
 ·intro h
  obtain ⟨k, _, e⟩ := mem_orbTo.mp h
  exact ⟨k, e⟩
 ·intro ⟨k, e⟩
  have hper := per_spec hp hs
  have hpos := per_pos p s
  have hmod : ∀ k, itr p (k % per p s) s = itr p k s := by
   intro k
   have e1 : k % per p s + per p s * (k / per p s) = k := Nat.mod_add_div k (per p s)
   have hz : ∀ j, itr p (per p s * j) s = s := by
    intro j
    induction j with
    | zero => rfl
    | succ j ih =>
     have : per p s * (j + 1) = per p s * j + per p s := by rw [Nat.mul_add, Nat.mul_one]
     rw [this, itr_add, hper.1, ih]
   conv => rhs; rw [← e1]
   rw [itr_add, hz]
  exact mem_orbTo.mpr ⟨k % per p s, Nat.mod_lt _ (by omega), by rw [hmod, e]⟩
theorem orb_self {p : List Nat} (hp : IsP p) {s : Nat} (hs : s < p.length) : s ∈ orb p s := (mem_orb hp hs).mpr ⟨0, rfl⟩
theorem orb_lt {p : List Nat} (hp : IsP p) {s : Nat} (hs : s < p.length) {x : Nat} (h : x ∈ orb p s) : x < p.length := by
 obtain ⟨k, rfl⟩ := (mem_orb hp hs).mp h
 exact itr_lt hp k hs
theorem orb_sym {p : List Nat} (hp : IsP p) {s : Nat} (hs : s < p.length) {x : Nat} (h : x ∈ orb p s) : s ∈ orb p x := by
 obtain ⟨k, hk, e⟩ := mem_orbTo.mp h
 have hx := orb_lt hp hs h
 refine (mem_orb hp hx).mpr ⟨per p s - k, ?_⟩
 rw [← e, ← itr_add]
 have : per p s - k + k = per p s := by omega
 rw [this]
 exact (per_spec hp hs).1
theorem orb_trans {p : List Nat} (hp : IsP p) {s : Nat} (hs : s < p.length) {x y : Nat} (h : x ∈ orb p s) (k : y ∈ orb p x) : y ∈ orb p s := by
 have hx := orb_lt hp hs h
 obtain ⟨a, rfl⟩ := (mem_orb hp hs).mp h
 obtain ⟨b, rfl⟩ := (mem_orb hp hx).mp k
 exact (mem_orb hp hs).mpr ⟨b + a, itr_add p b a s⟩
def cyc (p : List Nat) : Nat → List (List Nat)
 | 0 => []
 | i + 1 => if ∃ c ∈ cyc p i, i ∈ c then cyc p i else cyc p i ++ [orb p i]
def cycles (p : List Nat) : List (List Nat) := cyc p p.length
theorem cyc_form (p : List Nat) (i : Nat) : ∀ c ∈ cyc p i, ∃ s, s < i ∧ c = orb p s := by
 induction i with
 | zero => intro c h; simp [cyc] at h
 | succ i ih =>
  intro c h
  unfold cyc at h
  split at h
  ·obtain ⟨s, h1, h2⟩ := ih c h
   exact ⟨s, by omega, h2⟩
  ·rcases List.mem_append.mp h with h | h
   ·obtain ⟨s, h1, h2⟩ := ih c h
    exact ⟨s, by omega, h2⟩
   ·exact ⟨i, by omega, by simpa using h⟩
theorem cyc_all {p : List Nat} (hp : IsP p) (i : Nat) (hi : i ≤ p.length) : ∀ x, x < i → ∃ c ∈ cyc p i, x ∈ c := by
 induction i with
 | zero => intro x h; omega
 | succ i ih =>
  intro x h
  unfold cyc
  by_cases e : x = i
  ·subst e
   split
   ·assumption
   ·exact ⟨orb p x, by simp, orb_self hp (by omega)⟩
  ·obtain ⟨c, h1, h2⟩ := ih (by omega) x (by omega)
   split
   ·exact ⟨c, h1, h2⟩
   ·exact ⟨c, List.mem_append.mpr (.inl h1), h2⟩
theorem orb_meet {p : List Nat} (hp : IsP p) {s t x : Nat} (hs : s < p.length) (ht : t < p.length) (h1 : x ∈ orb p s) (h2 : x ∈ orb p t) : t ∈ orb p s :=
 orb_trans hp hs h1 (orb_sym hp ht h2)
theorem cyc_new {p : List Nat} (hp : IsP p) {i : Nat} (hi : i < p.length) (h : ¬ ∃ c ∈ cyc p i, i ∈ c) {x : Nat} (hx : x ∈ orb p i) : ¬ ∃ c ∈ cyc p i, x ∈ c := by
 intro ⟨c, hc, hm⟩
 obtain ⟨s, hs, rfl⟩ := cyc_form p i c hc
 exact h ⟨_, hc, orb_meet hp (by omega) hi hm hx⟩
end Go.Proofs.Ytbdnellgioimbaa.M
end
section
/- Cycles: the program and the reference answer alike. No conditions. -/
namespace Go.Proofs.Ytbdnellgioimbaa.M
set_option linter.unusedVariables false
set_option linter.unusedSimpArgs false
open Go.RowKit Go.Proofs.YtbdnellgioimbaaW.PrintWords Go.Proofs.YtbdnellgioimbaaW.PrintLast Go.Proofs.YtbdnellgioimbaaW.PrintMore Go.Proofs.Ytbdnellgioimbaa.A
def I2 (l : List (List Nat)) : List (List Int) := l.map I
theorem I2_len (l : List (List Nat)) : (I2 l).length = l.length := by simp [I2]
theorem I2_snoc (l : List (List Nat)) (c : List Nat) : I2 l ++ [I c] = I2 (l ++ [c]) := by simp [I2]
theorem cyc_len (p : List Nat) (i : Nat) : (cyc p i).length ≤ i := by
 induction i with
 | zero => simp [cyc]
 | succ i ih =>
  unfold cyc
  split
  ·omega
  ·simp
   omega
theorem orbTo_len (p : List Nat) (s m : Nat) : (orbTo p s m).length = m := by simp [orbTo]
theorem mem_flat {l : List (List Nat)} {x : Nat} : x ∈ l.flatten ↔ ∃ c ∈ l, x ∈ c := by simp
theorem cyc_next {p : List Nat} (hp : IsP p) {i m : Nat} (hi : i < p.length) (hnew : ¬ ∃ c ∈ cyc p i, i ∈ c) (hm : m < per p i) : itr p m i ∉ (cyc p i).flatten ++ orbTo p i m := by
 intro h
 rcases List.mem_append.mp h with h | h
 ·exact cyc_new hp hi hnew ((mem_orb hp hi).mpr ⟨m, rfl⟩) (mem_flat.mp h)
 ·by_cases e : m = 0
  ·subst e
   simp [orbTo] at h
  ·exact orb_close hp hi hm (by omega) h
theorem cyc_shut {p : List Nat} (hp : IsP p) {i : Nat} (hi : i < p.length) : itr p (per p i) i ∈ (cyc p i).flatten ++ orbTo p i (per p i) := by
 rw [(per_spec hp hi).1]
 exact List.mem_append.mpr (.inr (orb_self hp hi))
theorem cyc_succ_new {p : List Nat} {i : Nat} (hnew : ¬ ∃ c ∈ cyc p i, i ∈ c) : cyc p (i + 1) = cyc p i ++ [orb p i] := by
 rw [cyc, if_neg hnew]
theorem cyc_succ_old {p : List Nat} {i : Nat} (h : ∃ c ∈ cyc p i, i ∈ c) : cyc p (i + 1) = cyc p i := by
 rw [cyc, if_pos h]
theorem marks_rep (n : Nat) : Marks n (List.replicate n false) ([] : List Nat) := by
 refine ⟨by simp, fun x hx => ?_⟩
 rw [List.getD_eq_getElem?_getD, List.getElem?_replicate]
 simp [hx]
theorem impl_cycles {p : List Nat} (hp : IsP p) (h24 : p.length ≤ 24) : Ev (fun k => Z24.f k (I p)) (I2 (cycles p)) := by
 unfold Z24.f
 refine Ev.bind (impl_permOk (I p)) ?_
 have h0 : permB (I p) = true := permB_I.mpr ⟨hp, h24⟩
 have h1 : (0 : Int) ≤ (p.length : Int) := by omega
 have h2 : p.length ≤ 281474976710656 := by omega
 simp only [h0, I_len', h1, h2, if_true, Int.toNat_natCast]
 have H : ∀ (d i : Nat) (s : List Bool), i + d = p.length → Marks p.length s (cyc p i).flatten → Ev (fun k => Z24.l0 k (I p) s (I2 (cyc p i)) (p.length : Int) (i : Int)) (I2 (cycles p)) := by
  intro d
  induction d with
  | zero =>
   intro i s h hm
   obtain rfl : i = p.length := by omega
   refine ev_succ ?_
   have h1 : ¬ ((p.length : Int) < (p.length : Int)) := by omega
   simp only [Z24.l0, h1, if_false]
   exact Ev.now _
  | succ d ih =>
   intro i s h hm
   have hi : i < p.length := by omega
   have c1 : (i : Int) < (p.length : Int) := by omega
   have c2 : (0 : Int) ≤ (i : Int) := by omega
   have c3 : (i : Int) < (s.length : Int) := by have := hm.1; omega
   have h3 := w64s i (by omega)
   refine ev_succ ?_
   by_cases hs : s.getD i false = true
   ·have ho := mem_flat.mp ((hm.2 i hi).mp hs)
    simp only [Z24.l0, c1, c2, c3, rdOf_nat, hs, if_true, h3]
    have := ih (i + 1) s (by omega) (by rw [cyc_succ_old ho]; exact hm)
    rw [cyc_succ_old ho] at this
    exact this
   ·have hnew : ¬ ∃ c ∈ cyc p i, i ∈ c := fun h => hs ((hm.2 i hi).mpr (mem_flat.mpr h))
    simp only [Z24.l0, c1, c2, c3, rdOf_nat, hs, if_true, if_false]
    have G : ∀ (e m : Nat) (t : List Bool), m + e = per p i → Marks p.length t ((cyc p i).flatten ++ orbTo p i m) → Ev (fun k => Z24.l1 k (I p) t (I2 (cyc p i)) (I (orbTo p i m)) ((itr p m i : Nat) : Int) (p.length : Int) (i : Int)) (I2 (cycles p)) := by
     intro e
     induction e with
     | zero =>
      intro m t he ht
      obtain rfl : m = per p i := by omega
      refine ev_succ ?_
      have hx := itr_lt hp (per p i) hi
      have d1 : (0 : Int) ≤ ((itr p (per p i) i : Nat) : Int) := by omega
      have d2 : ((itr p (per p i) i : Nat) : Int) < (t.length : Int) := by have := ht.1; omega
      have d3 := (ht.2 _ hx).mpr (cyc_shut hp hi)
      have d4 : (I2 (cyc p i)).length < 5864062014805 := by rw [I2_len]; have := cyc_len p i; omega
      simp only [Z24.l1, d1, d2, rdOf_nat, d3, d4, if_true, h3]
      have := ih (i + 1) t (by omega) (by rw [cyc_succ_new hnew]; simpa [orb] using ht)
      rw [cyc_succ_new hnew, ← I2_snoc] at this
      exact this
     | succ e ihe =>
      intro m t he ht
      refine ev_succ ?_
      have hx := itr_lt hp m hi
      have hn := cyc_next hp hi hnew (m := m) (by omega)
      have d1 : (0 : Int) ≤ ((itr p m i : Nat) : Int) := by omega
      have d2 : ((itr p m i : Nat) : Int) < (t.length : Int) := by have := ht.1; omega
      have d3 : ¬ t.getD (itr p m i) false = true := fun k => hn ((ht.2 _ hx).mp k)
      have d4 : (I (orbTo p i m)).length < 17592186044416 := by rw [I_len, orbTo_len]; have := (per_spec hp hi).2.1; omega
      have d5 : ((itr p m i : Nat) : Int) < (p.length : Int) := by omega
      simp only [Z24.l1, d1, d2, rdOf_nat, d3, d4, d5, I_len', if_true, if_false, rdI, Int.toNat_natCast, I_snoc, orbTo_snoc]
      have := ihe (m + 1) (t.set (itr p m i) true) (by omega) (by
       have := ht.add hx
       rw [List.append_assoc, orbTo_snoc] at this
       exact this)
      exact this
    have := G (per p i) 0 s (by omega) (by simpa [orbTo] using hm)
    exact this
 exact H p.length 0 _ (by omega) (by simpa [cyc] using marks_rep p.length)
theorem spec_cycles {p : List Nat} (hp : IsP p) (h24 : p.length ≤ 24) : Ev (fun k => Z26.f k (I p)) (I2 (cycles p)) := by
 unfold Z26.f
 refine Ev.bind (spec_permOk (I p)) ?_
 have h0 : permB (I p) = true := permB_I.mpr ⟨hp, h24⟩
 have h1 : (0 : Int) ≤ (p.length : Int) := by omega
 have h2 : p.length ≤ 281474976710656 := by omega
 simp only [h0, I_len', h1, h2, if_true, Int.toNat_natCast]
 have H : ∀ (d i : Nat) (s : List Bool), i + d = p.length → Marks p.length s (cyc p i).flatten → Ev (fun k => Z26.l0 k (I p) (I2 (cyc p i)) s (p.length : Int) (i : Int)) (I2 (cycles p)) := by
  intro d
  induction d with
  | zero =>
   intro i s h hm
   obtain rfl : i = p.length := by omega
   refine ev_succ ?_
   have h1 : ¬ ((p.length : Int) < (p.length : Int)) := by omega
   simp only [Z26.l0, h1, if_false]
   exact Ev.now _
  | succ d ih =>
   intro i s h hm
   have hi : i < p.length := by omega
   have c1 : (i : Int) < (p.length : Int) := by omega
   have c2 : (0 : Int) ≤ (i : Int) := by omega
   have c3 : (i : Int) < (s.length : Int) := by have := hm.1; omega
   have h3 := w64s i (by omega)
   refine ev_succ ?_
   simp only [Z26.l0, c1, if_true]
   by_cases hs : s.getD i false = true
   ·have ho := mem_flat.mp ((hm.2 i hi).mp hs)
    refine ev_succ ?_
    have d0 : ¬ ((([] : List Int).length : Int) > 0) := by simp
    simp only [Z26.l1, c2, c3, rdOf_nat, hs, if_true, d0, if_false, h3]
    have := ih (i + 1) s (by omega) (by rw [cyc_succ_old ho]; exact hm)
    rw [cyc_succ_old ho] at this
    exact this
   ·have hnew : ¬ ∃ c ∈ cyc p i, i ∈ c := fun h => hs ((hm.2 i hi).mpr (mem_flat.mpr h))
    have G : ∀ (e m : Nat) (t : List Bool), m + e = per p i → Marks p.length t ((cyc p i).flatten ++ orbTo p i m) → Ev (fun k => Z26.l1 k (I p) (I2 (cyc p i)) t (I (orbTo p i m)) ((itr p m i : Nat) : Int) (p.length : Int) (i : Int)) (I2 (cycles p)) := by
     intro e
     induction e with
     | zero =>
      intro m t he ht
      obtain rfl : m = per p i := by omega
      refine ev_succ ?_
      have hx := itr_lt hp (per p i) hi
      have hper := per_pos p i
      have d1 : (0 : Int) ≤ ((itr p (per p i) i : Nat) : Int) := by omega
      have d2 : ((itr p (per p i) i : Nat) : Int) < (t.length : Int) := by have := ht.1; omega
      have d3 := (ht.2 _ hx).mpr (cyc_shut hp hi)
      have d4 : (I2 (cyc p i)).length < 5864062014805 := by rw [I2_len]; have := cyc_len p i; omega
      have d0 : ((I (orbTo p i (per p i))).length : Int) > 0 := by rw [I_len, orbTo_len]; omega
      simp only [Z26.l1, d1, d2, rdOf_nat, d3, d4, d0, if_true, h3]
      have := ih (i + 1) t (by omega) (by rw [cyc_succ_new hnew]; simpa [orb] using ht)
      rw [cyc_succ_new hnew, ← I2_snoc] at this
      exact this
     | succ e ihe =>
      intro m t he ht
      refine ev_succ ?_
      have hx := itr_lt hp m hi
      have hn := cyc_next hp hi hnew (m := m) (by omega)
      have d1 : (0 : Int) ≤ ((itr p m i : Nat) : Int) := by omega
      have d2 : ((itr p m i : Nat) : Int) < (t.length : Int) := by have := ht.1; omega
      have d3 : ¬ t.getD (itr p m i) false = true := fun k => hn ((ht.2 _ hx).mp k)
      have d4 : (I (orbTo p i m)).length < 17592186044416 := by rw [I_len, orbTo_len]; have := (per_spec hp hi).2.1; omega
      have d5 : ((itr p m i : Nat) : Int) < (p.length : Int) := by omega
      simp only [Z26.l1, d1, d2, rdOf_nat, d3, d4, d5, I_len', if_true, if_false, rdI, Int.toNat_natCast, I_snoc, orbTo_snoc]
      have := ihe (m + 1) (t.set (itr p m i) true) (by omega) (by
       have := ht.add hx
       rw [List.append_assoc, orbTo_snoc] at this
       exact this)
      exact this
    have := G (per p i) 0 s (by omega) (by simpa [orbTo] using hm)
    exact this
 exact H p.length 0 _ (by omega) (by simpa [cyc] using marks_rep p.length)
end Go.Proofs.Ytbdnellgioimbaa.M
end
section
/- Marks on lists of lists. No conditions. -/
namespace Go.Proofs.Ytbdnellgioimbaa.M
set_option linter.unusedVariables false
set_option linter.unusedSimpArgs false
open Go.RowKit Go.Proofs.YtbdnellgioimbaaW.PrintWords Go.Proofs.YtbdnellgioimbaaW.PrintLast Go.Proofs.YtbdnellgioimbaaW.PrintMore Go.Proofs.Ytbdnellgioimbaa.A
def totL (xs : List (List Int)) : Nat := (xs.map List.length).sum
theorem totL_cons (x : List Int) (xs : List (List Int)) : totL (x :: xs) = x.length + totL xs := by simp [totL]
theorem getD_mid {α : Type} (p : List α) (x : α) (xs : List α) (d : α) : (p ++ x :: xs).getD p.length d = x := by
 rw [List.getD_eq_getElem?_getD, List.getElem?_append_right (Nat.le_refl _)]
 simp
end Go.Proofs.Ytbdnellgioimbaa.M
end
section
/- Rows: the program and the reference answer alike. No conditions. -/
namespace Go.Proofs.Ytbdnellgioimbaa.M
set_option linter.unusedVariables false
set_option linter.unusedSimpArgs false
open Go.RowKit Go.Proofs.YtbdnellgioimbaaW.PrintWords Go.Proofs.YtbdnellgioimbaaW.PrintLast Go.Proofs.YtbdnellgioimbaaW.PrintMore Go.Proofs.Ytbdnellgioimbaa.A
theorem cyc_flat_lt {p : List Nat} (hp : IsP p) : ∀ i, i ≤ p.length → (∀ x ∈ (cyc p i).flatten, x < p.length) ∧ (cyc p i).flatten.Nodup := by
 intro i
 induction i with
 | zero => intro _; simp [cyc]
 | succ i ih =>
  intro hi
  obtain ⟨h1, h2⟩ := ih (by omega)
  by_cases h : ∃ c ∈ cyc p i, i ∈ c
  ·rw [cyc_succ_old h]
   exact ⟨h1, h2⟩
  ·rw [cyc_succ_new h]
   simp only [List.flatten_append, List.flatten_cons, List.flatten_nil, List.append_nil]
   have hi' : i < p.length := by omega
   have ho : (orb p i).Nodup := by
    unfold orb orbTo
    refine List.pairwise_map.mpr ?_
    refine List.pairwise_iff_getElem.mpr ?_
    intro a b ha hb hab
    rw [List.length_range] at ha hb
    rw [List.getElem_range, List.getElem_range]
    intro e
    have hb0 : b < per p i := hb
    exact orb_close hp hi' hb0 (by omega) (mem_orbTo.mpr ⟨a, hab, e⟩)
   refine ⟨fun x hx => ?_, List.nodup_append.mpr ⟨h2, ho, fun a ha b hb e => ?_⟩⟩
   ·rcases List.mem_append.mp hx with hx | hx
    ·exact h1 x hx
    ·exact orb_lt hp hi' hx
   ·subst e
    exact cyc_new hp hi' h hb (mem_flat.mp ha)
theorem cycles_len {p : List Nat} (h24 : p.length ≤ 24) : (cycles p).length ≤ 24 := Nat.le_trans (cyc_len p p.length) h24
theorem cycle_len {p : List Nat} (hp : IsP p) (h24 : p.length ≤ 24) : ∀ c ∈ cycles p, c.length ≤ 24 := by
 intro c hc
 obtain ⟨s, hs, rfl⟩ := cyc_form p p.length c hc
 unfold orb
 rw [orbTo_len]
 have := (per_spec hp hs).2.1
 omega
structure SmallSS (l : List (List Int)) : Prop where
 n : l.length ≤ 24
 m : ∀ x ∈ l, x.length ≤ 24
 t : totL l ≤ 1000
theorem small_nil : SmallSS [] := ⟨by simp, by simp, by simp [totL]⟩
end Go.Proofs.Ytbdnellgioimbaa.M
end
section
/- Half turns as the program makes them. No conditions. -/
namespace Go.Proofs.Ytbdnellgioimbaa.M
set_option linter.unusedVariables false
set_option linter.unusedSimpArgs false
open Go.RowKit Go.Proofs.YtbdnellgioimbaaW.PrintWords Go.Proofs.YtbdnellgioimbaaW.PrintLast Go.Proofs.YtbdnellgioimbaaW.PrintMore Go.Proofs.Ytbdnellgioimbaa.A
structure TurnP (r u b : List Nat) : Prop where
 len : b.length = r.length
 p : IsP b
 t : Turn r u b
theorem ix_inj {p : List Nat} (hp : IsP p) {x y : Nat} (hx : x < p.length) (hy : y < p.length) (h : ix p x = ix p y) : x = y := by
 rw [← g_ix hp hx, ← g_ix hp hy, h]
def partL (n : Nat) (out : List Nat) (f : Nat → Nat) : List Int := (List.range n).map (fun x => if x ∈ out then ((f x : Nat) : Int) else -1)
theorem partL_len (n : Nat) (out : List Nat) (f : Nat → Nat) : (partL n out f).length = n := by simp [partL]
theorem rd_partL {n : Nat} {out : List Nat} {f : Nat → Nat} {x : Nat} (h : x < n) : rd (partL n out f) (x : Int) = if x ∈ out then ((f x : Nat) : Int) else -1 := by
 rw [rd_get _ _ (by rw [partL_len]; exact h)]
 simp [partL]
theorem partL_set {n : Nat} {out : List Nat} {f : Nat → Nat} {x y : Nat} (h : x < n) : (partL n out f).set x ((y : Nat) : Int) = partL n (out ++ [x]) (fun z => if z = x then y else f z) := by
 refine ext_rd (by rw [List.length_set, partL_len, partL_len]) (fun i hi => ?_)
 rw [List.length_set, partL_len] at hi
 rw [rd_set (by rw [partL_len]; exact h), rd_partL hi, rd_partL hi]
 by_cases e : x = i
 ·subst e
  simp
 ·have e' : ¬ i = x := fun h => e h.symm
  simp [e, e']
theorem partL_full {n : Nat} {out : List Nat} {f : Nat → Nat} (h : ∀ x, x < n → x ∈ out) : partL n out f = I (tab n f) := by
 refine ext_rd (by rw [partL_len, I_len, tab_len]) (fun i hi => ?_)
 rw [partL_len] at hi
 rw [rd_partL hi, rdI, g_tab hi, if_pos (h i hi)]
structure FI (r u : List Nat) (im : Nat) (out : List Nat) (f : Nat → Nat) : Prop where
 lt : ∀ x ∈ out, f x < r.length
 z : f 0 = im
 z0 : 0 ∈ out
 t : ∀ b, TurnP r u b → g b 0 = im → ∀ x ∈ out, f x = g b x
theorem FI.add {r u : List Nat} {im : Nat} {out : List Nat} {f : Nat → Nat} (h : FI r u im out f) {y v : Nat} (hy : y ∉ out) (hv : v < r.length) (ht : ∀ b, TurnP r u b → g b 0 = im → v = g b y) : FI r u im (out ++ [y]) (fun z => if z = y then v else f z) := by
 have h0 : (0 : Nat) ≠ y := fun e => hy (e ▸ h.z0)
 refine ⟨fun x hx => ?_, by simp [h0, h.z], by simp [h.z0], fun b hb hb0 x hx => ?_⟩
 ·by_cases e : x = y
  ·simp [e, hv]
  ·rcases List.mem_append.mp hx with hx | hx
   ·simp [e, h.lt x hx]
   ·exact absurd (by simpa using hx) e
 ·by_cases e : x = y
  ·subst e
   simp [ht b hb hb0]
  ·rcases List.mem_append.mp hx with hx | hx
   ·simp [e, h.t b hb hb0 x hx]
   ·exact absurd (by simpa using hx) e
theorem turnTo_one {r u : List Nat} (hs : Sf r u) {im : Nat} {out : List Nat} {f : Nat → Nat} (hr : RInv r.length out) (hf : FI r u im out f) {y v : Nat} (hy : y < r.length) (hv : v < r.length) (ht : ∀ b, TurnP r u b → g b 0 = im → v = g b y) (a j : Nat) (hj : j < 2) (ps : List S128) (hp : rd_T128 ps (j : Int) = ⟨(y : Int), (v : Int)⟩) (hps : ps.length = 2) (R : List Int → Prop)
  (H : ∀ f', FI r u im (st1 out y) f' → ∃ q, R q ∧ Ev (fun k => Z38.l2 k (I (inv r)) (I (inv u)) (partL r.length (st1 out y) f') (I (st1 out y)) (a : Int) ps 2 ((j + 1 : Nat) : Int) (I r) (I u)) q) :
  ∃ q, R q ∧ Ev (fun k => Z38.l2 k (I (inv r)) (I (inv u)) (partL r.length out f) (I out) (a : Int) ps 2 (j : Int) (I r) (I u)) q := by
 have c1 : (j : Int) < 2 := by omega
 have c2 : (0 : Int) ≤ (j : Int) := by omega
 have c3 : (j : Int) < (ps.length : Int) := by omega
 have c4 : (0 : Int) ≤ (y : Int) := by omega
 have c5 : (y : Int) < ((partL r.length out f).length : Int) := by rw [partL_len]; omega
 have c6 := w64s j (by omega)
 have c7 := rd_partL (n := r.length) (out := out) (f := f) hy
 have hle := hs.le
 have c8 : (I out).length < 17592186044416 := by rw [I_len]; have := hr.le; omega
 by_cases hm : y ∈ out
 ·have e : st1 out y = out := by unfold st1; rw [if_pos hm]
  obtain ⟨q, q1, q2⟩ := H f (by rw [e]; exact hf)
  rw [e] at q2
  refine ⟨q, q1, ev_succ ?_⟩
  rw [if_pos hm] at c7
  have c9 : ¬ (((f y : Nat) : Int) < 0) := by omega
  simp only [Z38.l2, c1, c2, c3, hp, c4, c5, c7, c9, c6, if_true, if_false]
  exact q2
 ·have e : st1 out y = out ++ [y] := by unfold st1; rw [if_neg hm]
  obtain ⟨q, q1, q2⟩ := H _ (by rw [e]; exact hf.add hm hv ht)
  rw [e] at q2
  refine ⟨q, q1, ev_succ ?_⟩
  rw [if_neg hm] at c7
  have c9 : ((-1 : Int) < 0) := by omega
  simp only [Z38.l2, c1, c2, c3, hp, c4, c5, c7, c9, c8, c6, if_true, Int.toNat_natCast, partL_set hy, I_snoc]
  exact q2
theorem turnTo_loop {r u : List Nat} (hs : Sf r u) {im : Nat} (F : Nat) : ∀ (a : Nat) (out : List Nat) (f : Nat → Nat), RInv r.length out → FI r u im out f → a ≤ out.length → r.length < F + a →
  ∃ f', FI r u im (bfs r u F a out) f' ∧ Ev (fun k => Z38.l1 k (I (inv r)) (I (inv u)) (partL r.length out f) (I out) (a : Int) (I r) (I u)) (partL r.length (bfs r u F a out) f') := by
 have hle := hs.le
 have heq := hs.eq
 induction F with
 | zero =>
  intro a out f hr hf ha hF
  have := hr.le
  omega
 | succ F ih =>
  intro a out f hr hf ha hF
  by_cases h : a < out.length
  ·have hb : bfs r u (F + 1) a out = bfs r u F (a + 1) (st1 (st1 out (g r (g out a))) (g u (g out a))) := by
    rw [bfs, if_pos h]
   rw [hb]
   have hx := hr.g h
   have hxm : g out a ∈ out := g_mem h
   have hg1 := g_lt hs.pr hx
   have hg2 : g u (g out a) < r.length := by rw [← heq]; exact g_lt hs.pu (by omega)
   have hfx := hf.lt _ hxm
   have hv1 := ix_lt hs.pr hfx
   have hv2 : ix u (f (g out a)) < r.length := by rw [← heq]; exact ix_lt hs.pu (by omega)
   have r1 := hr.st hg1
   have r2 := r1.st hg2
   have t1 : ∀ b, TurnP r u b → g b 0 = im → ix r (f (g out a)) = g b (g r (g out a)) := fun b hb hb0 => by
    rw [hf.t b hb hb0 _ hxm, (hb.t (g out a) (by rw [hb.len]; exact hx)).1]
   have t2 : ∀ b, TurnP r u b → g b 0 = im → ix u (f (g out a)) = g b (g u (g out a)) := fun b hb hb0 => by
    rw [hf.t b hb hb0 _ hxm, (hb.t (g out a) (by rw [hb.len]; exact hx)).2]
   have K := turnTo_one hs hr hf hg1 hv1 t1 a 0 (by omega) [⟨((g r (g out a) : Nat) : Int), ((ix r (f (g out a)) : Nat) : Int)⟩, ⟨((g u (g out a) : Nat) : Int), ((ix u (f (g out a)) : Nat) : Int)⟩] rfl rfl (fun q => ∃ f', FI r u im (bfs r u F (a + 1) (st1 (st1 out (g r (g out a))) (g u (g out a)))) f' ∧ q = partL r.length (bfs r u F (a + 1) (st1 (st1 out (g r (g out a))) (g u (g out a)))) f') (fun f1 hf1 => by
    refine turnTo_one hs r1 hf1 hg2 hv2 t2 a 1 (by omega) _ rfl rfl _ (fun f2 hf2 => ?_)
    obtain ⟨f', i1, i2⟩ := ih (a + 1) _ f2 r2 hf2 (Nat.le_trans (by omega : a + 1 ≤ out.length) (Nat.le_trans (st1_len _ _) (st1_len _ _))) (by omega)
    refine ⟨_, ⟨f', i1, rfl⟩, ev_succ ?_⟩
    have d1 : ¬ (((1 + 1 : Nat) : Int) < 2) := by omega
    have d2 := w64s a (by have := hr.le; omega)
    simp only [Z38.l2, d1, if_false, d2]
    exact i2)
   obtain ⟨q, ⟨f', k1, k2⟩, k3⟩ := K
   refine ⟨f', k1, ?_⟩
   rw [← k2]
   refine ev_succ ?_
   have c1 : (a : Int) < (out.length : Int) := by omega
   have c2 : (0 : Int) ≤ (a : Int) := by omega
   have c3 : (0 : Int) ≤ ((g out a : Nat) : Int) := by omega
   have c4 : ((g out a : Nat) : Int) < (r.length : Int) := by omega
   have c5 : ((g out a : Nat) : Int) < ((partL r.length out f).length : Int) := by rw [partL_len]; omega
   have c6 := rd_partL (n := r.length) (out := out) (f := f) hx
   rw [if_pos hxm] at c6
   have c7 : (0 : Int) ≤ ((f (g out a) : Nat) : Int) := by omega
   have c8 : ((f (g out a) : Nat) : Int) < ((inv r).length : Int) := by rw [inv_len]; omega
   have c9 : ((g out a : Nat) : Int) < (u.length : Int) := by omega
   have c10 : ((f (g out a) : Nat) : Int) < ((inv u).length : Int) := by rw [inv_len]; omega
   have e1 : g (inv r) (f (g out a)) = ix r (f (g out a)) := g_inv hfx
   have e2 : g (inv u) (f (g out a)) = ix u (f (g out a)) := g_inv (by omega)
   simp only [Z38.l1, c1, c2, rdI, c3, c4, c5, c6, c7, c8, c9, c10, I_len', e1, e2, if_true, Option.bind_some]
   exact k3
  ·have hb : bfs r u (F + 1) a out = out := by rw [bfs, if_neg h]
   rw [hb]
   refine ⟨f, hf, ev_succ ?_⟩
   have c1 : ¬ ((a : Int) < (out.length : Int)) := by omega
   simp only [Z38.l1, c1, I_len', if_false]
   exact Ev.now _
theorem reach_all {r u : List Nat} (hs : Sf r u) (hnd : (reach r u 0).Nodup) (hlt : ∀ x ∈ reach r u 0, x < r.length) : ∀ x, x < r.length → x ∈ reach r u 0 := by
 have hp : IsP (reach r u 0) := ⟨fun x hx => by rw [hs.all]; exact hlt x hx, hnd⟩
 intro x hx
 exact mem_all hp (by rw [hs.all]; exact hx)
theorem bfs_inv {r u : List Nat} (hs : Sf r u) (F : Nat) : ∀ (a : Nat) (out : List Nat), RInv r.length out → RInv r.length (bfs r u F a out) := by
 induction F with
 | zero => intro a out h; exact h
 | succ F ih =>
  intro a out h
  unfold bfs
  split
  ·rename_i ha
   have hx := h.g ha
   exact ih _ _ ((h.st (g_lt hs.pr hx)).st (by rw [← hs.eq]; exact g_lt hs.pu (by rw [hs.eq]; exact hx)))
  ·exact h
theorem reach_inv {r u : List Nat} (hs : Sf r u) : RInv r.length (reach r u 0) := bfs_inv hs _ _ _ ⟨by simp, by have := hs.pos; simpa using this⟩
theorem impl_turnTo_ev {r u : List Nat} (hs : Sf r u) {im : Nat} (him : im < r.length) : ∃ t, t.length = r.length ∧ g t 0 = im ∧ (∀ b, TurnP r u b → g b 0 = im → t = b) ∧ Ev (fun k => Z38.f k (I r) (I u) (im : Int)) (I t) := by
 have hle := hs.le
 have heq := hs.eq
 have hpos := hs.pos
 have hf0 : FI r u im [0] (fun _ => im) := ⟨fun x hx => him, rfl, by simp, fun b hb hb0 x hx => by
  have : x = 0 := by simpa using hx
  subst this
  exact hb0.symm⟩
 obtain ⟨f, hf, hev⟩ := turnTo_loop hs (r.length + 1) 0 [0] (fun _ => im) ⟨by simp, by simpa using hpos⟩ hf0 (by simp) (by omega)
 have hri := reach_inv hs
 have hall := reach_all hs hri.nd hri.lt
 have hb : bfs r u (r.length + 1) 0 [0] = reach r u 0 := rfl
 rw [hb] at hf hev
 rw [partL_full hall] at hev
 refine ⟨tab r.length f, tab_len _ _, by rw [g_tab hpos, hf.z], fun b hb hb0 => ?_, ?_⟩
 ·exact (eq_tab hb.len (fun i hi => (hf.t b hb hb0 i (hall i hi)).symm)).symm
 ·unfold Z38.f
  refine Ev.bind (impl_inv hs.pr hs.le) (Ev.bind (impl_inv hs.pu (by omega)) ?_)
  have h1 : (0 : Int) ≤ (r.length : Int) := by omega
  have h2 : r.length ≤ 35184372088832 := by omega
  simp only [I_len', h1, h2, if_true, Int.toNat_natCast, Option.bind_some, List.length_replicate]
  have H : ∀ (d i : Nat) (c : List Int), i + d = r.length → c.length = r.length → (∀ j : Nat, j < i → rd c (j : Int) = -1) → Ev (fun k => Z38.l0 k (im : Int) (I (inv r)) (I (inv u)) c (r.length : Int) (i : Int) (I r) (I u)) (I (tab r.length f)) := by
   intro d
   induction d with
   | zero =>
    intro i c h hc hx
    refine ev_succ ?_
    have c1 : ¬ ((i : Int) < (r.length : Int)) := by omega
    have c2 : (0 : Int) < (c.length : Int) := by omega
    have e : c.set (0 : Int).toNat (im : Int) = partL r.length [0] (fun _ => im) := by
     have e0 : c = partL r.length [] (fun _ => im) := ext_rd (by rw [hc, partL_len]) (fun j hj => by
      rw [rd_partL (by omega), hx j (by omega)]
      simp)
     rw [e0, show (0 : Int).toNat = 0 from rfl, partL_set hpos]
     refine ext_rd (by rw [partL_len, partL_len]) (fun j hj => ?_)
     rw [partL_len] at hj
     rw [rd_partL hj, rd_partL hj]
     by_cases e : j = 0
     ·simp [e]
     ·simp [e]
    simp only [Z38.l0, c1, c2, if_true, if_false, e]
    exact hev
   | succ d ih =>
    intro i c h hc hx
    refine ev_succ ?_
    have c1 : (i : Int) < (r.length : Int) := by omega
    have c2 : (0 : Int) ≤ (i : Int) := by omega
    have c3 : (i : Int) < (c.length : Int) := by omega
    have c4 := w64s i (by omega)
    simp only [Z38.l0, c1, c2, c3, c4, if_true, Int.toNat_natCast]
    refine ih (i + 1) _ (by omega) (by rw [List.length_set]; exact hc) (fun j hj => ?_)
    rw [rd_set (by omega)]
    by_cases e : i = j
    ·simp [e]
    ·rw [if_neg e]
     exact hx j (by omega)
  exact H r.length 0 _ (by omega) (by simp) (fun j hj => by omega)
end Go.Proofs.Ytbdnellgioimbaa.M
end
section
/- Half turns: the program and the reference find the same ones. No conditions. -/
namespace Go.Proofs.Ytbdnellgioimbaa.M
set_option linter.unusedVariables false
set_option linter.unusedSimpArgs false
open Go.RowKit Go.Proofs.YtbdnellgioimbaaW.PrintWords Go.Proofs.YtbdnellgioimbaaW.PrintLast Go.Proofs.YtbdnellgioimbaaW.PrintMore Go.Proofs.Ytbdnellgioimbaa.A
def Led (r u out : List Nat) (a : Nat) : Prop := ∀ i, i < out.length → 0 < i → ∃ j, j < i ∧ j < a ∧ (g out i = g r (g out j) ∨ g out i = g u (g out j))
theorem g_app {out : List Nat} {x i : Nat} (h : i < out.length) : g (out ++ [x]) i = g out i := by
 unfold g
 rw [List.getD_eq_getElem?_getD, List.getD_eq_getElem?_getD, List.getElem?_append_left h]
theorem g_last (out : List Nat) (x : Nat) : g (out ++ [x]) out.length = x := getD_mid out x [] 0
theorem g_st1 {out : List Nat} {x i : Nat} (h : i < out.length) : g (st1 out x) i = g out i := by
 unfold st1
 split
 ·rfl
 ·exact g_app h
theorem Led.st {r u out : List Nat} {a y : Nat} (h : Led r u out (a + 1)) (ha : a < out.length) (hy : y = g r (g out a) ∨ y = g u (g out a)) : Led r u (st1 out y) (a + 1) := by
 unfold st1
 split
 ·exact h
 ·intro i hi h0
  by_cases e : i < out.length
  ·obtain ⟨j, j1, j2, j3⟩ := h i e h0
   refine ⟨j, j1, j2, ?_⟩
   rw [g_app e, g_app (by omega)]
   exact j3
  ·have e2 : i = out.length := by simp at hi; omega
   subst e2
   refine ⟨a, ha, by omega, ?_⟩
   rw [g_last, g_app ha]
   exact hy
theorem bfs_led {r u : List Nat} (F : Nat) : ∀ (a : Nat) (out : List Nat), Led r u out a → a ≤ out.length → Led r u (bfs r u F a out) (bfs r u F a out).length := by
 induction F with
 | zero =>
  intro a out h ha i hi h0
  obtain ⟨j, j1, j2, j3⟩ := h i hi h0
  have hi' : i < out.length := hi
  exact ⟨j, j1, by show j < out.length; omega, j3⟩
 | succ F ih =>
  intro a out h ha
  unfold bfs
  split
  ·rename_i h1
   have k0 : Led r u out (a + 1) := fun i hi h0 => by
    obtain ⟨j, j1, j2, j3⟩ := h i hi h0
    exact ⟨j, j1, by omega, j3⟩
   have l1 := st1_len out (g r (g out a))
   have l2 := st1_len (st1 out (g r (g out a))) (g u (g out a))
   have k1 := k0.st h1 (y := g r (g out a)) (.inl rfl)
   have k2 := k1.st (a := a) (y := g u (g out a)) (by omega) (.inr (by rw [g_st1 h1]))
   exact ih _ _ k2 (by omega)
  ·intro i hi h0
   obtain ⟨j, j1, j2, j3⟩ := h i hi h0
   exact ⟨j, j1, by omega, j3⟩
theorem reach_led (r u : List Nat) (s : Nat) : Led r u (reach r u s) (reach r u s).length := bfs_led _ _ _ (fun i hi h0 => by simp at hi; omega) (by simp)
theorem reach_head {r u : List Nat} {s : Nat} : g (reach r u s) 0 = s ∧ 0 < (reach r u s).length := by
 have H : ∀ F a (out : List Nat), 0 < out.length → g (bfs r u F a out) 0 = g out 0 ∧ 0 < (bfs r u F a out).length := by
  intro F
  induction F with
  | zero => intro a out h; exact ⟨rfl, h⟩
  | succ F ih =>
   intro a out h
   unfold bfs
   split
   ·have l1 := st1_len out (g r (g out a))
    have l2 := st1_len (st1 out (g r (g out a))) (g u (g out a))
    obtain ⟨h1, h2⟩ := ih (a + 1) (st1 (st1 out (g r (g out a))) (g u (g out a))) (by omega)
    refine ⟨?_, h2⟩
    rw [h1, g_st1 (by omega), g_st1 h]
   ·exact ⟨rfl, h⟩
 exact H _ _ [s] (by simp)
inductive Given (r u L : List Nat) (i : Nat) : Nat → Prop
 | z : Given r u L i 0
 | r (j : Nat) : j < i → Given r u L i (g r (g L j))
 | u (j : Nat) : j < i → Given r u L i (g u (g L j))
theorem Given.mono {r u L : List Nat} {i x : Nat} (h : Given r u L i x) : Given r u L (i + 1) x := by
 cases h with
 | z => exact .z
 | r j hj => exact .r j (by omega)
 | u j hj => exact .u j (by omega)
theorem given_at {r u : List Nat} {i : Nat} (hi : i < (reach r u 0).length) : Given r u (reach r u 0) i (g (reach r u 0) i) := by
 by_cases h0 : i = 0
 ·subst h0
  rw [reach_head.1]
  exact .z
 ·obtain ⟨j, j1, _, j3⟩ := reach_led r u 0 i hi (by omega)
  rcases j3 with j3 | j3
  ·rw [j3]; exact .r j j1
  ·rw [j3]; exact .u j j1
structure GI (r u : List Nat) (im : Nat) (i : Nat) (c : List Nat) : Prop where
 len : c.length = r.length
 lt : ∀ x, x < r.length → g c x < r.length
 t : ∀ b, TurnP r u b → g b 0 = im → ∀ x, Given r u (reach r u 0) i x → g c x = g b x
 n : ∀ b, TurnP r u b → g b 0 ≠ im → ∀ x, Given r u (reach r u 0) i x → g c x ≠ g b x
theorem GI.put {r u : List Nat} (hs : Sf r u) {p : List Nat} (hp : p = r ∨ p = u) {im : Nat} {c : List Nat} (P : Nat → Prop) (h1 : c.length = r.length) (h2 : ∀ x, x < r.length → g c x < r.length) (ht : ∀ b, TurnP r u b → g b 0 = im → ∀ x, P x → g c x = g b x) (hn : ∀ b, TurnP r u b → g b 0 ≠ im → ∀ x, P x → g c x ≠ g b x) {x : Nat} (hx : x < r.length) (hP : P x) :
  (c.set (g p x) (ix p (g c x))).length = r.length ∧ (∀ z, z < r.length → g (c.set (g p x) (ix p (g c x))) z < r.length) ∧ (∀ b, TurnP r u b → g b 0 = im → ∀ z, (P z ∨ z = g p x) → g (c.set (g p x) (ix p (g c x))) z = g b z) ∧ (∀ b, TurnP r u b → g b 0 ≠ im → ∀ z, (P z ∨ z = g p x) → g (c.set (g p x) (ix p (g c x))) z ≠ g b z) := by
 have heq := hs.eq
 have ipp : IsP p := by rcases hp with rfl | rfl; exact hs.pr; exact hs.pu
 have hpl : p.length = r.length := by rcases hp with rfl | rfl; rfl; exact heq
 have gx := g_lt ipp (i := x) (by omega)
 have cx := h2 x hx
 have hv := ix_lt ipp (x := g c x) (by omega)
 have tp : ∀ b, TurnP r u b → g b (g p x) = ix p (g b x) := fun b hb => by
  have := hb.t x (by rw [hb.len]; exact hx)
  rcases hp with rfl | rfl
  ·exact this.1
  ·exact this.2
 refine ⟨by rw [List.length_set]; exact h1, fun z hz => ?_, fun b hb hb0 z hz => ?_, fun b hb hb0 z hz => ?_⟩
 ·rw [g_set (by omega)]
  split
  ·omega
  ·exact h2 z hz
 ·rw [g_set (by omega)]
  by_cases e : g p x = z
  ·rw [if_pos e, ← e, tp b hb, ht b hb hb0 x hP]
  ·rw [if_neg e]
   rcases hz with hz | hz
   ·exact ht b hb hb0 z hz
   ·exact absurd hz.symm e
 ·rw [g_set (by omega)]
  by_cases e : g p x = z
  ·rw [if_pos e, ← e, tp b hb]
   intro h
   exact hn b hb hb0 x hP (ix_inj ipp (by omega) (by have := g_lt hb.p (i := x) (by rw [hb.len]; exact hx); rw [hb.len] at this; omega) h)
  ·rw [if_neg e]
   rcases hz with hz | hz
   ·exact hn b hb hb0 z hz
   ·exact absurd hz.symm e
theorem from_loop {r u : List Nat} (hs : Sf r u) {im : Nat} : ∀ (d i : Nat) (c : List Nat), i + d = r.length → GI r u im i c → ∃ t, GI r u im r.length t ∧ Ev (fun k => Z34.l0 k (I (inv r)) (I (inv u)) (I c) (I (reach r u 0)) ((reach r u 0).length : Int) (i : Int) (I r) (I u)) (I t) := by
 have hle := hs.le
 have heq := hs.eq
 have hall := hs.all
 have hri := reach_inv hs
 intro d
 induction d with
 | zero =>
  intro i c h hc
  obtain rfl : i = r.length := by omega
  refine ⟨c, hc, ev_succ ?_⟩
  have c1 : ¬ ((r.length : Int) < ((reach r u 0).length : Int)) := by omega
  simp only [Z34.l0, c1, if_false]
  exact Ev.now _
 | succ d ih =>
  intro i c h hc
  have hi : i < (reach r u 0).length := by omega
  have hx : g (reach r u 0) i < r.length := hri.lt _ (g_mem hi)
  generalize hX : g (reach r u 0) i = x at hx
  have hg : Given r u (reach r u 0) i x := by rw [← hX]; exact given_at hi
  obtain ⟨p1, p2, p3, p4⟩ := GI.put hs (p := r) (.inl rfl) (Given r u (reach r u 0) i) hc.len hc.lt hc.t hc.n hx hg
  obtain ⟨q1, q2, q3, q4⟩ := GI.put hs (p := u) (.inr rfl) _ p1 p2 p3 p4 hx (.inl hg)
  have sub : ∀ z, Given r u (reach r u 0) (i + 1) z → ((Given r u (reach r u 0) i z ∨ z = g r x) ∨ z = g u x) := by
   intro z hz
   cases hz with
   | z => exact .inl (.inl .z)
   | r j hj =>
    by_cases e : j = i
    ·subst e; rw [hX]; exact .inl (.inr rfl)
    ·exact .inl (.inl (.r j (by omega)))
   | u j hj =>
    by_cases e : j = i
    ·subst e; rw [hX]; exact .inr rfl
    ·exact .inl (.inl (.u j (by omega)))
  obtain ⟨t, t1, t2⟩ := ih (i + 1) _ (by omega) ⟨q1, q2, fun b hb h0 z hz => q3 b hb h0 z (sub z hz), fun b hb h0 z hz => q4 b hb h0 z (sub z hz)⟩
  refine ⟨t, t1, ev_succ ?_⟩
  have gr := g_lt hs.pr hx
  have gu : g u x < r.length := by rw [← heq]; exact g_lt hs.pu (by omega)
  have cx := hc.lt x hx
  have c1x := p2 x hx
  have c1 : (i : Int) < ((reach r u 0).length : Int) := by omega
  have c2 : (0 : Int) ≤ (i : Int) := by omega
  have c3 : (0 : Int) ≤ (x : Int) := by omega
  have c4 : (x : Int) < (r.length : Int) := by omega
  have c5 : (x : Int) < (c.length : Int) := by have := hc.len; omega
  have c6 : (0 : Int) ≤ ((g c x : Nat) : Int) := by omega
  have c7 : ((g c x : Nat) : Int) < ((inv r).length : Int) := by rw [inv_len]; omega
  have c8 : (0 : Int) ≤ ((g r x : Nat) : Int) := by omega
  have c9 : ((g r x : Nat) : Int) < (c.length : Int) := by have := hc.len; omega
  have c10 : (x : Int) < (u.length : Int) := by omega
  have e1 : g (inv r) (g c x) = ix r (g c x) := g_inv cx
  have c11 : (0 : Int) ≤ ((g (c.set (g r x) (ix r (g c x))) x : Nat) : Int) := by omega
  have c12 : ((g (c.set (g r x) (ix r (g c x))) x : Nat) : Int) < ((inv u).length : Int) := by rw [inv_len]; omega
  have c13 : (0 : Int) ≤ ((g u x : Nat) : Int) := by omega
  have c14 : ((g u x : Nat) : Int) < (c.length : Int) := by have := hc.len; omega
  have e2 : g (inv u) (g (c.set (g r x) (ix r (g c x))) x) = ix u (g (c.set (g r x) (ix r (g c x))) x) := g_inv (by omega)
  have h4 := w64s i (by omega)
  simp only [Z34.l0, c1, c2, rdI, hX, c3, c4, c5, c6, c7, c8, c9, c10, I_len', e1, I_set, if_true, Option.bind_some, Int.toNat_natCast, c11, c12, c13, c14, e2, h4]
  exact t2
theorem spec_from_ev {r u : List Nat} (hs : Sf r u) {im : Nat} (him : im < r.length) : ∃ t, t.length = r.length ∧ (∀ b, TurnP r u b → g b 0 = im → t = b) ∧ (∀ b, TurnP r u b → g b 0 ≠ im → t ≠ b) ∧ Ev (fun k => Z34.f k (I r) (I u) (im : Int)) (I t) := by
 have hle := hs.le
 have heq := hs.eq
 have hpos := hs.pos
 have hri := reach_inv hs
 have hall := reach_all hs hri.nd hri.lt
 have h0 : GI r u im 0 ((List.replicate r.length 0).set 0 im) := by
  refine ⟨by simp, fun x hx => ?_, fun b hb h0 x hx => ?_, fun b hb h0 x hx => ?_⟩
  ·rw [g_set (by simpa using hpos)]
   split
   ·exact him
   ·unfold g
    rw [List.getD_eq_getElem?_getD, List.getElem?_replicate]
    simp [hx]
    omega
  ·cases hx with
   | z => rw [g_set (by simpa using hpos)]; simp [h0]
   | r j hj => omega
   | u j hj => omega
  ·cases hx with
   | z => rw [g_set (by simpa using hpos)]; simpa using fun h => h0 h.symm
   | r j hj => omega
   | u j hj => omega
 obtain ⟨t, t1, t2⟩ := from_loop hs r.length 0 _ (by omega) h0
 have hgiven : ∀ x, x < r.length → Given r u (reach r u 0) r.length x := fun x hx => by
  obtain ⟨i, hi, e⟩ := mem_g (hall x hx)
  have := given_at (r := r) (u := u) hi
  rw [e] at this
  have hm : ∀ d j y, Given r u (reach r u 0) j y → Given r u (reach r u 0) (j + d) y := by
   intro d
   induction d with
   | zero => intro j y h; exact h
   | succ d ihd => intro j y h; exact (ihd j y h).mono
  have h2 := hm (r.length - i) i x this
  have e2 : i + (r.length - i) = r.length := by have := hs.all; omega
  rw [e2] at h2
  exact h2
 refine ⟨t, t1.len, fun b hb hb0 => ?_, fun b hb hb0 e => ?_, ?_⟩
 ·exact ext_g (by rw [t1.len, hb.len]) (fun i hi => t1.t b hb hb0 i (hgiven i (by rw [← t1.len]; exact hi)))
 ·exact t1.n b hb hb0 0 .z (by rw [e])
 ·unfold Z34.f
  refine Ev.bind (spec_inv hs.pr hs.le) (Ev.bind (spec_inv hs.pu (by omega)) ?_)
  have h1 : (0 : Int) ≤ (r.length : Int) := by omega
  have h2 : r.length ≤ 35184372088832 := by omega
  have h3 : (0 : Int) < (r.length : Int) := by omega
  simp only [I_len', h1, h2, h3, if_true, Int.toNat_natCast, Option.bind_some, List.length_replicate]
  refine Ev.bind (reach_ev hs.pr hs.pu heq hs.le 0 hpos) ?_
  have e0 : (List.replicate r.length (0 : Int)).set (0 : Int).toNat (im : Int) = I ((List.replicate r.length 0).set 0 im) := by
   rw [← I_set, I_rep]
   rfl
  rw [e0]
  simp only [I_len']
  exact t2
theorem turns_alike {r u : List Nat} (hs : Sf r u) {im : Nat} (him : im < r.length) : ∃ t1 t2, Ev (fun k => Z38.f k (I r) (I u) (im : Int)) (I t1) ∧ Ev (fun k => Z34.f k (I r) (I u) (im : Int)) (I t2) ∧ t1.length = r.length ∧ (turnB (I r) (I u) (I t1) = turnB (I r) (I u) (I t2)) ∧ (turnB (I r) (I u) (I t1) = true → t1 = t2) := by
 obtain ⟨t1, a1, a2, a3, a4⟩ := impl_turnTo_ev hs him
 obtain ⟨t2, b1, b2, b3, b4⟩ := spec_from_ev hs him
 have k : ∀ t, turnB (I r) (I u) (I t) = true → TurnP r u t := fun t h => by
  obtain ⟨r', u', a', e1, e2, e3, _, hp, hl, ht⟩ := turn_nat h
  have := I_inj e1; have := I_inj e2; have := I_inj e3
  subst_vars
  exact ⟨hl, hp, ht⟩
 have h1 : turnB (I r) (I u) (I t1) = true → t1 = t2 := fun h => (b2 t1 (k t1 h) a2).symm
 have h2 : turnB (I r) (I u) (I t2) = true → t1 = t2 := fun h => by
  have hb := k t2 h
  by_cases e : g t2 0 = im
  ·exact a3 t2 hb e
  ·exact absurd rfl (b3 t2 hb e)
 refine ⟨t1, t2, a4, b4, a1, ?_, h1⟩
 rw [Bool.eq_iff_iff]
 constructor
 ·intro h
  rw [← h1 h]
  exact h
 ·intro h
  rw [h2 h]
  exact h
theorem turns_both (r u : List Int) : ∃ l, Ev (fun k => Z32.f k r u) l ∧ Ev (fun k => Z30.f k r u) l ∧ SmallSS l := by
 unfold Z32.f Z30.f
 by_cases h : surfB r u = true
 ·obtain ⟨r, u, rfl, rfl, hs⟩ := surf_nat h
  have hle := hs.le
  have H : ∀ (d i : Nat) (acc : List (List Int)), i + d = r.length → acc.length ≤ i → (∀ x ∈ acc, x.length = r.length) → ∃ l, Ev (fun k => Z32.l0 k acc (r.length : Int) (i : Int) (I r) (I u)) l ∧ Ev (fun k => Z30.l0 k acc (r.length : Int) (i : Int) (I r) (I u)) l ∧ l.length ≤ r.length ∧ (∀ x ∈ l, x.length = r.length) := by
   intro d
   induction d with
   | zero =>
    intro i acc hi ha hx
    have c1 : ¬ ((i : Int) < (r.length : Int)) := by omega
    refine ⟨acc, ev_succ ?_, ev_succ ?_, by omega, hx⟩
    ·simp only [Z32.l0, c1, if_false]
     exact Ev.now _
    ·simp only [Z30.l0, c1, if_false]
     exact Ev.now _
   | succ d ih =>
    intro i acc hi ha hx
    have c1 : (i : Int) < (r.length : Int) := by omega
    have c2 := w64s i (by omega)
    have c3 : acc.length < 5864062014805 := by omega
    obtain ⟨t1, t2, e1, e2, e3, e4, e5⟩ := turns_alike hs (im := i) (by omega)
    by_cases ht : turnB (I r) (I u) (I t1) = true
    ·obtain ⟨l, l1, l2, l3, l4⟩ := ih (i + 1) (acc ++ [I t1]) (by omega) (by simp; omega) (fun x hx' => by
      rcases List.mem_append.mp hx' with hx' | hx'
      ·exact hx x hx'
      ·have : x = I t1 := by simpa using hx'
       rw [this, I_len, e3])
     refine ⟨l, ev_succ ?_, ev_succ ?_, l3, l4⟩
     ·simp only [Z32.l0, c1, if_true]
      refine Ev.bind e2 (Ev.bind (spec_turn _ _ _) ?_)
      rw [← e4, ht, ← e5 ht]
      simp only [if_true, c2, c3]
      exact l1
     ·simp only [Z30.l0, c1, if_true]
      refine Ev.bind e1 (Ev.bind (impl_turn _ _ _) ?_)
      rw [ht]
      simp only [if_true, c2, c3]
      exact l2
    ·have ht' := Bool.eq_false_iff.mpr ht
     obtain ⟨l, l1, l2, l3, l4⟩ := ih (i + 1) acc (by omega) (by omega) hx
     refine ⟨l, ev_succ ?_, ev_succ ?_, l3, l4⟩
     ·simp only [Z32.l0, c1, if_true]
      refine Ev.bind e2 (Ev.bind (spec_turn _ _ _) ?_)
      rw [← e4, ht']
      simp only [Bool.false_eq_true, if_false, c2]
      exact l1
     ·simp only [Z30.l0, c1, if_true]
      refine Ev.bind e1 (Ev.bind (impl_turn _ _ _) ?_)
      rw [ht']
      simp only [Bool.false_eq_true, if_false, c2]
      exact l2
  obtain ⟨l, l1, l2, l3, l4⟩ := H r.length 0 [] (by omega) (by simp) (by simp)
  refine ⟨l, Ev.bind (spec_surf _ _) ?_, Ev.bind (impl_surf _ _) ?_, ⟨by omega, fun x hx => by rw [l4 x hx]; exact hle, ?_⟩⟩
  ·simp only [h, if_true, I_len']
   exact l1
  ·simp only [h, if_true, I_len']
   exact l2
  ·have : ∀ m : List (List Int), (∀ x ∈ m, x.length = r.length) → totL m = m.length * r.length := by
    intro m
    induction m with
    | nil => intro _; simp [totL]
    | cons x m ihm =>
     intro hm
     rw [totL_cons, ihm (fun y hy => hm y (by simp [hy])), hm x (by simp)]
     simp [Nat.succ_mul, Nat.add_comm]
   rw [this l l4]
   have := Nat.mul_le_mul (Nat.le_trans l3 hle) hle
   omega
 ·have h' := Bool.eq_false_iff.mpr h
  refine ⟨[], Ev.bind (spec_surf _ _) ?_, Ev.bind (impl_surf _ _) ?_, small_nil⟩
  ·simp only [h', Bool.false_eq_true, if_false]
   exact Ev.now _
  ·simp only [h', Bool.false_eq_true, if_false]
   exact Ev.now _
end Go.Proofs.Ytbdnellgioimbaa.M
end
section
/- One round about a corner; first places in lists. No conditions. -/
namespace Go.Proofs.Ytbdnellgioimbaa.M
set_option linter.unusedVariables false
set_option linter.unusedSimpArgs false
open Go.RowKit Go.Proofs.YtbdnellgioimbaaW.PrintWords Go.Proofs.YtbdnellgioimbaaW.PrintLast Go.Proofs.YtbdnellgioimbaaW.PrintMore Go.Proofs.Ytbdnellgioimbaa.A
theorem impl_then {p q : List Nat} (hp : IsP p) (hq : IsP q) (hl : p.length = q.length) (h24 : p.length ≤ 24) : Ev (fun k => Z25.f k (I p) (I q)) (I (thn p q)) := by
 unfold Z25.f
 refine Ev.bind (impl_permOk (I p)) ?_
 have e1 : permB (I p) = true := permB_I.mpr ⟨hp, h24⟩
 have e2 : permB (I q) = true := permB_I.mpr ⟨hq, by omega⟩
 simp only [e1, if_true]
 refine Ev.bind (impl_permOk (I q)) ?_
 have e3 : ((p.length : Int) != (q.length : Int)) = false := by simp [hl]
 simp only [e2, if_true, I_len', e3]
 refine ev_succ ?_
 have h1 : (0 : Int) ≤ (p.length : Int) := by omega
 have h2 : p.length ≤ 35184372088832 := by omega
 simp only [Z25.j0, Bool.false_eq_true, if_false, I_len', h1, h2, if_true, Int.toNat_natCast]
 have H : ∀ (d i : Nat) (c : List Nat), i + d = p.length → c.length = p.length → (∀ j, j < i → g c j = g q (g p j)) → Ev (fun k => Z25.l0 k (I q) (I c) (I p) (p.length : Int) (i : Int)) (I (thn p q)) := by
  intro d
  induction d with
  | zero =>
   intro i c h hc hx
   refine ev_succ ?_
   have h1 : ¬ ((i : Int) < (p.length : Int)) := by omega
   have e : thn p q = c := by
    refine (eq_tab hc (fun j hj => hx j (by omega))).symm
   simp only [Z25.l0, h1, if_false]
   rw [e]
   exact Ev.now _
  | succ d ih =>
   intro i c h hc hx
   refine ev_succ ?_
   have hi : i < p.length := by omega
   have gp := g_lt hp hi
   have c1 : (i : Int) < (p.length : Int) := by omega
   have c2 : (0 : Int) ≤ (i : Int) := by omega
   have c3 : (0 : Int) ≤ ((g p i : Nat) : Int) := by omega
   have c4 : ((g p i : Nat) : Int) < (q.length : Int) := by omega
   have c5 : (i : Int) < (c.length : Int) := by omega
   have h3 := w64s i (by omega)
   simp only [Z25.l0, c1, c2, c3, c4, c5, h3, rdI, I_len', I_set, if_true, Int.toNat_natCast]
   refine ih (i + 1) _ (by omega) (by rw [List.length_set]; exact hc) (fun j hj => ?_)
   rw [g_set (by omega)]
   by_cases e : i = j
   ·subst e
    simp
   ·rw [if_neg e]
    exact hx j (by omega)
 have := H p.length 0 (List.replicate p.length 0) (by omega) (by simp) (fun j hj => by omega)
 rw [I_rep] at this
 exact this
theorem spec_then2 {p q : List Nat} (hp : ∀ i, i < p.length → g p i < q.length) (h : p.length ≤ 1000) : Ev (fun k => Z33.f k (I p) (I q)) (I (thn p q)) := by
 unfold Z33.f
 have H : ∀ (d i : Nat), i + d = p.length → Ev (fun k => Z33.l0 k (I q) (I (tab i (fun i => g q (g p i)))) (I p) (p.length : Int) (i : Int)) (I (thn p q)) := by
  intro d
  induction d with
  | zero =>
   intro i h
   obtain rfl : i = p.length := by omega
   refine ev_succ ?_
   have h1 : ¬ ((p.length : Int) < (p.length : Int)) := by omega
   simp only [Z33.l0, h1, if_false]
   exact Ev.now _
  | succ d ih =>
   intro i h
   refine ev_succ ?_
   have hi : i < p.length := by omega
   have gp := hp i hi
   have c1 : (i : Int) < (p.length : Int) := by omega
   have c2 : (0 : Int) ≤ (i : Int) := by omega
   have c3 : (0 : Int) ≤ ((g p i : Nat) : Int) := by omega
   have c4 : ((g p i : Nat) : Int) < (q.length : Int) := by omega
   have c5 : (I (tab i (fun i => g q (g p i)))).length < 17592186044416 := by rw [I_len, tab_len]; omega
   have h3 := w64s i (by omega)
   have e : tab i (fun i => g q (g p i)) ++ [g q (g p i)] = tab (i + 1) (fun i => g q (g p i)) := by unfold tab; rw [List.range_succ]; simp
   simp only [Z33.l0, c1, c2, c3, c4, c5, h3, rdI, I_len', I_snoc, if_true, e]
   exact ih (i + 1) (by omega)
 simp only [I_len']
 exact H p.length 0 (by omega)
def arnd (r u : List Nat) : List Nat := thn (thn r u) (thn (inv r) (inv u))
theorem arnd_len (r u : List Nat) : (arnd r u).length = r.length := by unfold arnd; rw [thn_len, thn_len]
theorem isP_arnd {r u : List Nat} (hs : Sf r u) : IsP (arnd r u) :=
 isP_thn (isP_thn hs.pr hs.pu hs.eq.symm) (isP_thn (isP_inv hs.pr) (isP_inv hs.pu) (by rw [inv_len, inv_len, hs.eq])) (by rw [thn_len, thn_len, inv_len])
theorem g_arnd {r u : List Nat} (hs : Sf r u) {x : Nat} (hx : x < r.length) : g (arnd r u) x = ix u (ix r (g u (g r x))) := by
 have h1 := g_lt hs.pr hx
 have h2 := g_lt hs.pu (i := g r x) (by rw [hs.eq]; exact h1)
 have h2' : g u (g r x) < r.length := by rw [← hs.eq]; exact h2
 have h3 := ix_lt hs.pr h2'
 unfold arnd
 rw [g_thn (by rw [thn_len]; exact hx), g_thn hx, g_thn (by rw [inv_len]; exact h2'), g_inv h2', g_inv (by rw [hs.eq]; exact h3)]
theorem spec_around {r u : List Nat} (hs : Sf r u) : Ev (fun k => Z22.f k (I r) (I u)) (I (arnd r u)) := by
 have hle := hs.le
 have heq := hs.eq
 unfold Z22.f
 refine Ev.bind (spec_then2 (fun i hi => by have := g_lt hs.pr hi; omega) (by omega)) ?_
 refine Ev.bind (spec_inv hs.pr hs.le) (Ev.bind (spec_inv hs.pu (by omega)) ?_)
 refine Ev.bind (spec_then2 (fun i hi => by have := g_lt (isP_inv hs.pr) hi; rw [inv_len] at this hi ⊢; omega) (by rw [inv_len]; omega)) ?_
 refine Ev.bind (spec_then2 (fun i hi => by have := g_lt (isP_thn hs.pr hs.pu heq.symm) hi; rw [thn_len] at this hi ⊢; rw [inv_len]; omega) (by rw [thn_len]; omega)) ?_
 exact Ev.now _
theorem impl_around {r u : List Nat} (hs : Sf r u) : Ev (fun k => Z23.f k (I r) (I u)) (I (arnd r u)) := by
 have hle := hs.le
 have heq := hs.eq
 unfold Z23.f
 refine Ev.bind (impl_surf _ _) ?_
 rw [surfB_I.mpr hs]
 simp only [if_true]
 refine Ev.bind (impl_then hs.pr hs.pu heq.symm hs.le) ?_
 refine Ev.bind (impl_inv hs.pr hs.le) (Ev.bind (impl_inv hs.pu (by omega)) ?_)
 refine Ev.bind (impl_then (isP_inv hs.pr) (isP_inv hs.pu) (by rw [inv_len, inv_len, heq]) (by rw [inv_len]; omega)) ?_
 refine Ev.bind (impl_then (isP_thn hs.pr hs.pu heq.symm) (isP_thn (isP_inv hs.pr) (isP_inv hs.pu) (by rw [inv_len, inv_len, heq])) (by rw [thn_len, thn_len, inv_len]) (by rw [thn_len]; omega)) ?_
 exact Ev.now _
theorem first_split {α : Type} (P : α → Prop) : ∀ l : List α, (∃ c ∈ l, P c) → ∃ a c b, l = a ++ c :: b ∧ P c ∧ ∀ x ∈ a, ¬ P x := by
 intro l
 induction l with
 | nil => intro ⟨c, h, _⟩; simp at h
 | cons x l ih =>
  intro ⟨c, h, hc⟩
  by_cases hx : P x
  ·exact ⟨[], x, l, rfl, hx, by simp⟩
  ·obtain ⟨a, c', b, e, h1, h2⟩ := ih (by
    rcases List.mem_cons.mp h with rfl | h
    ·exact absurd hc hx
    ·exact ⟨c, h, hc⟩)
   refine ⟨x :: a, c', b, by rw [e]; rfl, h1, fun y hy => ?_⟩
   rcases List.mem_cons.mp hy with rfl | hy
   ·exact hx
   ·exact h2 y hy
theorem rdL_mid (a : List (List Nat)) (c : List Nat) (b : List (List Nat)) : rd_L1 (I2 (a ++ c :: b)) (a.length : Int) = I c := by
 unfold rd_L1 I2
 rw [Int.toNat_natCast, List.map_append, List.map_cons, ← List.length_map (f := I)]
 exact getD_mid _ _ _ _
theorem cyc_least {p : List Nat} (hp : IsP p) : ∀ i, i ≤ p.length → ∀ c ∈ cyc p i, ∃ s, s < i ∧ c = orb p s ∧ ∀ y ∈ c, s ≤ y := by
 intro i
 induction i with
 | zero => intro _ c h; simp [cyc] at h
 | succ i ih =>
  intro hi c hc
  by_cases h : ∃ c ∈ cyc p i, i ∈ c
  ·rw [cyc_succ_old h] at hc
   obtain ⟨s, h1, h2, h3⟩ := ih (by omega) c hc
   exact ⟨s, by omega, h2, h3⟩
  ·rw [cyc_succ_new h] at hc
   rcases List.mem_append.mp hc with hc | hc
   ·obtain ⟨s, h1, h2, h3⟩ := ih (by omega) c hc
    exact ⟨s, by omega, h2, h3⟩
   ·have e : c = orb p i := by simpa using hc
    subst e
    refine ⟨i, by omega, rfl, fun y hy => ?_⟩
    apply Classical.byContradiction
    intro hlt
    obtain ⟨c', hc', hm⟩ := cyc_all hp i (by omega) y (by omega)
    exact cyc_new hp (by omega) h hy ⟨c', hc', hm⟩
theorem orb_cons (p : List Nat) (s : Nat) : ∃ t, orb p s = s :: t := by
 have h := per_pos p s
 unfold orb orbTo
 obtain ⟨m, hm⟩ : ∃ m, per p s = m + 1 := ⟨per p s - 1, by omega⟩
 rw [hm, List.range_succ_eq_map]
 exact ⟨_, rfl⟩
theorem cycle_form {p : List Nat} (hp : IsP p) {c : List Nat} (hc : c ∈ cycles p) : ∃ s t, s < p.length ∧ c = s :: t ∧ c = orb p s ∧ ∀ y ∈ c, s ≤ y := by
 obtain ⟨s, h1, h2, h3⟩ := cyc_least hp p.length (Nat.le_refl _) c hc
 obtain ⟨t, ht⟩ := orb_cons p s
 exact ⟨s, t, h1, by rw [h2, ht], h2, h3⟩
theorem cycle_same {p : List Nat} (hp : IsP p) {c : List Nat} (hc : c ∈ cycles p) {x y : Nat} (hx : x < p.length) (hy : y ∈ orb p x) : x ∈ c ↔ y ∈ c := by
 obtain ⟨s, _, hs, _, e, _⟩ := cycle_form hp hc
 rw [e]
 constructor
 ·intro h
  exact orb_trans hp hs h hy
 ·intro h
  exact orb_trans hp hs h (orb_sym hp hx hy)
theorem has_nat (l : List Nat) (a : Nat) (hl : l.length ≤ 1000000000) : Ev (fun k => Z44.f k (I l) (a : Int)) (decide (a ∈ l)) := by
 have := has_ev (I l) (a : Int) (by rw [I_len]; exact hl)
 have e : decide ((a : Int) ∈ I l) = decide (a ∈ l) := by
  rw [Bool.eq_iff_iff, decide_eq_true_iff, decide_eq_true_iff]
  exact mem_I
 rw [e] at this
 exact this
end Go.Proofs.Ytbdnellgioimbaa.M
end
section
/- The row above: lookups of the program and the reference. No conditions. -/
namespace Go.Proofs.Ytbdnellgioimbaa.M
set_option linter.unusedVariables false
set_option linter.unusedSimpArgs false
open Go.RowKit Go.Proofs.YtbdnellgioimbaaW.PrintWords Go.Proofs.YtbdnellgioimbaaW.PrintLast Go.Proofs.YtbdnellgioimbaaW.PrintMore Go.Proofs.Ytbdnellgioimbaa.A
def rowIx (l : List (List Nat)) (x : Nat) : Nat := l.findIdx (fun c => decide (x ∈ c))
theorem rowIx_eq {l : List (List Nat)} {x : Nat} {a : List (List Nat)} {c : List Nat} {b : List (List Nat)} (e : l = a ++ c :: b) (hc : x ∈ c) (ha : ∀ d ∈ a, x ∉ d) : rowIx l x = a.length := by
 unfold rowIx
 rw [e, List.findIdx_append]
 have h1 : a.findIdx (fun c => decide (x ∈ c)) = a.length := by
  rw [List.findIdx_eq_length]
  intro d hd
  simp [ha d hd]
 rw [h1]
 simp [List.findIdx_cons, hc]
theorem row_at {r : List Nat} (hr : IsP r) {x : Nat} (hx : x < r.length) : ∃ a c b, cycles r = a ++ c :: b ∧ x ∈ c ∧ ∀ d ∈ a, x ∉ d :=
 first_split (fun c => x ∈ c) (cycles r) (cyc_all hr r.length (Nat.le_refl _) x hx)
theorem cycle_ix {p : List Nat} (hp : IsP p) {c0 c1 : List (List Nat)} {c : List Nat} (e : cycles p = c0 ++ c :: c1) {x : Nat} (hx : x ∈ c) : rowIx (cycles p) x = c0.length := by
 refine rowIx_eq e hx (fun d hd hxd => ?_)
 have hnd := (cyc_flat_lt hp p.length (Nat.le_refl _)).2
 have e2 : cyc p p.length = c0 ++ c :: c1 := e
 rw [e2, List.flatten_append] at hnd
 have := (List.nodup_append.mp hnd).2.2 x (mem_flat.mpr ⟨d, hd, hxd⟩) x (mem_flat.mpr ⟨c, by simp, hx⟩)
 exact this rfl
theorem ix_cycle {p : List Nat} (hp : IsP p) {c0 c1 : List (List Nat)} {c : List Nat} (e : cycles p = c0 ++ c :: c1) {x : Nat} (hx : x < p.length) (h : rowIx (cycles p) x = c0.length) : x ∈ c := by
 obtain ⟨a, d, b, f1, f2, f3⟩ := row_at hp hx
 have h2 := rowIx_eq f1 f2 f3
 rw [h2] at h
 rw [f1] at e
 have h3 := List.append_inj_left e h
 subst h3
 have h4 := List.append_cancel_left e
 injection h4 with h5 _
 rw [← h5]
 exact f2
end Go.Proofs.Ytbdnellgioimbaa.M
end
section
/- Fixed points: the program and the reference answer alike. No conditions. -/
namespace Go.Proofs.Ytbdnellgioimbaa.M
set_option linter.unusedVariables false
set_option linter.unusedSimpArgs false
open Go.RowKit Go.Proofs.YtbdnellgioimbaaW.PrintWords Go.Proofs.YtbdnellgioimbaaW.PrintLast Go.Proofs.YtbdnellgioimbaaW.PrintMore Go.Proofs.Ytbdnellgioimbaa.A
theorem spec_corners {r u : List Nat} (hs : Sf r u) : Ev (fun k => Z20.f k (I r) (I u)) (I2 (cycles (arnd r u))) := by
 unfold Z20.f
 refine Ev.bind (spec_surf _ _) ?_
 rw [surfB_I.mpr hs]
 simp only [if_true]
 exact Ev.bind (spec_around hs) (Ev.bind (spec_cycles (isP_arnd hs) (by rw [arnd_len]; exact hs.le)) (Ev.now _))
theorem impl_corners {r u : List Nat} (hs : Sf r u) : Ev (fun k => Z15.f k (I r) (I u)) (I2 (cycles (arnd r u))) := by
 unfold Z15.f
 refine Ev.bind (impl_surf _ _) ?_
 rw [surfB_I.mpr hs]
 simp only [if_true]
 exact Ev.bind (impl_around hs) (Ev.bind (impl_cycles (isP_arnd hs) (by rw [arnd_len]; exact hs.le)) (Ev.now _))
def mv (r u a : List Nat) (x : Nat) : Nat := ix u (ix r (g a x))
theorem mv_lt {r u a : List Nat} (hs : Sf r u) (ha : IsP a) (hl : a.length = r.length) {x : Nat} (hx : x < r.length) : mv r u a x < r.length := by
 have h1 := g_lt ha (i := x) (by omega)
 have h2 := ix_lt hs.pr (x := g a x) (by omega)
 have h3 := ix_lt hs.pu (x := ix r (g a x)) (by rw [hs.eq]; exact h2)
 unfold mv
 rw [hs.eq] at h3
 exact h3
theorem mv_arnd {r u a : List Nat} (hs : Sf r u) (ha : IsP a) (hl : a.length = r.length) (ht : Turn r u a) {x : Nat} (hx : x < r.length) : mv r u a (g (arnd r u) x) = g (arnd r u) (mv r u a x) := by
 have heq := hs.eq
 have lr : ∀ {y}, y < r.length → g r y < r.length := fun h => g_lt hs.pr h
 have lu : ∀ {y}, y < r.length → g u y < r.length := fun h => by rw [← heq]; exact g_lt hs.pu (by omega)
 have lr' : ∀ {y}, y < r.length → ix r y < r.length := fun h => ix_lt hs.pr h
 have lu' : ∀ {y}, y < r.length → ix u y < r.length := fun h => by rw [← heq]; exact ix_lt hs.pu (by omega)
 have la : ∀ {y}, y < r.length → g a y < r.length := fun {y} h => by rw [← hl]; exact g_lt ha (by omega)
 have t1 : ∀ {y}, y < r.length → g a (g r y) = ix r (g a y) := fun {y} h => (ht y (by omega)).1
 have t2 : ∀ {y}, y < r.length → g a (g u y) = ix u (g a y) := fun {y} h => (ht y (by omega)).2
 have gr' : ∀ {y}, y < r.length → g r (ix r y) = y := fun h => g_ix hs.pr h
 have gu' : ∀ {y}, y < r.length → g u (ix u y) = y := fun {y} h => g_ix hs.pu (by omega)
 have t3 : ∀ {y}, y < r.length → g a (ix r y) = g r (g a y) := fun {y} h => by
  have := t1 (lr' h)
  rw [gr' h] at this
  rw [this, gr' (la (lr' h))]
 have t4 : ∀ {y}, y < r.length → g a (ix u y) = g u (g a y) := fun {y} h => by
  have := t2 (lu' h)
  rw [gu' h] at this
  rw [this, gu' (la (lu' h))]
 rw [g_arnd hs hx, g_arnd hs (mv_lt hs ha hl hx)]
 unfold mv
 rw [t4 (lr' (lu (lr hx))), t3 (lu (lr hx)), t2 (lr hx), t1 hx]
theorem mv_itr {r u a : List Nat} (hs : Sf r u) (ha : IsP a) (hl : a.length = r.length) (ht : Turn r u a) {x : Nat} (hx : x < r.length) (k : Nat) : mv r u a (itr (arnd r u) k x) = itr (arnd r u) k (mv r u a x) := by
 induction k with
 | zero => rfl
 | succ k ih =>
  have h1 := itr_lt (isP_arnd hs) k (s := x) (by rw [arnd_len]; exact hx)
  rw [arnd_len] at h1
  show mv r u a (g (arnd r u) (itr (arnd r u) k x)) = g (arnd r u) (itr (arnd r u) k (mv r u a x))
  rw [mv_arnd hs ha hl ht h1, ih]
theorem stays_iff {r u a : List Nat} (hs : Sf r u) (ha : IsP a) (hl : a.length = r.length) (ht : Turn r u a) {c0 c1 : List (List Nat)} {c t : List Nat} {s : Nat} (e : cycles (arnd r u) = c0 ++ c :: c1) (ec : c = s :: t) :
  (∀ i ∈ c, rowIx (cycles (arnd r u)) (mv r u a i) = c0.length) ↔ mv r u a s ∈ c := by
 have hp := isP_arnd hs
 have hmem : c ∈ cycles (arnd r u) := by rw [e]; simp
 obtain ⟨s', t', hs0, ec', eo, _⟩ := cycle_form hp hmem
 have : s' = s := by rw [ec] at ec'; injection ec' with h _; exact h.symm
 subst this
 rw [arnd_len] at hs0
 have hm := mv_lt hs ha hl hs0
 constructor
 ·intro h
  exact ix_cycle hp e (by rw [arnd_len]; exact hm) (h s' (by rw [ec]; simp))
 ·intro h i hi
  refine cycle_ix hp e ?_
  rw [eo] at hi
  obtain ⟨k, rfl⟩ := (mem_orb hp (by rw [arnd_len]; exact hs0)).mp hi
  rw [mv_itr hs ha hl ht hs0]
  exact (cycle_same hp hmem (by rw [arnd_len]; exact hm) ((mem_orb hp (by rw [arnd_len]; exact hm)).mpr ⟨k, rfl⟩)).mp h
theorem beq_nat (q n : Nat) : (((q : Nat) : Int) == ((n : Nat) : Int)) = decide (q = n) := by
 rw [Bool.eq_iff_iff, beq_iff_eq, decide_eq_true_iff]
 omega
theorem fix_fill {r u a : List Nat} (hs : Sf r u) (x6 : List Int) (R : List Int × Bool)
  (H : ∀ cor : List Nat, cor.length = r.length → (∀ x, x < r.length → g cor x = rowIx (cycles (arnd r u)) x) → Ev (fun k => Z8.l3 k (I a) x6 (I (inv r)) (I (inv u)) (I cor) (I2 (cycles (arnd r u))) ((I2 (cycles (arnd r u))).length : Int) 0) R) :
  ∀ (c1 c0 : List (List Nat)) (cor : List Nat), cycles (arnd r u) = c0 ++ c1 → cor.length = r.length → (∀ x ∈ c0.flatten, g cor x = rowIx (cycles (arnd r u)) x) → Ev (fun k => Z8.l1 k (I a) x6 (I (inv r)) (I (inv u)) (I cor) (I2 (cycles (arnd r u))) (I2 (cycles (arnd r u))) ((I2 (cycles (arnd r u))).length : Int) (c0.length : Int)) R := by
 have hp := isP_arnd hs
 have hle := hs.le
 have hlen := cycles_len (p := arnd r u) (by rw [arnd_len]; exact hs.le)
 intro c1
 induction c1 with
 | nil =>
  intro c0 cor e h1 h2
  have e' : cycles (arnd r u) = c0 := by simpa using e
  refine ev_succ ?_
  have k1 : ¬ ((c0.length : Int) < ((I2 (cycles (arnd r u))).length : Int)) := by rw [I2_len, e']; omega
  simp only [Z8.l1, k1, if_false]
  refine H cor h1 (fun x hx => h2 x ?_)
  rw [← e']
  exact mem_flat.mpr (cyc_all hp (arnd r u).length (Nat.le_refl _) x (by rw [arnd_len]; exact hx))
 | cons c c1 ih =>
  intro c0 cor e h1 h2
  refine ev_succ ?_
  have hmem : c ∈ cycles (arnd r u) := by rw [e]; simp
  have hcl := cycle_len hp (by rw [arnd_len]; exact hs.le) c hmem
  have hl0 : c0.length < (cycles (arnd r u)).length := by rw [e]; simp
  have k1 : (c0.length : Int) < ((I2 (cycles (arnd r u))).length : Int) := by rw [I2_len]; omega
  have k2 : (0 : Int) ≤ (c0.length : Int) := by omega
  have e1 : rd_L1 (I2 (cycles (arnd r u))) (c0.length : Int) = I c := by rw [e]; exact rdL_mid c0 c c1
  simp only [Z8.l1, k1, k2, e1, I_len', if_true]
  have G : ∀ (x1 x0 : List Nat) (cor : List Nat), c = x0 ++ x1 → cor.length = r.length → (∀ x ∈ c0.flatten, g cor x = rowIx (cycles (arnd r u)) x) → (∀ x ∈ x0, g cor x = rowIx (cycles (arnd r u)) x) →
    Ev (fun k => Z8.l2 k (I a) x6 (I (inv r)) (I (inv u)) (I cor) (I2 (cycles (arnd r u))) (c0.length : Int) (I2 (cycles (arnd r u))) ((I2 (cycles (arnd r u))).length : Int) (c0.length : Int) (I c) (c.length : Int) (x0.length : Int)) R := by
   intro x1
   induction x1 with
   | nil =>
    intro x0 cor ex g1 g2 g3
    have ex' : c = x0 := by simpa using ex
    refine ev_succ ?_
    have q1 : ¬ ((x0.length : Int) < (c.length : Int)) := by rw [ex']; omega
    have q2 := w64s c0.length (by omega)
    simp only [Z8.l2, q1, if_false, q2]
    have := ih (c0 ++ [c]) cor (by rw [e]; simp) g1 (fun x hx => by
     rw [List.flatten_append] at hx
     rcases List.mem_append.mp hx with hx | hx
     ·exact g2 x hx
     ·exact g3 x (by rw [← ex']; simpa using hx))
    have e3 : ((c0 ++ [c]).length : Int) = ((c0.length + 1 : Nat) : Int) := by simp
    rw [e3] at this
    exact this
   | cons y x1 ihx =>
    intro x0 cor ex g1 g2 g3
    refine ev_succ ?_
    have hym : y ∈ c := by rw [ex]; simp
    have hy : y < r.length := by
     obtain ⟨s, _, hs0, _, eo, _⟩ := cycle_form hp hmem
     rw [eo] at hym
     have := orb_lt hp hs0 hym
     rw [arnd_len] at this
     exact this
    have hxl : x0.length < c.length := by rw [ex]; simp
    have q1 : (x0.length : Int) < (c.length : Int) := by omega
    have q2 : (0 : Int) ≤ (x0.length : Int) := by omega
    have q3 : g c x0.length = y := by rw [ex]; exact getD_mid x0 y x1 0
    have q4 : (0 : Int) ≤ (y : Int) := by omega
    have q5 : (y : Int) < (cor.length : Int) := by omega
    have q6 := w64s x0.length (by omega)
    have hiy := cycle_ix hp e hym
    simp only [Z8.l2, q1, q2, rdI, q3, q4, q5, I_len', I_set, Int.toNat_natCast, if_true, q6]
    have hset : ∀ x, g cor x = rowIx (cycles (arnd r u)) x ∨ x = y → g (cor.set y c0.length) x = rowIx (cycles (arnd r u)) x := fun x hx => by
     rw [g_set (by omega)]
     by_cases e : y = x
     ·subst e
      rw [if_pos rfl, hiy]
     ·rw [if_neg e]
      rcases hx with hx | hx
      ·exact hx
      ·exact absurd hx.symm e
    have := ihx (x0 ++ [y]) (cor.set y c0.length) (by rw [ex]; simp) (by rw [List.length_set]; exact g1) (fun x hx => hset x (.inl (g2 x hx))) (fun x hx => by
     rcases List.mem_append.mp hx with hx | hx
     ·exact hset x (.inl (g3 x hx))
     ·exact hset x (.inr (by simpa using hx)))
    have e3 : ((x0 ++ [y]).length : Int) = ((x0.length + 1 : Nat) : Int) := by simp
    rw [e3] at this
    exact this
  exact G c [] cor rfl h1 h2 (by simp)
theorem fix_count {r u a : List Nat} (hs : Sf r u) (ha : IsP a) (hl : a.length = r.length) (ht : Turn r u a) (cor : List Nat) (hcl : cor.length = r.length) (hcor : ∀ x, x < r.length → g cor x = rowIx (cycles (arnd r u)) x) :
  ∀ (c1 c0 : List (List Nat)) (x6 : List Int), cycles (arnd r u) = c0 ++ c1 → x6.length = 4 → ∃ o : List Int, o.length = 4 ∧
   Ev (fun k => Z8.l3 k (I a) x6 (I (inv r)) (I (inv u)) (I cor) (I2 (cycles (arnd r u))) ((I2 (cycles (arnd r u))).length : Int) (c0.length : Int)) (o, true) ∧
   Ev (fun k => Z10.l1 k (I a) x6 (I (inv r)) (I (inv u)) (I2 (cycles (arnd r u))) ((I2 (cycles (arnd r u))).length : Int) (c0.length : Int)) (o, true) := by
 have hp := isP_arnd hs
 have hle := hs.le
 have heq := hs.eq
 have hlen := cycles_len (p := arnd r u) (by rw [arnd_len]; exact hs.le)
 intro c1
 induction c1 with
 | nil =>
  intro c0 x6 e h6
  have e' : cycles (arnd r u) = c0 := by simpa using e
  have k1 : ¬ ((c0.length : Int) < ((I2 (cycles (arnd r u))).length : Int)) := by rw [I2_len, e']; omega
  refine ⟨x6, h6, ev_succ ?_, ev_succ ?_⟩
  ·simp only [Z8.l3, k1, if_false]
   exact Ev.now _
  ·simp only [Z10.l1, k1, if_false]
   exact Ev.now _
 | cons c c1 ih =>
  intro c0 x6 e h6
  have hmem : c ∈ cycles (arnd r u) := by rw [e]; simp
  have hcl2 := cycle_len hp (by rw [arnd_len]; exact hs.le) c hmem
  obtain ⟨s, t, hs0, ec, eo, _⟩ := cycle_form hp hmem
  rw [arnd_len] at hs0
  have hl0 : c0.length < (cycles (arnd r u)).length := by rw [e]; simp
  have k1 : (c0.length : Int) < ((I2 (cycles (arnd r u))).length : Int) := by rw [I2_len]; omega
  have k2 : (0 : Int) ≤ (c0.length : Int) := by omega
  have k3 := w64s c0.length (by omega)
  have e1 : rd_L1 (I2 (cycles (arnd r u))) (c0.length : Int) = I c := by rw [e]; exact rdL_mid c0 c c1
  have e3 : ((c0 ++ [c]).length : Int) = ((c0.length + 1 : Nat) : Int) := by simp
  have hst := stays_iff hs ha hl ht e ec
  have sm := mv_lt hs ha hl hs0
  have l3 : (3 : Int) < (x6.length : Int) := by omega
  obtain ⟨o, o1, o2, o3⟩ := ih (c0 ++ [c]) (if mv r u a s ∈ c then x6.set 3 (wrap64 (rd x6 3 + 1)) else x6) (by rw [e]; simp) (by split <;> simp [h6])
  rw [e3] at o2 o3
  refine ⟨o, o1, ev_succ ?_, ev_succ ?_⟩
  ·simp only [Z8.l3, k1, k2, e1, I_len', if_true]
   have G : ∀ (x1 x0 : List Nat) (b : Bool), c = x0 ++ x1 → (b = true ↔ ∀ i ∈ x0, rowIx (cycles (arnd r u)) (mv r u a i) = c0.length) →
     Ev (fun k => Z8.l4 k (I a) x6 (I (inv r)) (I (inv u)) (I cor) (c0.length : Int) b (I2 (cycles (arnd r u))) ((I2 (cycles (arnd r u))).length : Int) (c0.length : Int) (I c) (c.length : Int) (x0.length : Int)) (o, true) := by
    intro x1
    induction x1 with
    | nil =>
     intro x0 b ex hb
     have ex' : c = x0 := by simpa using ex
     rw [← ex'] at hb
     refine ev_succ ?_
     have q1 : ¬ ((x0.length : Int) < (c.length : Int)) := by rw [ex']; omega
     by_cases hm : mv r u a s ∈ c
     ·have hb' : b = true := hb.mpr (hst.mpr hm)
      rw [if_pos hm] at o2
      simp only [Z8.l4, q1, if_false, hb', l3, if_true, k3]
      exact o2
     ·have hb' : b = false := by
       rw [Bool.eq_false_iff]
       intro h
       exact hm (hst.mp (hb.mp h))
      rw [if_neg hm] at o2
      simp only [Z8.l4, q1, if_false, hb', Bool.false_eq_true, k3]
      exact o2
    | cons y x1 ihx =>
     intro x0 b ex hb
     refine ev_succ ?_
     have hym : y ∈ c := by rw [ex]; simp
     have hy : y < r.length := by
      rw [eo] at hym
      have := orb_lt hp (by rw [arnd_len]; exact hs0) hym
      rw [arnd_len] at this
      exact this
     have ga := g_lt ha (i := y) (by omega)
     have gi := ix_lt hs.pr (x := g a y) (by omega)
     have gm := mv_lt hs ha hl hy
     have hxl : x0.length < c.length := by rw [ex]; simp
     have q1 : (x0.length : Int) < (c.length : Int) := by omega
     have q2 : (0 : Int) ≤ (x0.length : Int) := by omega
     have q3 : g c x0.length = y := by rw [ex]; exact getD_mid x0 y x1 0
     have q4 : (0 : Int) ≤ (y : Int) := by omega
     have q5 : (y : Int) < (a.length : Int) := by omega
     have q6 := w64s x0.length (by omega)
     have q7 : (0 : Int) ≤ ((g a y : Nat) : Int) := by omega
     have q8 : ((g a y : Nat) : Int) < ((inv r).length : Int) := by rw [inv_len]; omega
     have f1 : g (inv r) (g a y) = ix r (g a y) := g_inv (by omega)
     have q9 : (0 : Int) ≤ ((ix r (g a y) : Nat) : Int) := by omega
     have q10 : ((ix r (g a y) : Nat) : Int) < ((inv u).length : Int) := by rw [inv_len]; omega
     have f2 : g (inv u) (ix r (g a y)) = mv r u a y := g_inv (by omega)
     have q11 : (0 : Int) ≤ ((mv r u a y : Nat) : Int) := by omega
     have q12 : ((mv r u a y : Nat) : Int) < (cor.length : Int) := by omega
     have e4 : ((x0 ++ [y]).length : Int) = ((x0.length + 1 : Nat) : Int) := by simp
     by_cases hbt : b = true
     ·have f3 : ((((g cor (mv r u a y) : Nat) : Int) == (c0.length : Int)) : Bool) = decide (rowIx (cycles (arnd r u)) (mv r u a y) = c0.length) := by
       rw [hcor _ gm]
       exact beq_nat _ _
      have := ihx (x0 ++ [y]) (decide (rowIx (cycles (arnd r u)) (mv r u a y) = c0.length)) (by rw [ex]; simp) (by
       rw [decide_eq_true_iff]
       constructor
       ·intro h i hi
        rcases List.mem_append.mp hi with hi | hi
        ·exact hb.mp hbt i hi
        ·have : i = y := by simpa using hi
         rw [this]; exact h
       ·intro h
        exact h y (by simp))
      rw [e4] at this
      simp only [Z8.l4, q1, q2, rdI, q3, q4, q5, I_len', hbt, q7, q8, f1, q9, q10, f2, q11, q12, f3, if_true, q6]
      exact this
     ·have := ihx (x0 ++ [y]) false (by rw [ex]; simp) (by
       simp only [Bool.false_eq_true, false_iff]
       intro h
       exact hbt (hb.mpr (fun i hi => h i (by simp [hi]))))
      rw [e4] at this
      simp only [Z8.l4, q1, q2, I_len', hbt, if_true, if_false, q6]
      exact this
   exact G c [] true rfl (by simp)
  ·have ga := g_lt ha (i := s) (by omega)
   have gi := ix_lt hs.pr (x := g a s) (by omega)
   have d3 : (0 : Int) < (c.length : Int) := by rw [ec]; simp
   have e2 : rd (I c) 0 = (s : Int) := by rw [ec]; rfl
   have q4 : (0 : Int) ≤ (s : Int) := by omega
   have q5 : (s : Int) < (a.length : Int) := by omega
   have q7 : (0 : Int) ≤ ((g a s : Nat) : Int) := by omega
   have q8 : ((g a s : Nat) : Int) < ((inv r).length : Int) := by rw [inv_len]; omega
   have f1 : g (inv r) (g a s) = ix r (g a s) := g_inv (by omega)
   have q9 : (0 : Int) ≤ ((ix r (g a s) : Nat) : Int) := by omega
   have q10 : ((ix r (g a s) : Nat) : Int) < ((inv u).length : Int) := by rw [inv_len]; omega
   have f2 : g (inv u) (ix r (g a s)) = mv r u a s := g_inv (by omega)
   simp only [Z10.l1, k1, k2, e1, I_len', d3, e2, q4, q5, rdI, q7, q8, f1, q9, q10, f2, if_true]
   refine Ev.bind (has_nat c (mv r u a s) (by omega)) ?_
   by_cases hm : mv r u a s ∈ c
   ·rw [if_pos hm] at o3
    simp only [hm, decide_true, if_true, l3, k3]
    exact o3
   ·rw [if_neg hm] at o3
    simp only [hm, decide_false, Bool.false_eq_true, if_false, k3]
    exact o3
theorem fix_first {r u a : List Nat} (hs : Sf r u) (ha : IsP a) (hl : a.length = r.length) (ht : Turn r u a) : ∀ (d i : Nat) (x6 : List Int), i + d = a.length → x6.length = 4 → ∃ o : List Int, o.length = 4 ∧
   Ev (fun k => Z8.l0 k (I a) x6 (I a) (a.length : Int) (i : Int) (I r) (I u)) (o, true) ∧
   Ev (fun k => Z10.l0 k (I a) x6 (I a) (a.length : Int) (i : Int) (I r) (I u)) (o, true) := by
 have hle := hs.le
 have heq := hs.eq
 intro d
 induction d with
 | zero =>
  intro i x6 hi h6
  obtain rfl : i = a.length := by omega
  have k1 : ¬ ((a.length : Int) < (a.length : Int)) := by omega
  obtain ⟨cor, hc1, hc2⟩ : ∃ cor : List Nat, cor.length = r.length ∧ ∀ x, x < r.length → g cor x = rowIx (cycles (arnd r u)) x := ⟨tab r.length (rowIx (cycles (arnd r u))), tab_len _ _, fun x hx => g_tab hx⟩
  obtain ⟨o, o1, o2, o3⟩ := fix_count hs ha hl ht cor hc1 hc2 (cycles (arnd r u)) [] x6 rfl h6
  refine ⟨o, o1, ev_succ ?_, ev_succ ?_⟩
  ·simp only [Z8.l0, k1, if_false]
   refine Ev.bind (impl_inv hs.pr hs.le) (Ev.bind (impl_inv hs.pu (by omega)) ?_)
   have h1 : (0 : Int) ≤ (a.length : Int) := by omega
   have h2 : a.length ≤ 35184372088832 := by omega
   simp only [I_len', h1, h2, if_true, Int.toNat_natCast]
   refine Ev.bind (impl_corners hs) ?_
   have := fix_fill (a := a) hs x6 (o, true) (fun cor' g1 g2 => by
    have : cor' = cor := ext_g (by rw [g1, hc1]) (fun i hi => by rw [g2 i (by omega), hc2 i (by omega)])
    rw [this]
    exact o2) (cycles (arnd r u)) [] (List.replicate a.length 0) rfl (by simp [hl]) (by simp)
   rw [I_rep] at this
   exact this
  ·simp only [Z10.l0, k1, if_false]
   exact Ev.bind (spec_inv hs.pr hs.le) (Ev.bind (spec_inv hs.pu (by omega)) (Ev.bind (spec_corners hs) o3))
 | succ d ih =>
  intro i x6 hi h6
  have hi' : i < a.length := by omega
  have k1 : (i : Int) < (a.length : Int) := by omega
  have k2 : (0 : Int) ≤ (i : Int) := by omega
  have k3 : (i : Int) < (r.length : Int) := by omega
  have k4 : (i : Int) < (u.length : Int) := by omega
  have k5 := w64s i (by omega)
  have z0 : (0 : Int) < (x6.length : Int) := by omega
  have z1 : (1 : Int) < (x6.length : Int) := by omega
  have z2 : (2 : Int) < (x6.length : Int) := by omega
  by_cases c0 : ((g a i : Nat) : Int) = (i : Int)
  ·replace c0 := eq_true c0
   by_cases c1 : ((g a i : Nat) : Int) = ((g r i : Nat) : Int)
   ·replace c1 := eq_true c1
    by_cases c2 : ((g a i : Nat) : Int) = ((g u i : Nat) : Int)
    ·replace c2 := eq_true c2
     obtain ⟨o, o1, o2, o3⟩ := ih (i + 1) (((x6.set 0 (wrap64 (rd x6 0 + 1))).set 1 (wrap64 (rd (x6.set 0 (wrap64 (rd x6 0 + 1))) 1 + 1))).set 2 (wrap64 (rd ((x6.set 0 (wrap64 (rd x6 0 + 1))).set 1 (wrap64 (rd (x6.set 0 (wrap64 (rd x6 0 + 1))) 1 + 1))) 2 + 1))) (by omega) (by simp [h6])
     refine ⟨o, o1, ev_succ (ev_succ ?_), ev_succ (ev_succ ?_)⟩
     ·simp only [Z8.l0, Z8.j1, k1, k2, k3, k4, rdI, I_len', c0, c1, c2, List.length_set, z0, z1, z2, k5, if_true, if_false, Option.bind_some]
      exact o2
     ·simp only [Z10.l0, Z10.j1, k1, k2, k3, k4, rdI, I_len', c0, c1, c2, List.length_set, z0, z1, z2, k5, if_true, if_false, Option.bind_some]
      exact o3
    ·replace c2 := eq_false c2
     obtain ⟨o, o1, o2, o3⟩ := ih (i + 1) ((x6.set 0 (wrap64 (rd x6 0 + 1))).set 1 (wrap64 (rd (x6.set 0 (wrap64 (rd x6 0 + 1))) 1 + 1))) (by omega) (by simp [h6])
     refine ⟨o, o1, ev_succ (ev_succ ?_), ev_succ (ev_succ ?_)⟩
     ·simp only [Z8.l0, Z8.j1, k1, k2, k3, k4, rdI, I_len', c0, c1, c2, List.length_set, z0, z1, z2, k5, if_true, if_false, Option.bind_some]
      exact o2
     ·simp only [Z10.l0, Z10.j1, k1, k2, k3, k4, rdI, I_len', c0, c1, c2, List.length_set, z0, z1, z2, k5, if_true, if_false, Option.bind_some]
      exact o3
   ·replace c1 := eq_false c1
    by_cases c2 : ((g a i : Nat) : Int) = ((g u i : Nat) : Int)
    ·replace c2 := eq_true c2
     obtain ⟨o, o1, o2, o3⟩ := ih (i + 1) ((x6.set 0 (wrap64 (rd x6 0 + 1))).set 2 (wrap64 (rd (x6.set 0 (wrap64 (rd x6 0 + 1))) 2 + 1))) (by omega) (by simp [h6])
     refine ⟨o, o1, ev_succ (ev_succ ?_), ev_succ (ev_succ ?_)⟩
     ·simp only [Z8.l0, Z8.j1, k1, k2, k3, k4, rdI, I_len', c0, c1, c2, List.length_set, z0, z1, z2, k5, if_true, if_false, Option.bind_some]
      exact o2
     ·simp only [Z10.l0, Z10.j1, k1, k2, k3, k4, rdI, I_len', c0, c1, c2, List.length_set, z0, z1, z2, k5, if_true, if_false, Option.bind_some]
      exact o3
    ·replace c2 := eq_false c2
     obtain ⟨o, o1, o2, o3⟩ := ih (i + 1) (x6.set 0 (wrap64 (rd x6 0 + 1))) (by omega) (by simp [h6])
     refine ⟨o, o1, ev_succ (ev_succ ?_), ev_succ (ev_succ ?_)⟩
     ·simp only [Z8.l0, Z8.j1, k1, k2, k3, k4, rdI, I_len', c0, c1, c2, List.length_set, z0, z1, z2, k5, if_true, if_false, Option.bind_some]
      exact o2
     ·simp only [Z10.l0, Z10.j1, k1, k2, k3, k4, rdI, I_len', c0, c1, c2, List.length_set, z0, z1, z2, k5, if_true, if_false, Option.bind_some]
      exact o3
  ·replace c0 := eq_false c0
   by_cases c1 : ((g a i : Nat) : Int) = ((g r i : Nat) : Int)
   ·replace c1 := eq_true c1
    by_cases c2 : ((g a i : Nat) : Int) = ((g u i : Nat) : Int)
    ·replace c2 := eq_true c2
     obtain ⟨o, o1, o2, o3⟩ := ih (i + 1) ((x6.set 1 (wrap64 (rd x6 1 + 1))).set 2 (wrap64 (rd (x6.set 1 (wrap64 (rd x6 1 + 1))) 2 + 1))) (by omega) (by simp [h6])
     refine ⟨o, o1, ev_succ (ev_succ ?_), ev_succ (ev_succ ?_)⟩
     ·simp only [Z8.l0, Z8.j1, k1, k2, k3, k4, rdI, I_len', c0, c1, c2, List.length_set, z0, z1, z2, k5, if_true, if_false, Option.bind_some]
      exact o2
     ·simp only [Z10.l0, Z10.j1, k1, k2, k3, k4, rdI, I_len', c0, c1, c2, List.length_set, z0, z1, z2, k5, if_true, if_false, Option.bind_some]
      exact o3
    ·replace c2 := eq_false c2
     obtain ⟨o, o1, o2, o3⟩ := ih (i + 1) (x6.set 1 (wrap64 (rd x6 1 + 1))) (by omega) (by simp [h6])
     refine ⟨o, o1, ev_succ (ev_succ ?_), ev_succ (ev_succ ?_)⟩
     ·simp only [Z8.l0, Z8.j1, k1, k2, k3, k4, rdI, I_len', c0, c1, c2, List.length_set, z0, z1, z2, k5, if_true, if_false, Option.bind_some]
      exact o2
     ·simp only [Z10.l0, Z10.j1, k1, k2, k3, k4, rdI, I_len', c0, c1, c2, List.length_set, z0, z1, z2, k5, if_true, if_false, Option.bind_some]
      exact o3
   ·replace c1 := eq_false c1
    by_cases c2 : ((g a i : Nat) : Int) = ((g u i : Nat) : Int)
    ·replace c2 := eq_true c2
     obtain ⟨o, o1, o2, o3⟩ := ih (i + 1) (x6.set 2 (wrap64 (rd x6 2 + 1))) (by omega) (by simp [h6])
     refine ⟨o, o1, ev_succ (ev_succ ?_), ev_succ (ev_succ ?_)⟩
     ·simp only [Z8.l0, Z8.j1, k1, k2, k3, k4, rdI, I_len', c0, c1, c2, List.length_set, z0, z1, z2, k5, if_true, if_false, Option.bind_some]
      exact o2
     ·simp only [Z10.l0, Z10.j1, k1, k2, k3, k4, rdI, I_len', c0, c1, c2, List.length_set, z0, z1, z2, k5, if_true, if_false, Option.bind_some]
      exact o3
    ·replace c2 := eq_false c2
     obtain ⟨o, o1, o2, o3⟩ := ih (i + 1) x6 (by omega) (by simp [h6])
     refine ⟨o, o1, ev_succ (ev_succ ?_), ev_succ (ev_succ ?_)⟩
     ·simp only [Z8.l0, Z8.j1, k1, k2, k3, k4, rdI, I_len', c0, c1, c2, List.length_set, z0, z1, z2, k5, if_true, if_false, Option.bind_some]
      exact o2
     ·simp only [Z10.l0, Z10.j1, k1, k2, k3, k4, rdI, I_len', c0, c1, c2, List.length_set, z0, z1, z2, k5, if_true, if_false, Option.bind_some]
      exact o3
theorem fixed_both (r u a : List Int) : ∃ (l : List Int) (b : Bool), Ev (fun k => Z10.f k r u a) (l, b) ∧ Ev (fun k => Z8.f k r u a) (l, b) ∧ l.length ≤ 4 ∧ (b = true → l.length = 4) := by
 unfold Z10.f Z8.f
 by_cases h : turnB r u a = true
 ·obtain ⟨r, u, a, rfl, rfl, rfl, hs, ha, hl, ht⟩ := turn_nat h
  obtain ⟨o, o1, o2, o3⟩ := fix_first hs ha hl ht a.length 0 [0, 0, 0, 0] (by omega) rfl
  refine ⟨o, true, Ev.bind (spec_turn _ _ _) ?_, Ev.bind (impl_turn _ _ _) ?_, by omega, fun _ => o1⟩
  ·simp only [h, if_true, I_len']
   exact o3
  ·have h4 : 4 ≤ 35184372088832 := by omega
   simp only [h, h4, if_true, I_len']
   exact o2
 ·have h' := Bool.eq_false_iff.mpr h
  refine ⟨[], false, Ev.bind (spec_turn _ _ _) ?_, Ev.bind (impl_turn _ _ _) ?_, by simp, by simp⟩
  ·simp only [h', Bool.false_eq_true, if_false]
   exact Ev.now _
  ·simp only [h', Bool.false_eq_true, if_false]
   exact Ev.now _
theorem countFixed_both (r u a : List Int) : ∃ n : Int, Ev (fun k => Z13.f k r u a) n ∧ Ev (fun k => Z12.f k r u a) n := by
 obtain ⟨l, b, h1, h2, _, h4⟩ := fixed_both r u a
 unfold Z13.f Z12.f
 by_cases hb : b = true
 ·have hl := h4 hb
  have z0 : (0 : Int) < (l.length : Int) := by omega
  have z1 : (1 : Int) < (l.length : Int) := by omega
  have z2 : (2 : Int) < (l.length : Int) := by omega
  have z3 : (3 : Int) < (l.length : Int) := by omega
  subst hb
  refine ⟨wrap64 ((wrap64 ((wrap64 ((rd l 0) + (rd l 1))) + (rd l 2))) + (rd l 3)), Ev.bind h1 ?_, Ev.bind h2 ?_⟩
  ·simp only [z0, z1, z2, z3, if_true]
   exact Ev.now _
  ·simp only [z0, z1, z2, z3, if_true]
   exact Ev.now _
 ·have hb' := Bool.eq_false_iff.mpr hb
  subst hb'
  refine ⟨-1, Ev.bind h1 ?_, Ev.bind h2 ?_⟩
  ·simp only [Bool.false_eq_true, if_false]
   exact Ev.now _
  ·simp only [Bool.false_eq_true, if_false]
   exact Ev.now _
end Go.Proofs.Ytbdnellgioimbaa.M
end
section
/- The genus of a quotient: the program and the reference answer alike. No conditions. -/
namespace Go.Proofs.Ytbdnellgioimbaa.M
set_option linter.unusedVariables false
set_option linter.unusedSimpArgs false
open Go.RowKit Go.Proofs.YtbdnellgioimbaaW.PrintWords Go.Proofs.YtbdnellgioimbaaW.PrintLast Go.Proofs.YtbdnellgioimbaaW.PrintMore Go.Proofs.Ytbdnellgioimbaa.A
def genusI (n c : Nat) : Int := wrap64 (1 + (wrap64 (Int.tdiv (wrap64 ((n : Int) - (c : Int))) 2)))
theorem genus_ev {r u : List Nat} (hs : Sf r u) : Ev (fun k => Z31.f k (I r) (I u)) (genusI r.length (cycles (arnd r u)).length) ∧ Ev (fun k => Z29.f k (I r) (I u)) (genusI r.length (cycles (arnd r u)).length) := by
 unfold Z31.f Z29.f
 have h := surfB_I.mpr hs
 constructor
 ·refine Ev.bind (spec_surf _ _) ?_
  simp only [h, if_true]
  refine Ev.bind (spec_corners hs) ?_
  simp only [I_len', I2_len]
  exact Ev.now _
 ·refine Ev.bind (impl_surf _ _) ?_
  simp only [h, if_true]
  refine Ev.bind (a := (r.length : Int)) ?_ ?_
  ·unfold Z5.f
   refine Ev.bind (impl_surf _ _) ?_
   simp only [h, if_true, I_len']
   exact Ev.now _
  ·refine Ev.bind (impl_corners hs) ?_
   simp only [I2_len]
   exact Ev.now _
theorem sameList_ev (a b : List Nat) (h : a.length ≤ 1000000000) : Ev (fun k => Z27.f k (I a) (I b)) (decide (a = b)) := by
 unfold Z27.f
 by_cases hl : a.length = b.length
 ·have hl' : ((I a).length : Int) = ((I b).length : Int) := by rw [I_len, I_len, hl]
  simp only [hl', if_true]
  have H : ∀ d i : Nat, i + d = a.length → ∃ c, Ev (fun k => Z27.l0 k (I b) (I a) (b.length : Int) (i : Int)) c ∧ (c = true ↔ ∀ j, i ≤ j → j < a.length → g a j = g b j) := by
   intro d
   induction d with
   | zero =>
    intro i hi
    refine ⟨true, ev_succ ?_, by simp; intro j h1 h2; omega⟩
    have h1 : ¬ ((i : Int) < (b.length : Int)) := by omega
    simp only [Z27.l0, h1, if_false]
    exact Ev.now _
   | succ d ih =>
    intro i hi
    have c1 : (i : Int) < (b.length : Int) := by omega
    have c2 : (0 : Int) ≤ (i : Int) := by omega
    have c3 : (i : Int) < (a.length : Int) := by omega
    have c4 := w64s i (by omega)
    by_cases e : g a i = g b i
    ·obtain ⟨c, i1, i2⟩ := ih (i + 1) (by omega)
     refine ⟨c, ev_succ ?_, by
      rw [i2]
      constructor
      ·intro k j j1 j2
       by_cases ej : j = i
       ·subst ej; exact e
       ·exact k j (by omega) j2
      ·intro k j j1 j2
       exact k j (by omega) j2⟩
     have e' : ((g a i : Nat) : Int) = ((g b i : Nat) : Int) := by rw [e]
     simp only [Z27.l0, c1, c2, c3, rdI, I_len', e', c4, if_true]
     exact i1
    ·refine ⟨false, ev_succ ?_, by
      simp only [Bool.false_eq_true, false_iff]
      intro k
      exact e (k i (Nat.le_refl _) (by omega))⟩
     have e' : ¬ (((g a i : Nat) : Int) = ((g b i : Nat) : Int)) := by omega
     simp only [Z27.l0, c1, c2, c3, rdI, I_len', e', if_true, if_false]
     exact Ev.now _
  obtain ⟨c, i1, i2⟩ := H a.length 0 (by omega)
  have : decide (a = b) = c := by
   rw [Bool.eq_iff_iff, i2, decide_eq_true_iff]
   constructor
   ·intro e j _ _
    rw [e]
   ·intro k
    exact ext_g hl (fun j hj => k j (Nat.zero_le _) hj)
  rw [this]
  simp only [I_len'] at hl' ⊢
  exact i1
 ·have hl' : ¬ (((I a).length : Int) = ((I b).length : Int)) := by rw [I_len, I_len]; omega
  have : decide (a = b) = false := by
   rw [decide_eq_false_iff_not]
   intro e
   exact hl (by rw [e])
  simp only [hl', if_false]
  rw [this]
  exact Ev.now _
theorem spec_id2 (n : Nat) (h : n ≤ 1000) : Ev (fun k => Z11.f k (n : Int)) (I (idn n)) := by
 unfold Z11.f
 have H : ∀ d i : Nat, i + d = n → Ev (fun k => Z11.l0 k (n : Int) (I (idn i)) (i : Int)) (I (idn n)) := by
  intro d
  induction d with
  | zero =>
   intro i h
   obtain rfl : i = n := by omega
   refine ev_succ ?_
   have h1 : ¬ ((i : Int) < (i : Int)) := by omega
   simp only [Z11.l0, h1, if_false]
   exact Ev.now _
  | succ d ih =>
   intro i h
   refine ev_succ ?_
   have h1 : (i : Int) < (n : Int) := by omega
   have h2 := w64s i (by omega)
   have h3 : (I (idn i)).length < 17592186044416 := by rw [I_len, idn_len]; omega
   have e : idn i ++ [i] = idn (i + 1) := by unfold idn tab; rw [List.range_succ]; simp
   simp only [Z11.l0, h1, h2, h3, if_true, I_snoc, e]
   exact ih (i + 1) (by omega)
 exact H n 0 (by omega)
theorem quot_both (r u a : List Int) : ∃ n : Int, Ev (fun k => Z4.f k r u a) n ∧ Ev (fun k => Z3.f k r u a) n := by
 have hj : ∀ r u a : List Int, Ev (fun k => Z4.j0 k a true r u) (-1) := fun r u a => by
  refine ev_succ ?_
  simp only [Z4.j0, if_true]
  exact Ev.now _
 by_cases h : turnB r u a = true
 ·obtain ⟨c, hc1, hc2⟩ := countFixed_both r u a
  have h0 := h
  obtain ⟨r, u, a, rfl, rfl, rfl, hs, ha, hl, ht⟩ := turn_nat h0
  have hle := hs.le
  obtain ⟨hg1, hg2⟩ := genus_ev hs
  generalize genusI r.length (cycles (arnd r u)).length = gn at hg1 hg2
  have hinv : thn a a = idn a.length ↔ ∀ i, i < a.length → g a (g a i) = i := by
   constructor
   ·intro e i hi
    rw [← g_thn hi, e, g_idn hi]
   ·intro k
    exact (eq_tab (thn_len _ _) (fun i hi => by rw [g_thn hi, k i hi]; rfl))
  have H : ∀ d i : Nat, i + d = a.length → (∀ j, j < i → g a (g a j) = j) → Ev (fun k => Z3.l0 k (I a) (a.length : Int) (i : Int) (I r) (I u)) (if thn a a = idn a.length then (wrap64 (Int.tdiv (wrap64 ((wrap64 ((wrap64 (2 * gn)) + 2)) - c)) 4)) else -1) := by
   intro d
   induction d with
   | zero =>
    intro i hi k
    obtain rfl : i = a.length := by omega
    refine ev_succ ?_
    have h1 : ¬ ((a.length : Int) < (a.length : Int)) := by omega
    rw [if_pos (hinv.mpr k)]
    simp only [Z3.l0, h1, if_false]
    exact Ev.bind hg2 (Ev.bind hc2 (Ev.now _))
   | succ d ih =>
    intro i hi k
    refine ev_succ ?_
    have hi' : i < a.length := by omega
    have ga := g_lt ha hi'
    have c1 : (i : Int) < (a.length : Int) := by omega
    have c2 : (0 : Int) ≤ (i : Int) := by omega
    have c3 : (0 : Int) ≤ ((g a i : Nat) : Int) := by omega
    have c4 : ((g a i : Nat) : Int) < (a.length : Int) := by omega
    have c5 := w64s i (by omega)
    by_cases e : g a (g a i) = i
    ·have e' : ((g a (g a i) : Nat) : Int) = (i : Int) := by rw [e]
     simp only [Z3.l0, c1, c2, c3, c4, c5, rdI, I_len', e', if_true]
     exact ih (i + 1) (by omega) (fun j hj => by
      by_cases ej : j = i
      ·subst ej; exact e
      ·exact k j (by omega))
    ·have e' : ¬ (((g a (g a i) : Nat) : Int) = (i : Int)) := by omega
     rw [if_neg (fun q => e (hinv.mp q i hi'))]
     simp only [Z3.l0, c1, c2, c3, c4, rdI, I_len', e', if_true, if_false]
     exact Ev.now _
  refine ⟨(if thn a a = idn a.length then (wrap64 (Int.tdiv (wrap64 ((wrap64 ((wrap64 (2 * gn)) + 2)) - c)) 4)) else -1), ?_, ?_⟩
  rotate_left
  ·unfold Z3.f
   refine Ev.bind (impl_turn _ _ _) ?_
   simp only [h, if_true, I_len']
   exact H a.length 0 (by omega) (fun j hj => by omega)
  ·unfold Z4.f
   refine Ev.bind (spec_turn _ _ _) ?_
   simp only [h, if_true, I_len']
   refine Ev.bind (spec_then2 (fun i hi => g_lt ha hi) (by omega)) (Ev.bind (spec_id2 a.length (by omega)) (Ev.bind (sameList_ev _ _ (by rw [thn_len]; omega)) ?_))
   by_cases e : thn a a = idn a.length
   ·rw [if_pos e]
    simp only [e, decide_true, Bool.not_true]
    refine ev_succ ?_
    simp only [Z4.j0, Bool.false_eq_true, if_false]
    exact Ev.bind hg1 (Ev.bind hc1 (Ev.now _))
   ·rw [if_neg e]
    simp only [e, decide_false, Bool.not_false]
    exact hj _ _ _
 ·have h' := Bool.eq_false_iff.mpr h
  refine ⟨-1, ?_, ?_⟩
  ·unfold Z4.f
   refine Ev.bind (spec_turn _ _ _) ?_
   simp only [h', Bool.false_eq_true, if_false]
   exact hj _ _ _
  ·unfold Z3.f
   refine Ev.bind (impl_turn _ _ _) ?_
   simp only [h', Bool.false_eq_true, if_false]
   exact Ev.now _
end Go.Proofs.Ytbdnellgioimbaa.M
end
section
/- The law of hyperelliptic surfaces answers true. No conditions. -/
namespace Go.Proofs.Ytbdnellgioimbaa.Pure
set_option linter.unusedVariables false
set_option linter.unusedSimpArgs false
open Go.RowKit Go.Proofs.YtbdnellgioimbaaW.PrintWords Go.Proofs.YtbdnellgioimbaaW.PrintLast Go.Proofs.YtbdnellgioimbaaW.PrintMore Go.Proofs.Ytbdnellgioimbaa.A Go.Proofs.Ytbdnellgioimbaa.M
theorem hyper_both (r u : List Int) : ∃ b, Ev (fun k => Z2.f k r u) b ∧ Ev (fun k => Z1.f k r u) b := by
 obtain ⟨l, h1, h2, hl⟩ := turns_both r u
 have hn := hl.n
 have H : ∀ d i : Nat, i + d = l.length → ∃ b, Ev (fun k => Z2.l0 k l (l.length : Int) (i : Int) r u) b ∧ Ev (fun k => Z1.l0 k l (l.length : Int) (i : Int) r u) b := by
  intro d
  induction d with
  | zero =>
   intro i hi
   obtain rfl : i = l.length := by omega
   have c1 : ¬ ((l.length : Int) < (l.length : Int)) := by omega
   refine ⟨false, ev_succ ?_, ev_succ ?_⟩
   ·simp only [Z2.l0, c1, if_false]
    exact Ev.now _
   ·simp only [Z1.l0, c1, if_false]
    exact Ev.now _
  | succ d ih =>
   intro i hi
   obtain ⟨b, i1, i2⟩ := ih (i + 1) (by omega)
   have c1 : (i : Int) < (l.length : Int) := by omega
   have c2 : (0 : Int) ≤ (i : Int) := by omega
   have c4 := w64s i (by omega)
   obtain ⟨n, q1, q2⟩ := quot_both r u (rd_L1 l (i : Int))
   by_cases e : n = 0
   ·refine ⟨true, ev_succ ?_, ev_succ ?_⟩
    ·simp only [Z2.l0, c1, c2, if_true]
     refine Ev.bind q1 ?_
     simp only [e, if_true]
     exact Ev.now _
    ·simp only [Z1.l0, c1, c2, if_true]
     refine Ev.bind q2 ?_
     simp only [e, if_true]
     exact Ev.now _
   ·refine ⟨b, ev_succ ?_, ev_succ ?_⟩
    ·simp only [Z2.l0, c1, c2, if_true]
     refine Ev.bind q1 ?_
     simp only [e, if_false, c4]
     exact i1
    ·simp only [Z1.l0, c1, c2, if_true]
     refine Ev.bind q2 ?_
     simp only [e, if_false, c4]
     exact i2
 obtain ⟨b, i1, i2⟩ := H l.length 0 (by omega)
 unfold Z2.f Z1.f
 exact ⟨b, Ev.bind h1 i1, Ev.bind h2 i2⟩
theorem FnExactIsHyperelliptic (r u : List Int) (hr : r.length ≤ maxLen) (_ : ∀ x ∈ r, (Lit.int .i64 x).wf = true) (hu : u.length ≤ maxLen) (_ : ∀ x ∈ u, (Lit.int .i64 x).wf = true) : ∃ k, Z0.F k r u := by
 unfold maxLen at hr hu
 unfold Z0.F
 by_cases h2 : r.length + u.length ≤ 1048576
 ·obtain ⟨w, ⟨K1, e1⟩, ⟨K2, e2⟩⟩ := hyper_both r u
  obtain ⟨K3, e3⟩ := toSurf_ev r u (by omega) (by omega)
  obtain ⟨K4, e4⟩ := eqSurf_same r u (by omega) (by omega)
  exact ⟨K1 + K2 + K3 + K4, _, sz_small h2, .inr ⟨by omega, w, e3 _ (by omega), e4 _ (by omega), e1 _ (by omega), e2 _ (by omega)⟩⟩
 ·exact ⟨0, _, sz_big (by omega) (by omega) h2, .inl (by omega)⟩
end Go.Proofs.Ytbdnellgioimbaa.Pure
end
