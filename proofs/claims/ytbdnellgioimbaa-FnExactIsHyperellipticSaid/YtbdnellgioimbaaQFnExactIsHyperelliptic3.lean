/- Lemmas for the row FnExactIsHyperelliptic: the program's functions told as plain functions, and plain mathematics. No conditions. -/
import Derived.Test.YtbdnellgioimbaaQFnExactIsHyperelliptic2
section
namespace Go.Proofs.Ytbdnellgioimbaa.A
open Go.RowKit Go.Proofs.YtbdnellgioimbaaW.PrintWords Go.Proofs.YtbdnellgioimbaaW.PrintLast Go.Proofs.YtbdnellgioimbaaW.PrintMore
attribute [local go_sem] max2_int min2_int max_two min_two max_three min_three max_four min_four
set_option linter.unusedVariables false
set_option linter.unusedSimpArgs false
mutual
def Z6.j0 : Nat → List Int → List Int → Bool → Option (Bool)
 | 0, _, _, _ => none
 | k + 1, x0, x1, x29 => if x29 = true then (some false) else (if 0 ≤ (x0.length : Int) then (if ((x0.length : Int) : Int).toNat ≤ 281474976710656 then ((some (List.replicate ((x0.length : Int) : Int).toNat false : List Bool)).bind fun y329 => (if 0 < (y329.length : Int) then (Z6.l0 k x0 x1 (y329.set (0 : Int).toNat true) (([0] : List Int)) 0) else (none))) else (none)) else (none))
def Z6.l0 : Nat → List Int → List Int → List Bool → List Int → Int → Option (Bool)
 | 0, _, _, _, _, _ => none
 | k + 1, x0, x1, x5, x6, x7 => if x7 < (x6.length : Int) then (if 0 ≤ x7 then (if 0 ≤ (rd x6 x7) then (if (rd x6 x7) < (x0.length : Int) then (if (rd x6 x7) < (x1.length : Int) then ((some (([rd x0 (rd x6 x7), rd x1 (rd x6 x7)] : List Int) : List Int)).bind fun y340 => (Z6.l1 k x0 x1 x5 x6 x7 y340 (y340.length : Int) 0)) else (none)) else (none)) else (none)) else (none)) else (some ((x6.length : Int) == (x0.length : Int)))
def Z6.l1 : Nat → List Int → List Int → List Bool → List Int → Int → List Int → Int → Int → Option (Bool)
 | 0, _, _, _, _, _, _, _, _ => none
 | k + 1, x0, x1, x5, x6, x7, x56, x57, x58 => if x58 < x57 then (if 0 ≤ x58 then (if x58 < (x56.length : Int) then (if 0 ≤ (rd x56 x58) then (if (rd x56 x58) < (x5.length : Int) then (if (rdOf false x5 (rd x56 x58) = true) then (Z6.l1 k x0 x1 x5 x6 x7 x56 x57 (wrap64 (x58 + 1))) else (if x6.length < 17592186044416 then (Z6.l1 k x0 x1 (x5.set ((rd x56 x58) : Int).toNat true) (x6 ++ [rd x56 x58]) x7 x56 x57 (wrap64 (x58 + 1))) else (none))) else (none)) else (none)) else (none)) else (none)) else (Z6.l0 k x0 x1 x5 x6 (wrap64 (x7 + 1)))
end
def Z6.f (k : Nat) (l0 : List Int) (l1 : List Int) : Option (Bool) := (Z37.f k l0).bind fun t327 => (if t327 = true then ((Z37.f k l1).bind fun t328 => (if t328 = true then (if (l0.length : Int) = (l1.length : Int) then (Z6.j0 k l0 l1 ((l0.length : Int) == 0)) else (Z6.j0 k l0 l1 true)) else (Z6.j0 k l0 l1 true))) else (Z6.j0 k l0 l1 true))
theorem Z6.mono_l : ∀ k, (∀ y0 y1 y2, LeO (Z6.j0 k y0 y1 y2) (Z6.j0 (k + 1) y0 y1 y2)) ∧ (∀ y0 y1 y2 y3 y4, LeO (Z6.l0 k y0 y1 y2 y3 y4) (Z6.l0 (k + 1) y0 y1 y2 y3 y4)) ∧ (∀ y0 y1 y2 y3 y4 y5 y6 y7, LeO (Z6.l1 k y0 y1 y2 y3 y4 y5 y6 y7) (Z6.l1 (k + 1) y0 y1 y2 y3 y4 y5 y6 y7))
 | 0 => ⟨fun _ _ _ r h => by simp [Z6.j0] at h, fun _ _ _ _ _ r h => by simp [Z6.l0] at h, fun _ _ _ _ _ _ _ _ r h => by simp [Z6.l1] at h⟩
 | k + 1 => by
  obtain ⟨ih0, ih1, ih2⟩ := Z6.mono_l k
  refine ⟨?_, ?_, ?_⟩
  ·intro y0 y1 y2
   unfold Z6.j0
   repeat' first
   | (with_reducible exact ih0 _ _ _)
   | (with_reducible exact ih1 _ _ _ _ _)
   | (with_reducible exact ih2 _ _ _ _ _ _ _ _)
   | (with_reducible exact Z37.mono _ _)
   | (with_reducible exact LeO.refl _)
   | (with_reducible exact LeO.none _)
   | (with_reducible refine LeO.ite ?_ ?_)
   | (with_reducible refine LeO.bind ?_ (fun _ => ?_))
   | exact ih0 _ _ _
   | exact ih1 _ _ _ _ _
   | exact ih2 _ _ _ _ _ _ _ _
   | exact Z37.mono _ _
   | exact LeO.none _
   | refine LeO.ite ?_ ?_
   | refine LeO.bind ?_ (fun _ => ?_)
  ·intro y0 y1 y2 y3 y4
   unfold Z6.l0
   repeat' first
   | (with_reducible exact ih0 _ _ _)
   | (with_reducible exact ih1 _ _ _ _ _)
   | (with_reducible exact ih2 _ _ _ _ _ _ _ _)
   | (with_reducible exact Z37.mono _ _)
   | (with_reducible exact LeO.refl _)
   | (with_reducible exact LeO.none _)
   | (with_reducible refine LeO.ite ?_ ?_)
   | (with_reducible refine LeO.bind ?_ (fun _ => ?_))
   | exact ih0 _ _ _
   | exact ih1 _ _ _ _ _
   | exact ih2 _ _ _ _ _ _ _ _
   | exact Z37.mono _ _
   | exact LeO.none _
   | refine LeO.ite ?_ ?_
   | refine LeO.bind ?_ (fun _ => ?_)
  ·intro y0 y1 y2 y3 y4 y5 y6 y7
   unfold Z6.l1
   repeat' first
   | (with_reducible exact ih0 _ _ _)
   | (with_reducible exact ih1 _ _ _ _ _)
   | (with_reducible exact ih2 _ _ _ _ _ _ _ _)
   | (with_reducible exact Z37.mono _ _)
   | (with_reducible exact LeO.refl _)
   | (with_reducible exact LeO.none _)
   | (with_reducible refine LeO.ite ?_ ?_)
   | (with_reducible refine LeO.bind ?_ (fun _ => ?_))
   | exact ih0 _ _ _
   | exact ih1 _ _ _ _ _
   | exact ih2 _ _ _ _ _ _ _ _
   | exact Z37.mono _ _
   | exact LeO.none _
   | refine LeO.ite ?_ ?_
   | refine LeO.bind ?_ (fun _ => ?_)
theorem Z6.mono : ∀ a0 a1 k, LeO (Z6.f k a0 a1) (Z6.f (k + 1) a0 a1) := by
 intro a0 a1 k
 obtain ⟨ih0, ih1, ih2⟩ := Z6.mono_l k
 unfold Z6.f
 repeat' first
   | (with_reducible exact ih0 _ _ _)
   | (with_reducible exact ih1 _ _ _ _ _)
   | (with_reducible exact ih2 _ _ _ _ _ _ _ _)
   | (with_reducible exact Z37.mono _ _)
   | (with_reducible exact LeO.refl _)
   | (with_reducible exact LeO.none _)
   | (with_reducible refine LeO.ite ?_ ?_)
   | (with_reducible refine LeO.bind ?_ (fun _ => ?_))
   | exact ih0 _ _ _
   | exact ih1 _ _ _ _ _
   | exact ih2 _ _ _ _ _ _ _ _
   | exact Z37.mono _ _
   | exact LeO.none _
   | refine LeO.ite ?_ ?_
   | refine LeO.bind ?_ (fun _ => ?_)
def Z6.T9 : Bool × List (List Nat × List Nat) := (true, [([], []), ([], []), ([], []), ([1, 2], [1, 2]), ([3], [3]), ([0, 4], [0, 4]), ([5], [5]), ([], []), ([], []), ([], []), ([8, 9], [8, 9]), ([10], [10]), ([7, 11], [7, 11]), ([12], [12]), ([6, 13], [6, 13]), ([14], [14]), ([], [])])
def Z6.B9 : List Nat := [0, 0, 0, 6, 14, 31, 63, 0, 0, 0, 768, 1792, 3968, 8064, 16383, 32767, 0]
theorem Z6.tab9 : rtab .any (opsOf Try.f114 9) = Z6.T9 := by kernel_rfl
theorem Z6.bits9 : waitsOk Z6.T9.2 Z6.B9 = true := by kernel_rfl
set_option maxHeartbeats 8000000 in
set_option maxRecDepth 100000 in
theorem Z6.calls (k : Nat) (A0 : Option Addr) (c0 : Nat) (l0 : List Int) (A1 : Option Addr) (c1 : Nat) (l1 : List Int) (r : Bool) (w : World) (hr0 : Kd.C (Kd.int .i64) w A0 l0.length l0) (hc0 : l0.length ≤ c0) (hr1 : Kd.C (Kd.int .i64) w A1 l1.length l1) (hc1 : l1.length ≤ c1) (h : Z6.f k l0 l1 = some r) :
  Calls Try.prog 114 #[.slice A0 l0.length c0, .slice A1 l1.length c1] w fun e w' => e = .returned (.bool r) ∧ Below w.heap.size w w' := by
 have HR0 := A_ hr0
 have HC0 := A_ hc0
 clear hr0 hc0
 have HR1 := A_ hr1
 have HC1 := A_ hc1
 clear hr1 hc1
 have HB := A_ (Below.refl w.heap.size w)
 have H : ((Z37.f k l0).bind fun t327 => (if t327 = true then ((Z37.f k l1).bind fun t328 => (if t328 = true then (if (l0.length : Int) = (l1.length : Int) then (Z6.j0 k l0 l1 ((l0.length : Int) == 0)) else (Z6.j0 k l0 l1 true)) else (Z6.j0 k l0 l1 true))) else (Z6.j0 k l0 l1 true))) = some r := h
 clear h
 have HC3 := A_ H
 clear H
 go_enter Try.func114, Try.ntmps114
 go_upto_region 1 with (fail)
 go_cut [29] (fun v29 wc => ∃ (kq : Nat) (x29_2 : Bool), v29 = .bool x29_2 ∧ Aside0 (Z6.j0 kq l0 l1 x29_2 = some r) ∧ Aside0 (kq ≤ k) ∧ Aside0 (Below w.heap.size w wc))
 case first =>
  have H := HC3.out
  clear HC3
  replace H := Option.bind_eq_some_iff.mp H
  obtain ⟨t327, A40, H⟩ := H
  replace H : (if t327 = true then ((Z37.f k l1).bind fun t328 => (if t328 = true then (if (l0.length : Int) = (l1.length : Int) then (Z6.j0 k l0 l1 ((l0.length : Int) == 0)) else (Z6.j0 k l0 l1 true)) else (Z6.j0 k l0 l1 true))) else (Z6.j0 k l0 l1 true)) = some r := H
  have A4 := A_ A40
  clear A40
  by_cases c5 : t327 = true
  ·subst c5
   have H1 : ((Z37.f k l1).bind fun t328 => (if t328 = true then (if (l0.length : Int) = (l1.length : Int) then (Z6.j0 k l0 l1 ((l0.length : Int) == 0)) else (Z6.j0 k l0 l1 true)) else (Z6.j0 k l0 l1 true))) = some r := by rw [if_pos rfl] at H; exact H
   clear H
   have H := H1
   clear H1
   replace H := Option.bind_eq_some_iff.mp H
   obtain ⟨t328, A60, H⟩ := H
   replace H : (if t328 = true then (if (l0.length : Int) = (l1.length : Int) then (Z6.j0 k l0 l1 ((l0.length : Int) == 0)) else (Z6.j0 k l0 l1 true)) else (Z6.j0 k l0 l1 true)) = some r := H
   have A6 := A_ A60
   clear A60
   by_cases c7 : t328 = true
   ·subst c7
    have H1 : (if (l0.length : Int) = (l1.length : Int) then (Z6.j0 k l0 l1 ((l0.length : Int) == 0)) else (Z6.j0 k l0 l1 true)) = some r := by rw [if_pos rfl] at H; exact H
    clear H
    have H := H1
    clear H1
    by_cases c8 : (l0.length : Int) = (l1.length : Int)
    ·rw [if_pos c8] at H
     have c8b0 : ((l0.length : Int) == (l1.length : Int)) = true := beq_iff_eq.mpr c8
     have c8b1 : ((l0.length : Int) != (l1.length : Int)) = false := bne_eq_false_iff_eq.mpr c8
     have c8b2 : (l0.length == l1.length) = true := by first | simpa using c8 | (simp at c8 ⊢; omega)
     clear c8
     (first | rw [c8b0] | (simp only [i64_w, i32_w]; rw [c8b0]) | skip)
     have H' := A_ H
     clear H
     go_wp2_with (first | ((with_reducible refine gA_ (f := 98) rfl ?_); refine goesL_ (some 11) rfl rfl Try.func98 (by kernel_rfl) rfl #[.slice A0 l0.length c0] rfl (by (try simp only [mA_, mB_, mC_]); first | done | rfl | (simp only [lA_, lB_]; rfl)) ?_; (with_reducible refine (Z37.calls k _ _ l0 true _ ?side1 ?side2 A4.out).mono ?_); (case side1 => repeat (first | exact (cD_ HR0.out HB.out) | (with_reducible first | refine cA_ ?_ _ | refine cB_ ?_ _ | refine cC_ ?_))); (case side2 => exact HC0.out); rintro e w9 ⟨rfl, hb⟩; refine ⟨_, rfl, ?_⟩; have n0_ := A_ (bE_ (by repeat (first | (with_reducible first | exact HB.out | apply bA_ | apply bB_ | apply bC_) | exact HB.out)) hb); clear HB; have HB := n0_; clear n0_; (try clear hb); (try clear hb2); (try clear hk); (try clear hi)) | (go_at_call 98; (with_reducible refine (Z37.calls k _ _ l1 true _ ?side1 ?side2 A6.out).mono ?_); (case side1 => repeat (first | exact (cD_ HR1.out HB.out) | (with_reducible first | refine cA_ ?_ _ | refine cB_ ?_ _ | refine cC_ ?_))); (case side2 => exact HC1.out); rintro e w10 ⟨rfl, hb⟩; have n0_ := A_ (bE_ (by repeat (first | (with_reducible first | exact HB.out | apply bA_ | apply bB_ | apply bC_) | exact HB.out)) hb); clear HB; have HB := n0_; clear n0_; (try clear hb); (try clear hb2); (try clear hk); (try clear hi)))
     go_meet
     case rel => exact ⟨_, (((l0.length : Int) == 0)), (by first | rfl | (simp; done) | (simp [*]; done)), H', ⟨by first | omega | exact nA_ _⟩, ⟨by repeat (first | (with_reducible first | exact HB.out | apply bA_ | apply bB_ | apply bC_) | exact HB.out)⟩⟩
    ·rw [if_neg c8] at H
     have c8b0 : ((l0.length : Int) == (l1.length : Int)) = false := beq_eq_false_iff_ne.mpr c8
     have c8b1 : ((l0.length : Int) != (l1.length : Int)) = true := bne_iff_ne.mpr c8
     have c8b2 : (l0.length == l1.length) = false := by first | simpa using c8 | (simp at c8 ⊢; omega)
     (first | rw [c8b0] | (simp only [i64_w, i32_w]; rw [c8b0]) | skip)
     have H' := A_ H
     clear H
     go_wp2_with (first | ((with_reducible refine gA_ (f := 98) rfl ?_); refine goesL_ (some 11) rfl rfl Try.func98 (by kernel_rfl) rfl #[.slice A0 l0.length c0] rfl (by (try simp only [mA_, mB_, mC_]); first | done | rfl | (simp only [lA_, lB_]; rfl)) ?_; (with_reducible refine (Z37.calls k _ _ l0 true _ ?side1 ?side2 A4.out).mono ?_); (case side1 => repeat (first | exact (cD_ HR0.out HB.out) | (with_reducible first | refine cA_ ?_ _ | refine cB_ ?_ _ | refine cC_ ?_))); (case side2 => exact HC0.out); rintro e w11 ⟨rfl, hb⟩; refine ⟨_, rfl, ?_⟩; have n0_ := A_ (bE_ (by repeat (first | (with_reducible first | exact HB.out | apply bA_ | apply bB_ | apply bC_) | exact HB.out)) hb); clear HB; have HB := n0_; clear n0_; (try clear hb); (try clear hb2); (try clear hk); (try clear hi)) | (go_at_call 98; (with_reducible refine (Z37.calls k _ _ l1 true _ ?side1 ?side2 A6.out).mono ?_); (case side1 => repeat (first | exact (cD_ HR1.out HB.out) | (with_reducible first | refine cA_ ?_ _ | refine cB_ ?_ _ | refine cC_ ?_))); (case side2 => exact HC1.out); rintro e w12 ⟨rfl, hb⟩; have n0_ := A_ (bE_ (by repeat (first | (with_reducible first | exact HB.out | apply bA_ | apply bB_ | apply bC_) | exact HB.out)) hb); clear HB; have HB := n0_; clear n0_; (try clear hb); (try clear hb2); (try clear hk); (try clear hi)))
     go_meet
     case rel => exact ⟨_, (true), (by first | rfl | (simp; done) | (simp [*]; done)), H', ⟨by first | omega | exact nA_ _⟩, ⟨by repeat (first | (with_reducible first | exact HB.out | apply bA_ | apply bB_ | apply bC_) | exact HB.out)⟩⟩
   ·replace c7 := Bool.eq_false_iff.mpr c7
    subst c7
    have H1 : (Z6.j0 k l0 l1 true) = some r := by rw [if_neg (show ¬ (false = true) by decide)] at H; exact H
    clear H
    have H := H1
    clear H1
    have H' := A_ H
    clear H
    go_wp2_with (first | ((with_reducible refine gA_ (f := 98) rfl ?_); refine goesL_ (some 11) rfl rfl Try.func98 (by kernel_rfl) rfl #[.slice A0 l0.length c0] rfl (by (try simp only [mA_, mB_, mC_]); first | done | rfl | (simp only [lA_, lB_]; rfl)) ?_; (with_reducible refine (Z37.calls k _ _ l0 true _ ?side1 ?side2 A4.out).mono ?_); (case side1 => repeat (first | exact (cD_ HR0.out HB.out) | (with_reducible first | refine cA_ ?_ _ | refine cB_ ?_ _ | refine cC_ ?_))); (case side2 => exact HC0.out); rintro e w13 ⟨rfl, hb⟩; refine ⟨_, rfl, ?_⟩; have n0_ := A_ (bE_ (by repeat (first | (with_reducible first | exact HB.out | apply bA_ | apply bB_ | apply bC_) | exact HB.out)) hb); clear HB; have HB := n0_; clear n0_; (try clear hb); (try clear hb2); (try clear hk); (try clear hi)) | (go_at_call 98; (with_reducible refine (Z37.calls k _ _ l1 false _ ?side1 ?side2 A6.out).mono ?_); (case side1 => repeat (first | exact (cD_ HR1.out HB.out) | (with_reducible first | refine cA_ ?_ _ | refine cB_ ?_ _ | refine cC_ ?_))); (case side2 => exact HC1.out); rintro e w14 ⟨rfl, hb⟩; have n0_ := A_ (bE_ (by repeat (first | (with_reducible first | exact HB.out | apply bA_ | apply bB_ | apply bC_) | exact HB.out)) hb); clear HB; have HB := n0_; clear n0_; (try clear hb); (try clear hb2); (try clear hk); (try clear hi)))
    go_meet
    case rel => exact ⟨_, (true), (by first | rfl | (simp; done) | (simp [*]; done)), H', ⟨by first | omega | exact nA_ _⟩, ⟨by repeat (first | (with_reducible first | exact HB.out | apply bA_ | apply bB_ | apply bC_) | exact HB.out)⟩⟩
  ·replace c5 := Bool.eq_false_iff.mpr c5
   subst c5
   have H1 : (Z6.j0 k l0 l1 true) = some r := by rw [if_neg (show ¬ (false = true) by decide)] at H; exact H
   clear H
   have H := H1
   clear H1
   have H' := A_ H
   clear H
   go_wp2_with (first | ((with_reducible refine gA_ (f := 98) rfl ?_); refine goesL_ (some 11) rfl rfl Try.func98 (by kernel_rfl) rfl #[.slice A0 l0.length c0] rfl (by (try simp only [mA_, mB_, mC_]); first | done | rfl | (simp only [lA_, lB_]; rfl)) ?_; (with_reducible refine (Z37.calls k _ _ l0 false _ ?side1 ?side2 A4.out).mono ?_); (case side1 => repeat (first | exact (cD_ HR0.out HB.out) | (with_reducible first | refine cA_ ?_ _ | refine cB_ ?_ _ | refine cC_ ?_))); (case side2 => exact HC0.out); rintro e w15 ⟨rfl, hb⟩; refine ⟨_, rfl, ?_⟩; have n0_ := A_ (bE_ (by repeat (first | (with_reducible first | exact HB.out | apply bA_ | apply bB_ | apply bC_) | exact HB.out)) hb); clear HB; have HB := n0_; clear n0_; (try clear hb); (try clear hb2); (try clear hk); (try clear hi)))
   go_meet
   case rel => exact ⟨_, (true), (by first | rfl | (simp; done) | (simp [*]; done)), H', ⟨by first | omega | exact nA_ _⟩, ⟨by repeat (first | (with_reducible first | exact HB.out | apply bA_ | apply bB_ | apply bC_) | exact HB.out)⟩⟩
 case rest =>
  clear HC3
  (try clear c1); (try clear p2); (try clear c5); (try clear c7); (try clear c8); (try clear c8b0); (try clear c8b1); (try clear c8b2); (try clear c9); (try clear c11)
  obtain ⟨kq, x29_2, rfl, HA, HJ2, HB⟩ := hcut
  cases kq with
  | zero => exact absurd HA.out (by simp [Z6.j0])
  | succ kj2 =>
   have H := HA.out
   clear HA
   simp only [Z6.j0] at H
   by_cases c16 : x29_2 = true
   ·subst c16
    have H1 : (some false) = some r := by rw [if_pos rfl] at H; exact H
    clear H
    have H := H1
    clear H1
    obtain rfl := Option.some.inj H
    go_wp2
    go_ret
    exact ⟨by first | rfl | (simp [errW_none, errW_some] <;> rfl) | (simp [*, errW_none, errW_some] <;> rfl), by repeat (first | (with_reducible first | exact HB.out | apply bA_ | apply bB_ | apply bC_) | exact HB.out)⟩
   ·replace c16 := Bool.eq_false_iff.mpr c16
    subst c16
    have H1 : (if 0 ≤ (l0.length : Int) then (if ((l0.length : Int) : Int).toNat ≤ 281474976710656 then ((some (List.replicate ((l0.length : Int) : Int).toNat false : List Bool)).bind fun y329 => (if 0 < (y329.length : Int) then (Z6.l0 kj2 l0 l1 (y329.set (0 : Int).toNat true) (([0] : List Int)) 0) else (none))) else (none)) else (none)) = some r := by rw [if_neg (show ¬ (false = true) by decide)] at H; exact H
    clear H
    have H := H1
    clear H1
    by_cases c17 : 0 ≤ (l0.length : Int)
    ·rw [if_pos c17] at H
     have c17b0 := eq_true c17
     have c17b1 : decide (0 ≤ (l0.length : Int)) = true := oC_ c17
     clear c17
     by_cases c18 : ((l0.length : Int) : Int).toNat ≤ 281474976710656
     ·rw [if_pos c18] at H
      have c18b0 := eq_true c18
      have c18b1 : decide (((l0.length : Int) : Int).toNat ≤ 281474976710656) = true := oC_ c18
      clear c18
      obtain ⟨y329, hy329⟩ : ∃ y_ : List Bool, y_ = (List.replicate ((l0.length : Int) : Int).toNat false) := ⟨_, rfl⟩
      replace H : (if 0 < (y329.length : Int) then (Z6.l0 kj2 l0 l1 (y329.set (0 : Int).toNat true) (([0] : List Int)) 0) else (none)) = some r := by first | (rw [hy329]; with_reducible exact H) | (have H2_ := (oA_ _ _).symm.trans H; rw [hy329]; with_reducible exact H2_) | (have H2_ := (oA_ _ _).symm.trans H; with_reducible exact H2_) | with_reducible exact H | (rw [hy329]; exact H) | exact H
      have Ny329 := A_ hy329
      clear hy329
      by_cases c19 : 0 < (y329.length : Int)
      ·rw [if_pos c19] at H
       have c19b0 : decide (0 < (y329.length : Int)) = true := oC_ c19
       have c19b1 : decide (0 < y329.length) = true := oC_ (by omega)
       clear c19
       obtain ⟨y332, hy332⟩ : ∃ y_ : List Bool, y_ = (y329.set (0 : Int).toNat true) := ⟨_, rfl⟩
       replace H : (Z6.l0 kj2 l0 l1 y332 (([0] : List Int)) 0) = some r := by first | (rw [hy332]; with_reducible exact H) | (have H2_ := (oA_ _ _).symm.trans H; rw [hy332]; with_reducible exact H2_) | (have H2_ := (oA_ _ _).symm.trans H; with_reducible exact H2_) | with_reducible exact H | (rw [hy332]; exact H) | exact H
       have Ny332 := A_ hy332
       clear hy332
       obtain ⟨y333, hy333⟩ : ∃ y_ : List Int, y_ = (([0] : List Int)) := ⟨_, rfl⟩
       replace H : (Z6.l0 kj2 l0 l1 y332 y333 0) = some r := by first | (rw [hy333]; with_reducible exact H) | (have H2_ := (oA_ _ _).symm.trans H; rw [hy333]; with_reducible exact H2_) | (have H2_ := (oA_ _ _).symm.trans H; with_reducible exact H2_) | with_reducible exact H | (rw [hy333]; exact H) | exact H
       have Ny333 := A_ hy333
       clear hy333
       have H' := A_ H
       clear H
       go_wp2_with (first | ((with_reducible refine gB_ (N := 32) rfl ?_); (try (refine gate_guard (by rfl) ?_; dsimp only)); refine Kd.R_make Kd.bool _ 4 rfl (N := 32) rfl 98 _ _ rfl (l0.length : Int) rfl rfl Try.underlying98 (.bool false) 1 info4 rfl (by decide) (by omega) false (ok := fun _ => True) (okp := fun _ => True) rfl (fun _ hk => hk) trivial (oB_ (by first | (with_reducible assumption) | assumption)) (Nat.le_trans (Nat.mul_le_mul_right _ (oB_ (by first | (with_reducible assumption) | assumption) : (l0.length : Int).toNat ≤ 281474976710656)) (by omega)) (Below.refl _ _) (nA_ _) ?_; intro v330 w21 ho22 hb hg_ hnew_; clear hg_ hnew_; (first | rw [← Ny329.out] at ho22 | (simp only [Int.reduceToNat] at ho22; rw [← Ny329.out] at ho22)); have n0_ := A_ (rE_ ho22 (bF_ (by repeat (first | (with_reducible first | exact HB.out | apply bA_ | apply bB_ | apply bC_) | exact HB.out)))); have n1_ := A_ (bE_ (by repeat (first | (with_reducible first | exact HB.out | apply bA_ | apply bB_ | apply bC_) | exact HB.out)) hb); clear HB; have HO331 := n0_; have HB := n1_; clear n0_ n1_; clear hb ho22; have p20 : 0 ≤ (0 : Int) := (by omega); have q20 : (0 : Int) < ((y329.length : Int) : Int) := oB_ (by first | (with_reducible assumption) | assumption); have qi20 : (0 < y329.length) = True := eq_true (by omega); obtain ⟨go20, co20, eo20, gb20, gl20, cl20, HG20⟩ := Kd.R_form HO331.out (by omega); (first | cases eo20 | (injection eo20 with ea_ en_ ec_; (first | subst ea_ | (injection ea_ with ea_; subst ea_)); subst ec_; clear en_)); have GB20 := A_ gb20; have GG20 := A_ HG20; clear gb20 gl20 HG20; obtain ⟨hx20_0, hf20_0⟩ := Kd.R_celln false HO331.out (0 : Int) p20 q20; (try rw [show ((0 : Int)).toNat = 0 from rfl] at hx20_0); (try simp only [Nat.reduceMul, Nat.zero_mul, Nat.zero_add, Nat.reduceAdd] at hx20_0); (try rw [show ((0 : Int)).toNat = 0 from rfl] at hf20_0); (try simp only [Nat.reduceMul, Nat.zero_mul, Nat.zero_add, Nat.reduceAdd] at hf20_0); replace p20 := eq_true p20; replace q20 := eq_true q20; obtain ⟨hy23_, hz23_⟩ := Kd.R_celln false HO331.out (0 : Int) (by omega) (oB_ (by first | (with_reducible assumption) | assumption)); (try simp only [Int.reduceToNat, Int.toNat_zero, Int.toNat_ofNat, Nat.reduceMul, Nat.zero_mul, Nat.zero_add] at hy23_ hz23_); (try rw [show ((0 : Int)).toNat = 0 from rfl] at hy23_); (try rw [show ((0 : Int)).toNat = 0 from rfl] at hz23_); have HP23 := Kd.R_putg HO331.out (0 : Int) true) | ((with_reducible refine gate_store (t := 4) (p := 34) rfl ?_); refine store_event (t := 4) (p := 34) (v := ?vo_w24) (w1 := (w21.setCell ⟨go20, (0 : Int).toNat, none⟩ (.bool true))) ?hg ?ho ?hn ?hr ?_; (case ho => rfl); (case hg => rfl); (case hn => rfl); (case hr => first | (go_simp; done) | (go_simp; rfl)); intro w24 hw; have hg : w21.grownBy w24 (some go20) := (by rw [hw]; exact HP23.2); have hp_ : Kd.R Kd.bool 4 w24 w.heap.size (fun _ => True) (.slice (some ⟨go20, 0, none⟩) y329.length co20) y332 := (by rw [hw, Ny332.out]; exact HP23.1); clear HP23; have n0_ := A_ (hp_); have n1_ := A_ ((by rw [hw]; exact bD_ (HB.out) GB20.out : Below w.heap.size w w24)); clear HO331; clear HB; have HO331 := n0_; have HB := n1_; clear n0_ n1_; clear hg hw hp_) | ((with_reducible refine gB_ (N := 35) rfl ?_); (try (refine gate_guard (by rfl) ?_; dsimp only)); refine Kd.R_lit (Kd.int .i64) _ 3 ?hg (N := 35) ?hd (xs := ([0] : List Int)) (inner := [.int .i64 0]) (ok := fun _ => True) (okp := fun _ => True) ?hr ?hp (fun _ hk => hk) trivial (Below.refl _ _) (nA_ _) (by simp) ?_; (case hd => rfl); (case hg => rfl); (case hr => first | (go_simp; done) | (go_simp; rfl)); (case hp => exact (Reps.one (show Kd.M (Kd.int .i64) _ _ _ 0 [.int .i64 0] from rfl) (Reps.none _ _))); intro v334 w25 ho26 hb hg_ hnew_; clear hg_ hnew_; (first | rw [← Ny333.out] at ho26 | (simp only [Int.reduceToNat] at ho26; rw [← Ny333.out] at ho26)); have n0_ := A_ (rD_ (by (with_reducible repeat (first | apply rA_ | apply rB_ | apply rC_)); exact HO331.out) hb); have n1_ := A_ (rE_ ho26 (bF_ (by repeat (first | (with_reducible first | exact HB.out | apply bA_ | apply bB_ | apply bC_) | exact HB.out)))); have n2_ := A_ (bE_ (by repeat (first | (with_reducible first | exact HB.out | apply bA_ | apply bB_ | apply bC_) | exact HB.out)) hb); clear HO331; clear HB; have HO331 := n0_; have HO335 := n1_; have HB := n2_; clear n0_ n1_ n2_; clear hb ho26))
       go_loopg [6, 7] kj2 (fun kq v6 v7 w' => ∃ (x5_2 : List Bool) (x6_2 : List Int) (x7_2 : Int), v7 = .int .i64 x7_2 ∧ Aside0 (Z6.l0 kq l0 l1 x5_2 x6_2 x7_2 = some r) ∧ Aside0 (kq ≤ kj2) ∧ Aside0 (Kd.R Kd.bool 4 w' w.heap.size (fun _ => True) (.slice (some ⟨go20, 0, none⟩) y329.length co20) x5_2) ∧ Aside0 (Kd.R (Kd.int .i64) 3 w' w.heap.size (fun _ => True) v6 x6_2) ∧ Aside0 (Below w.heap.size w w'))
       case atStart => exact ⟨(y332), (y333), (0), (by first | rfl | (simp; done) | (simp [*]; done)), H', ⟨nA_ _⟩, ⟨by (with_reducible repeat (first | apply rA_ | apply rB_ | apply rC_)); exact HO331.out⟩, ⟨by (with_reducible repeat (first | apply rA_ | apply rB_ | apply rC_)); exact HO335.out⟩, ⟨by repeat (first | (with_reducible first | exact HB.out | apply bA_ | apply bB_ | apply bC_) | exact HB.out)⟩⟩
       case round =>
        clear H'
        (try clear c1); (try clear p2); (try clear q2); (try clear hx2); (try clear qi2); (try clear hf2); (try clear c5); (try clear c7); (try clear c8); (try clear c8b0); (try clear c8b1); (try clear c8b2); (try clear c9); (try clear c11); (try clear c16); (try clear c17); (try clear c17b0); (try clear c17b1); (try clear c18); (try clear c18b0); (try clear c18b1); (try clear c19); (try clear c19b0); (try clear c19b1); (try clear p20); (try clear q20); (try clear hx20); (try clear qi20); (try clear hf20); (try clear hx20_0); (try clear p2); (try clear p20); (try clear q20)
        obtain ⟨x5_2, x6_2, x7_2, rfl, HA, HK2, HO_5, HO_6, HB⟩ := hrel
        have hl5_2 := (Kd.R_reads' HO_5.out).1
        rw [hl5_2] at HO_5
        (try simp only [hl5_2])
        (try simp only [hl5_2] at HO_6)
        cases gk with
        | zero => exact absurd HA.out (by simp [Z6.l0])
        | succ k2 =>
         have H := HA.out
         clear HA
         simp only [Z6.l0] at H
         by_cases c27 : x7_2 < (x6_2.length : Int)
         ·rw [if_pos c27] at H
          have c27b0 : decide (x7_2 < (x6_2.length : Int)) = true := oC_ c27
          clear c27
          by_cases c28 : 0 ≤ x7_2
          ·rw [if_pos c28] at H
           have c28b0 : decide (0 ≤ x7_2) = true := oC_ c28
           clear c28
           by_cases c29 : 0 ≤ (rd x6_2 x7_2)
           ·rw [if_pos c29] at H
            have c29b0 : decide (0 ≤ (rd x6_2 x7_2)) = true := oC_ c29
            clear c29
            by_cases c30 : (rd x6_2 x7_2) < (l0.length : Int)
            ·rw [if_pos c30] at H
             have c30b0 : decide ((rd x6_2 x7_2) < (l0.length : Int)) = true := oC_ c30
             clear c30
             by_cases c31 : (rd x6_2 x7_2) < (l1.length : Int)
             ·rw [if_pos c31] at H
              have c31b0 : decide ((rd x6_2 x7_2) < (l1.length : Int)) = true := oC_ c31
              clear c31
              obtain ⟨y340, hy340⟩ : ∃ y_ : List Int, y_ = (([rd l0 (rd x6_2 x7_2), rd l1 (rd x6_2 x7_2)] : List Int)) := ⟨_, rfl⟩
              replace H : (Z6.l1 k2 l0 l1 x5_2 x6_2 x7_2 y340 (y340.length : Int) 0) = some r := by first | (rw [hy340]; with_reducible exact H) | (have H2_ := (oA_ _ _).symm.trans H; rw [hy340]; with_reducible exact H2_) | (have H2_ := (oA_ _ _).symm.trans H; with_reducible exact H2_) | with_reducible exact H | (rw [hy340]; exact H) | exact H
              have Ny340 := A_ hy340
              clear hy340
              have H' := A_ H
              clear H
              obtain ⟨Ao32, co32, eo32⟩ := Kd.R_slice HO_6.out
              subst eo32
              try go_wp2
              have n0_ := A_ (rC_ HO_5.out)
              have n1_ := A_ (rC_ HO_6.out)
              have n2_ := A_ (bC_ HB.out)
              clear HO_5
              clear HO_6
              clear HB
              have HO_5 := n0_
              have HO_6 := n1_
              have HB := n2_
              clear n0_ n1_ n2_
              have p336 : 0 ≤ (x7_2 : Int) := oB_ (by first | (with_reducible assumption) | assumption)
              have q336 : x7_2 < (x6_2.length : Int) := oB_ (by first | (with_reducible assumption) | assumption)
              obtain ⟨ad336, e336, hx336_0⟩ := Kd.at_int (Kd.R_reads' HO_6.out).2.2 x7_2 p336 q336
              cases e336
              replace p336 := eq_true p336
              replace q336 := eq_true q336
              have p337 : 0 ≤ ((rd x6_2 x7_2) : Int) := oB_ (by first | (with_reducible assumption) | assumption)
              have q337 : (rd x6_2 x7_2) < (l0.length : Int) := oB_ (by first | (with_reducible assumption) | assumption)
              obtain ⟨ad337, e337, hx337_0⟩ := Kd.at_int HR0.out (rd x6_2 x7_2) p337 q337
              have hw337_0 := hx337_0
              cases e337
              replace hx337_0 := (HB.out.cell (World.block_lt_of_cell? w _ hx337_0)).trans hx337_0
              replace p337 := eq_true p337
              replace q337 := eq_true q337
              have p338 : 0 ≤ (x7_2 : Int) := oB_ (by first | (with_reducible assumption) | assumption)
              have q338 : x7_2 < (x6_2.length : Int) := oB_ (by first | (with_reducible assumption) | assumption)
              obtain ⟨ad338, e338, hx338_0⟩ := Kd.at_int (Kd.R_reads' HO_6.out).2.2 x7_2 p338 q338
              obtain rfl : ad336 = ad338 := (by injection e338)
              replace p338 := eq_true p338
              replace q338 := eq_true q338
              have p339 : 0 ≤ ((rd x6_2 x7_2) : Int) := oB_ (by first | (with_reducible assumption) | assumption)
              have q339 : (rd x6_2 x7_2) < (l1.length : Int) := oB_ (by first | (with_reducible assumption) | assumption)
              obtain ⟨ad339, e339, hx339_0⟩ := Kd.at_int HR1.out (rd x6_2 x7_2) p339 q339
              have hw339_0 := hx339_0
              cases e339
              replace hx339_0 := (HB.out.cell (World.block_lt_of_cell? w _ hx339_0)).trans hx339_0
              replace p339 := eq_true p339
              replace q339 := eq_true q339
              refine start_ (n := 17) (S := fun w' => w'.cell? (ad336.add (x7_2).toNat) = some (.int .i64 (rd x6_2 x7_2)) ∧ w'.cell? (ad337.add ((rd x6_2 x7_2)).toNat) = some (.int .i64 (rd l0 (rd x6_2 x7_2))) ∧ w'.cell? (ad336.add (x7_2).toNat) = some (.int .i64 (rd x6_2 x7_2)) ∧ w'.cell? (ad339.add ((rd x6_2 x7_2)).toNat) = some (.int .i64 (rd l1 (rd x6_2 x7_2)))) (ds := []) #[false, false, false, false, false, false, false, false, false, false, false, false, false, false, false, false, false] (by kernel_rfl) rfl rfl ⟨hx336_0, ((HB.out.cell (World.block_lt_of_cell? w _ hw337_0)).trans hw337_0), hx338_0, ((HB.out.cell (World.block_lt_of_cell? w _ hw339_0)).trans hw339_0)⟩ (fun hHeld => ?_); refine with_tabW Z6.tab9 Z6.bits9 (fun HT_ HW_ => ?_)
              generalize wr.drew = w33 at HO_5 HO_6 HB hx336_0 hx337_0 hx338_0 hx339_0 hHeld ⊢
              refine pure_ (i := 0) (N := some 42) (v := ?_) (a' := ?_) #[true, false, false, false, false, false, false, false, false, false, false, false, false, false, false, false, false] rfl rfl (any_of HT_.out (by kernel_rfl)) (fun _ _ _ h => h) (Or.inl ⟨by rfl, ?_⟩) ?_ ?_
              rotate_left
              ·intro w'
               go_simp
               with_reducible rfl
              rotate_left
              ·simp only [Act.put, sA_, sB_, sC_, i64_w, i32_w]
               rfl
              refine pure_ (i := 1) (N := some 43) (v := ?_) (a' := ?_) #[true, true, false, false, false, false, false, false, false, false, false, false, false, false, false, false, false] rfl rfl (any_of HT_.out (by kernel_rfl)) (fun _ _ _ h => h) (Or.inl ⟨by rfl, ?_⟩) ?_ ?_
              rotate_left
              ·intro w'
               go_simp
               with_reducible rfl
              rotate_left
              ·simp only [Act.put, sA_, sB_, sC_, i64_w, i32_w]
               rfl
              refine pure_ (i := 2) (N := some 44) (v := ?_) (a' := ?_) #[true, true, true, false, false, false, false, false, false, false, false, false, false, false, false, false, false] rfl rfl (any_of HT_.out (by kernel_rfl)) (fun _ _ _ h => h) (Or.inl ⟨by rfl, ?_⟩) ?_ ?_
              rotate_left
              ·intro w'
               go_simp
               with_reducible rfl
              rotate_left
              ·simp only [Act.put, sA_, sB_, sC_, i64_w, i32_w]
               rfl
              refine pure_ (i := 3) (N := some 45) (v := ?_) (a' := ?_) #[true, true, true, true, false, false, false, false, false, false, false, false, false, false, false, false, false] rfl rfl (any_of HT_.out (by kernel_rfl)) (fun _ _ _ h => h) (Or.inl ⟨by rfl, ?_⟩) ?_ ?_
              rotate_left
              ·intro w'
               go_simp
               with_reducible rfl
              rotate_left
              ·simp only [Act.put, sA_, sB_, sC_, i64_w, i32_w]
               rfl
              refine pure_ (i := 7) (N := some 49) (v := ?_) (a' := ?_) #[true, true, true, true, false, false, false, true, false, false, false, false, false, false, false, false, false] rfl rfl (any_of HT_.out (by kernel_rfl)) (fun _ _ _ h => h) (Or.inl ⟨by rfl, ?_⟩) ?_ ?_
              rotate_left
              ·intro w'
               go_simp
               with_reducible rfl
              rotate_left
              ·simp only [Act.put, sA_, sB_, sC_, i64_w, i32_w]
               rfl
              refine pure_ (i := 8) (N := some 50) (v := ?_) (a' := ?_) #[true, true, true, true, false, false, false, true, true, false, false, false, false, false, false, false, false] rfl rfl (any_of HT_.out (by kernel_rfl)) (fun _ _ _ h => h) (Or.inl ⟨by rfl, ?_⟩) ?_ ?_
              rotate_left
              ·intro w'
               go_simp
               with_reducible rfl
              rotate_left
              ·simp only [Act.put, sA_, sB_, sC_, i64_w, i32_w]
               rfl
              refine pure_ (i := 9) (N := some 51) (v := ?_) (a' := ?_) #[true, true, true, true, false, false, false, true, true, true, false, false, false, false, false, false, false] rfl rfl (any_of HT_.out (by kernel_rfl)) (fun _ _ _ h => h) (Or.inl ⟨by rfl, ?_⟩) ?_ ?_
              rotate_left
              ·intro w'
               go_simp
               with_reducible rfl
              rotate_left
              ·simp only [Act.put, sA_, sB_, sC_, i64_w, i32_w]
               rfl
              refine pure_ (i := 10) (N := some 52) (v := ?_) (a' := ?_) #[true, true, true, true, false, false, false, true, true, true, true, false, false, false, false, false, false] rfl rfl (any_of HT_.out (by kernel_rfl)) (fun _ _ _ h => h) (Or.inl ⟨by rfl, ?_⟩) ?_ ?_
              rotate_left
              ·intro w'
               go_simp
               with_reducible rfl
              rotate_left
              ·simp only [Act.put, sA_, sB_, sC_, i64_w, i32_w]
               rfl
              refine pure_ (i := 16) (N := some 58) (v := ?_) (a' := ?_) #[true, true, true, true, false, false, false, true, true, true, true, false, false, false, false, false, true] rfl rfl (any_of HT_.out (by kernel_rfl)) (fun _ _ _ h => h) (Or.inl ⟨by rfl, ?_⟩) ?_ ?_
              rotate_left
              ·intro w'
               go_simp
               with_reducible rfl
              rotate_left
              ·simp only [Act.put, sA_, sB_, sC_, i64_w, i32_w]
               rfl
              refine take_ (i := 4) (N := some 46) (v := ?_) (a' := ?_) #[true, true, true, true, true, false, false, true, true, true, true, false, false, false, false, false, true] rfl rfl (take_ofW HT_.out HW_.out (by kernel_rfl)) (fun _ _ _ h => h) (Or.inl ⟨by rfl, ?_⟩) hHeld ?_ ?_
              rotate_left
              ·rintro w' ⟨s0, s1, s2, s3⟩
               go_simp
               with_reducible rfl
              rotate_left
              ·simp only [Act.put, sA_, sB_, sC_, i64_w, i32_w]
               rfl
              refine pure_ (i := 5) (N := some 47) (v := ?_) (a' := ?_) #[true, true, true, true, true, true, false, true, true, true, true, false, false, false, false, false, true] rfl rfl (any_of HT_.out (by kernel_rfl)) (fun _ _ _ h => h) (Or.inl ⟨by rfl, ?_⟩) ?_ ?_
              rotate_left
              ·intro w'
               go_simp
               with_reducible rfl
              rotate_left
              ·simp only [Act.put, sA_, sB_, sC_, i64_w, i32_w]
               rfl
              refine take_ (i := 6) (N := some 48) (v := ?_) (a' := ?_) #[true, true, true, true, true, true, true, true, true, true, true, false, false, false, false, false, true] rfl rfl (take_ofW HT_.out HW_.out (by kernel_rfl)) (fun _ _ _ h => h) (Or.inl ⟨by rfl, ?_⟩) hHeld ?_ ?_
              rotate_left
              ·rintro w' ⟨s0, s1, s2, s3⟩
               go_simp
               with_reducible rfl
              rotate_left
              ·simp only [Act.put, sA_, sB_, sC_, i64_w, i32_w]
               rfl
              refine take_ (i := 11) (N := some 53) (v := ?_) (a' := ?_) #[true, true, true, true, true, true, true, true, true, true, true, true, false, false, false, false, true] rfl rfl (take_ofW HT_.out HW_.out (by kernel_rfl)) (fun _ _ _ h => h) (Or.inl ⟨by rfl, ?_⟩) hHeld ?_ ?_
              rotate_left
              ·rintro w' ⟨s0, s1, s2, s3⟩
               go_simp
               with_reducible rfl
              rotate_left
              ·simp only [Act.put, sA_, sB_, sC_, i64_w, i32_w]
               rfl
              refine pure_ (i := 12) (N := some 54) (v := ?_) (a' := ?_) #[true, true, true, true, true, true, true, true, true, true, true, true, true, false, false, false, true] rfl rfl (any_of HT_.out (by kernel_rfl)) (fun _ _ _ h => h) (Or.inl ⟨by rfl, ?_⟩) ?_ ?_
              rotate_left
              ·intro w'
               go_simp
               with_reducible rfl
              rotate_left
              ·simp only [Act.put, sA_, sB_, sC_, i64_w, i32_w]
               rfl
              refine take_ (i := 13) (N := some 55) (v := ?_) (a' := ?_) #[true, true, true, true, true, true, true, true, true, true, true, true, true, true, false, false, true] rfl rfl (take_ofW HT_.out HW_.out (by kernel_rfl)) (fun _ _ _ h => h) (Or.inl ⟨by rfl, ?_⟩) hHeld ?_ ?_
              rotate_left
              ·rintro w' ⟨s0, s1, s2, s3⟩
               go_simp
               with_reducible rfl
              rotate_left
              ·simp only [Act.put, sA_, sB_, sC_, i64_w, i32_w]
               rfl
              refine one_ (i := 14) (N := some 56) #[true, true, true, true, true, true, true, true, true, true, true, true, true, true, true, false, true] rfl rfl (one_of HT_.out (by kernel_rfl)) (by decide) (fun K hK => ?_)
              refine Kd.R_lit_step (Kd.int .i64) _ 3 ?hg (N := 56) ?hd (xs := ([rd l0 (rd x6_2 x7_2), rd l1 (rd x6_2 x7_2)] : List Int)) (inner := [.int .i64 (rd l0 (rd x6_2 x7_2)), .int .i64 (rd l1 (rd x6_2 x7_2))]) (ok := fun _ => True) (okp := fun _ => True) ?hr ?hp (fun _ hk => hk) trivial (Below.refl _ _) (nA_ _) (by simp) ?_; (case hd => rfl); (case hg => rfl); (case hr => first | (go_simp; done) | (go_simp; rfl)); (case hp => exact (Reps.one (show Kd.M (Kd.int .i64) _ _ _ (rd l0 (rd x6_2 x7_2)) [.int .i64 (rd l0 (rd x6_2 x7_2))] from rfl) (Reps.one (show Kd.M (Kd.int .i64) _ _ _ (rd l1 (rd x6_2 x7_2)) [.int .i64 (rd l1 (rd x6_2 x7_2))] from rfl) (Reps.none _ _))))
              intro v341 w34 ho35 hb hg_ hnew_
              have HS0_ := (hb.cell (World.block_lt_of_cell? _ _ (hHeld.1))).trans (hHeld.1)
              have HS2_ := (hb.cell (World.block_lt_of_cell? _ _ (hHeld.2.2.1))).trans (hHeld.2.2.1)
              clear hg_ hnew_
              (first | rw [← Ny340.out] at ho35 | (simp only [Int.reduceToNat] at ho35; rw [← Ny340.out] at ho35))
              have n0_ := A_ (rD_ (by (with_reducible repeat (first | apply rA_ | apply rB_ | apply rC_)); exact HO_5.out) hb)
              have n1_ := A_ (Kd.R_elder' (by (with_reducible repeat (first | apply rA_ | apply rB_ | apply rC_)); exact HO_6.out) (Kd.R_base ho35) hb)
              have n2_ := A_ (rE_ (Kd.R_new' ho35 (Kd.R_lt (by (with_reducible repeat (first | apply rA_ | apply rB_ | apply rC_)); exact HO_6.out))) (bF_ (by repeat (first | (with_reducible first | exact HB.out | apply bA_ | apply bB_ | apply bC_) | exact HB.out))))
              have n3_ := A_ (bE_ (by repeat (first | (with_reducible first | exact HB.out | apply bA_ | apply bB_ | apply bC_) | exact HB.out)) hb)
              clear HO_5
              clear HO_6
              clear HB
              have HO_5 := n0_
              have HO_6 := n1_
              have HO342 := n2_
              have HB := n3_
              clear n0_ n1_ n2_ n3_
              clear hb ho35
              obtain ⟨Ao36, co36, eo36⟩ := Kd.R_slice HO342.out
              (first | subst eo36 | (injection eo36 with f1_ f2_ f3_; have f4_ := f1_.symm; have f5_ := f3_.symm; clear f1_ f2_ f3_; subst f4_; subst f5_))
              refine hK.out _ _ ⟨HS0_, ((HB.out.cell (World.block_lt_of_cell? w _ hw337_0)).trans hw337_0), HS2_, ((HB.out.cell (World.block_lt_of_cell? w _ hw339_0)).trans hw339_0)⟩ (fun hHeld => ?_)
              clear hK K
              refine norm_ (a' := ?_) ?_ ?_
              rotate_left
              ·show Act.put _ (some 56) _ = _
               simp only [Act.put, sA_, sB_, sC_, i64_w, i32_w]
               rfl
              refine pure_ (i := 15) (N := some 57) (v := ?_) (a' := ?_) #[true, true, true, true, true, true, true, true, true, true, true, true, true, true, true, true, true] rfl rfl (any_of HT_.out (by kernel_rfl)) (fun _ _ _ h => h) (Or.inl ⟨by rfl, ?_⟩) ?_ ?_
              rotate_left
              ·intro w'
               go_simp
               with_reducible rfl
              rotate_left
              ·simp only [Act.put, sA_, sB_, sC_, i64_w, i32_w]
               rfl
              refine done_ (done_of HT_.out (by kernel_rfl)) ?_
              try go_wp2
              go_loopg [6, 58] k2 (fun kq v6 v58 w' => ∃ (x5_3 : List Bool) (x6_3 : List Int) (x58_3 : Int), v58 = .int .i64 x58_3 ∧ Aside0 (Z6.l1 kq l0 l1 x5_3 x6_3 x7_2 y340 (y340.length : Int) x58_3 = some r) ∧ Aside0 (kq ≤ k2) ∧ Aside0 (Kd.R Kd.bool 4 w' w.heap.size (fun _ => True) (.slice (some ⟨go20, 0, none⟩) x5_2.length co20) x5_3) ∧ Aside0 (Kd.R (Kd.int .i64) 3 w' w.heap.size (fun k_ => some k_ ≠ ((.slice Ao36 y340.length co36) : Value).ownBlock) v6 x6_3) ∧ Aside0 (Kd.R (Kd.int .i64) 3 w' w.heap.size (fun k_ => some k_ ≠ (v6 : Value).ownBlock) (.slice Ao36 y340.length co36) y340) ∧ Aside0 (Below w.heap.size w w'))
              case atStart => exact ⟨(x5_2), (x6_2), (0), (by first | rfl | (simp; done) | (simp [*]; done)), H', ⟨nA_ _⟩, ⟨by (try simp only [hl5_2]); (with_reducible repeat (first | apply rA_ | apply rB_ | apply rC_)); exact HO_5.out⟩, ⟨by (try simp only [hl5_2]); (with_reducible repeat (first | apply rA_ | apply rB_ | apply rC_)); exact Kd.R_mono HO_6.out (fun _ hk => hk.2)⟩, ⟨by (try simp only [hl5_2]); (with_reducible repeat (first | apply rA_ | apply rB_ | apply rC_)); exact Kd.R_mono HO342.out (fun _ hk => hk.2)⟩, ⟨by repeat (first | (with_reducible first | exact HB.out | apply bA_ | apply bB_ | apply bC_) | exact HB.out)⟩⟩
              case round =>
               clear H'
               (try clear c1); (try clear c2); (try clear p2); (try clear q2); (try clear hx2); (try clear qi2); (try clear hf2); (try clear c3); (try clear p3); (try clear q3); (try clear hx3); (try clear c5); (try clear c7); (try clear c8); (try clear c8b0); (try clear c8b1); (try clear c8b2); (try clear c9); (try clear c11); (try clear c16); (try clear c17); (try clear c17b0); (try clear c17b1); (try clear c18); (try clear c18b0); (try clear c18b1); (try clear c19); (try clear c19b0); (try clear c19b1); (try clear p20); (try clear q20); (try clear hx20); (try clear qi20); (try clear hf20); (try clear c27); (try clear c27b0); (try clear c28); (try clear c28b0); (try clear c29); (try clear c29b0); (try clear c30); (try clear c30b0); (try clear c31); (try clear c31b0); (try clear p33); (try clear q33); (try clear hx33); (try clear hx20_0); (try clear hx336_0); (try clear hx337_0); (try clear hx338_0); (try clear hx339_0); (try clear p2); (try clear p20); (try clear p336); (try clear p337); (try clear p338); (try clear p339); (try clear q2); (try clear q20); (try clear q336); (try clear q337); (try clear q338); (try clear q339)
               obtain ⟨x5_3, x6_3, x58_3, rfl, HA, HK3, HO_5, HO_6, HO_56, HB⟩ := hrel
               have hl5_3 := (Kd.R_reads' HO_5.out).1
               rw [hl5_3] at HO_5
               (try simp only [hl5_3])
               (try simp only [hl5_3] at HO_6)
               (try simp only [hl5_3] at HO_56)
               cases gk with
               | zero => exact absurd HA.out (by simp [Z6.l1])
               | succ k3 =>
                have H := HA.out
                clear HA
                simp only [Z6.l1] at H
                by_cases c37 : x58_3 < (y340.length : Int)
                ·rw [if_pos c37] at H
                 have c37b0 : decide (x58_3 < (y340.length : Int)) = true := oC_ c37
                 clear c37
                 by_cases c38 : 0 ≤ x58_3
                 ·rw [if_pos c38] at H
                  have c38b0 : decide (0 ≤ x58_3) = true := oC_ c38
                  clear c38
                  by_cases c39 : x58_3 < (y340.length : Int)
                  ·rw [if_pos c39] at H
                   have c39b0 : decide (x58_3 < (y340.length : Int)) = true := oC_ c39
                   clear c39
                   by_cases c40 : 0 ≤ (rd y340 x58_3)
                   ·rw [if_pos c40] at H
                    have c40b0 : decide (0 ≤ (rd y340 x58_3)) = true := oC_ c40
                    clear c40
                    by_cases c41 : (rd y340 x58_3) < (x5_3.length : Int)
                    ·rw [if_pos c41] at H
                     have c41b0 : decide ((rd y340 x58_3) < (x5_3.length : Int)) = true := oC_ c41
                     clear c41
                     obtain ⟨bq42, hbq42⟩ : ∃ b_ : Bool, b_ = (rdOf false x5_3 (rd y340 x58_3)) := ⟨_, rfl⟩
                     replace H : (if (bq42 = true) then (Z6.l1 k3 l0 l1 x5_3 x6_3 x7_2 y340 (y340.length : Int) (wrap64 (x58_3 + 1))) else (if x6_3.length < 17592186044416 then (Z6.l1 k3 l0 l1 (x5_3.set ((rd y340 x58_3) : Int).toNat true) (x6_3 ++ [rd y340 x58_3]) x7_2 y340 (y340.length : Int) (wrap64 (x58_3 + 1))) else (none))) = some r := by rw [← hbq42] at H; exact H
                     have Nbq42 := A_ hbq42
                     clear hbq42
                     by_cases c43 : (bq42 = true)
                     ·subst c43
                      have H1 : (Z6.l1 k3 l0 l1 x5_3 x6_3 x7_2 y340 (y340.length : Int) (wrap64 (x58_3 + 1))) = some r := by rw [if_pos rfl] at H; exact H
                      clear H
                      have H := H1
                      clear H1
                      have H' := A_ H
                      clear H
                      have p343 : 0 ≤ (x58_3 : Int) := oB_ (by first | (with_reducible assumption) | assumption)
                      have q343 : x58_3 < (y340.length : Int) := oB_ (by first | (with_reducible assumption) | assumption)
                      obtain ⟨ad343, e343, hx343_0⟩ := Kd.at_int (Kd.R_reads' HO_56.out).2.2 x58_3 p343 q343
                      cases e343
                      replace p343 := eq_true p343
                      replace q343 := eq_true q343
                      have p344 : 0 ≤ ((rd y340 x58_3) : Int) := oB_ (by first | (with_reducible assumption) | assumption)
                      have q344 : (rd y340 x58_3) < (x5_3.length : Int) := oB_ (by first | (with_reducible assumption) | assumption)
                      obtain ⟨ad344, e344, hx344_0⟩ := Kd.at_bool (Kd.R_reads' HO_5.out).2.2 (rd y340 x58_3) p344 q344
                      (try rw [← Nbq42.out] at hx344_0)
                      obtain rfl : (⟨go20, 0, none⟩ : Addr) = ad344 := (by injection e344)
                      (first | simp only [add_plain] at hx344_0 | simp only [add_at] at hx344_0 | simp only [Addr.add, Nat.zero_add] at hx344_0 | skip)
                      replace p344 := eq_true p344
                      replace q344 := eq_true q344
                      go_wp2
                      (try simp only [← hl5_3])
                      go_roundg k3
                      case measure => have := HJ2.out; have := HK2.out; have := HK3.out; omega
                      case rel => exact ⟨(x5_3), (x6_3), (wrap64 (x58_3 + 1)), (by first | rfl | (simp; done) | (simp [*]; done)), H', ⟨by have := HJ2.out; have := HK2.out; have := HK3.out; omega⟩, ⟨by (try simp only [hl5_2]); (try simp only [hl5_3]); (with_reducible repeat (first | apply rA_ | apply rB_ | apply rC_)); exact HO_5.out⟩, ⟨by (try simp only [hl5_2]); (try simp only [hl5_3]); (with_reducible repeat (first | apply rA_ | apply rB_ | apply rC_)); exact HO_6.out⟩, ⟨by (try simp only [hl5_2]); (try simp only [hl5_3]); (with_reducible repeat (first | apply rA_ | apply rB_ | apply rC_)); exact HO_56.out⟩, ⟨by repeat (first | (with_reducible first | exact HB.out | apply bA_ | apply bB_ | apply bC_) | exact HB.out)⟩⟩
                     ·replace c43 := Bool.eq_false_iff.mpr c43
                      subst c43
                      have H1 : (if x6_3.length < 17592186044416 then (Z6.l1 k3 l0 l1 (x5_3.set ((rd y340 x58_3) : Int).toNat true) (x6_3 ++ [rd y340 x58_3]) x7_2 y340 (y340.length : Int) (wrap64 (x58_3 + 1))) else (none)) = some r := by rw [if_neg (show ¬ (false = true) by decide)] at H; exact H
                      clear H
                      have H := H1
                      clear H1
                      obtain ⟨y345, hy345⟩ : ∃ y_ : List Bool, y_ = (x5_3.set ((rd y340 x58_3) : Int).toNat true) := ⟨_, rfl⟩
                      replace H : (if x6_3.length < 17592186044416 then (Z6.l1 k3 l0 l1 y345 (x6_3 ++ [rd y340 x58_3]) x7_2 y340 (y340.length : Int) (wrap64 (x58_3 + 1))) else (none)) = some r := by first | (rw [hy345]; with_reducible exact H) | (have H2_ := (oA_ _ _).symm.trans H; rw [hy345]; with_reducible exact H2_) | (have H2_ := (oA_ _ _).symm.trans H; with_reducible exact H2_) | with_reducible exact H | (rw [hy345]; exact H) | exact H
                      have Ny345 := A_ hy345
                      clear hy345
                      by_cases c45 : x6_3.length < 17592186044416
                      ·rw [if_pos c45] at H
                       have LMc45 := A_ c45
                       clear c45
                       obtain ⟨y346, hy346⟩ : ∃ y_ : List Int, y_ = (x6_3 ++ [rd y340 x58_3]) := ⟨_, rfl⟩
                       replace H : (Z6.l1 k3 l0 l1 y345 y346 x7_2 y340 (y340.length : Int) (wrap64 (x58_3 + 1))) = some r := by first | (rw [hy346]; with_reducible exact H) | (have H2_ := (oA_ _ _).symm.trans H; rw [hy346]; with_reducible exact H2_) | (have H2_ := (oA_ _ _).symm.trans H; with_reducible exact H2_) | with_reducible exact H | (rw [hy346]; exact H) | exact H
                       have Ny346 := A_ hy346
                       clear hy346
                       have H' := A_ H
                       clear H
                       have p343 : 0 ≤ (x58_3 : Int) := oB_ (by first | (with_reducible assumption) | assumption)
                       have q343 : x58_3 < (y340.length : Int) := oB_ (by first | (with_reducible assumption) | assumption)
                       obtain ⟨ad343, e343, hx343_0⟩ := Kd.at_int (Kd.R_reads' HO_56.out).2.2 x58_3 p343 q343
                       cases e343
                       replace p343 := eq_true p343
                       replace q343 := eq_true q343
                       have p344 : 0 ≤ ((rd y340 x58_3) : Int) := oB_ (by first | (with_reducible assumption) | assumption)
                       have q344 : (rd y340 x58_3) < (x5_3.length : Int) := oB_ (by first | (with_reducible assumption) | assumption)
                       obtain ⟨ad344, e344, hx344_0⟩ := Kd.at_bool (Kd.R_reads' HO_5.out).2.2 (rd y340 x58_3) p344 q344
                       (try rw [← Nbq42.out] at hx344_0)
                       obtain rfl : (⟨go20, 0, none⟩ : Addr) = ad344 := (by injection e344)
                       (first | simp only [add_plain] at hx344_0 | simp only [add_at] at hx344_0 | simp only [Addr.add, Nat.zero_add] at hx344_0 | skip)
                       replace p344 := eq_true p344
                       replace q344 := eq_true q344
                       have p44 : 0 ≤ ((rd y340 x58_3) : Int) := oB_ (by first | (with_reducible assumption) | assumption)
                       have q44 : ((rd y340 x58_3) : Int) < ((x5_3.length : Int) : Int) := oB_ (by first | (with_reducible assumption) | assumption)
                       obtain ⟨hx44_0, hf44_0⟩ := Kd.R_celln false HO_5.out ((rd y340 x58_3) : Int) p44 q44
                       replace p44 := eq_true p44
                       replace q44 := eq_true q44
                       have HP46 := Kd.R_putg HO_5.out ((rd y340 x58_3) : Int) true
                       go_wp2_with (first | ((with_reducible refine gate_store (t := 4) (p := 69) rfl ?_); refine store_event (t := 4) (p := 69) (v := ?vo_w47) (w1 := (wr.setCell ⟨go20, ((rd y340 x58_3) : Int).toNat, none⟩ (.bool true))) ?hg ?ho ?hn ?hr ?_; (case ho => rfl); (case hg => rfl); (case hn => rfl); (case hr => first | (go_simp; done) | (go_simp; rfl)); intro w47 hw; have hg : wr.grownBy w47 (some go20) := (by rw [hw]; exact HP46.2); have hp_ : Kd.R Kd.bool 4 w47 w.heap.size (fun _ => True) (.slice (some ⟨go20, 0, none⟩) x5_3.length co20) y345 := (by rw [hw, Ny345.out]; exact HP46.1); clear HP46; have n0_ := A_ (hp_); have n1_ := A_ (Kd.R_over' (v := (.slice (some ⟨go20, 0, none⟩) x5_3.length co20)) (by (with_reducible repeat (first | apply rA_ | apply rB_ | apply rC_)); exact HO_6.out) (Kd.R_typed HO_5.out) (by decide) hg); have n2_ := A_ (Kd.R_over' (v := (.slice (some ⟨go20, 0, none⟩) x5_3.length co20)) (by (with_reducible repeat (first | apply rA_ | apply rB_ | apply rC_)); exact HO_56.out) (Kd.R_typed HO_5.out) (by decide) hg); have n3_ := A_ ((by rw [hw]; exact bD_ (HB.out) GB20.out : Below w.heap.size w w47)); clear HO_5; clear HO_6; clear HO_56; clear HB; have HO_5 := n0_; have HO_6 := n1_; have HO_56 := n2_; have HB := n3_; clear n0_ n1_ n2_ n3_; clear hg hw hp_) | ((with_reducible refine gate_builtin (b := .append) (xs := #[.tmp 70, .tmp 72]) rfl ?_); (try (refine gate_guard (by rfl) ?_; dsimp only)); at_builtin; refine Kd.R_append (Kd.int .i64) (w0 := w) w.heap.size rfl (.tmp 70) (.tmp 72) 22 3 (.int .i64 0) 8 rfl Try.underlying22 info3 rfl (by decide) (by omega) u6 x6_3 (rd y340 x58_3) [.int .i64 (rd y340 x58_3)] (fun k_ => some k_ ≠ (.slice (some ad343) y340.length co36 : Value).ownBlock) (fun _ => False) rfl rfl ?aP (fun _ hk => hk.elim) ?aF ?aO ?aB ?aS ?aL ?_; (case aP => exact rfl); (case aB => exact (by repeat (first | (with_reducible first | exact HB.out | apply bA_ | apply bB_ | apply bC_) | exact HB.out))); (case aF => exact (fun k_ hk => Kd.fresh' (Kd.R_lt (by (with_reducible repeat (first | apply rA_ | apply rB_ | apply rC_)); exact HO_56.out)) k_ hk)); (case aO => exact (by (with_reducible repeat (first | apply rA_ | apply rB_ | apply rC_)); exact HO_6.out)); (case aS => exact (bF_ (by repeat (first | (with_reducible first | exact HB.out | apply bA_ | apply bB_ | apply bC_) | exact HB.out)))); (case aL => have := LMc45.out; omega); intro v347 w48 ho hb hg hat; rw [← Ny346.out] at ho; have n0_ := A_ (Kd.R_over' (by (with_reducible repeat (first | apply rA_ | apply rB_ | apply rC_)); exact HO_5.out) (Kd.R_typed (by (with_reducible repeat (first | apply rA_ | apply rB_ | apply rC_)); exact HO_6.out)) (by decide) hg); have n1_ := A_ (Kd.R_after (ok := (fun _ => True)) (by (with_reducible repeat (first | apply rA_ | apply rB_ | apply rC_)); exact Kd.R_mono HO_56.out (fun _ hk => ⟨trivial, hk⟩)) hg hat); have n2_ := A_ (hb); have n3_ := A_ (ho); clear HO_5; clear HO_56; clear HB; clear HO_6; have HO_5 := n0_; have HO_56 := n1_; have HB := n2_; have HO348 := n3_; clear n0_ n1_ n2_ n3_; clear ho hb hg hat))
                       (try simp only [← hl5_3])
                       go_roundg k3
                       case measure => have := HJ2.out; have := HK2.out; have := HK3.out; omega
                       case rel => exact ⟨(y345), (y346), (wrap64 (x58_3 + 1)), (by first | rfl | (simp; done) | (simp [*]; done)), H', ⟨by have := HJ2.out; have := HK2.out; have := HK3.out; omega⟩, ⟨by (try simp only [hl5_2]); (try simp only [hl5_3]); (with_reducible repeat (first | apply rA_ | apply rB_ | apply rC_)); exact HO_5.out⟩, ⟨by (try simp only [hl5_2]); (try simp only [hl5_3]); (with_reducible repeat (first | apply rA_ | apply rB_ | apply rC_)); exact HO348.out⟩, ⟨by (try simp only [hl5_2]); (try simp only [hl5_3]); (with_reducible repeat (first | apply rA_ | apply rB_ | apply rC_)); exact Kd.R_mono HO_56.out (fun _ hk => hk.2)⟩, ⟨by repeat (first | (with_reducible first | exact HB.out | apply bA_ | apply bB_ | apply bC_) | exact HB.out)⟩⟩
                      ·rw [if_neg c45] at H
                       exact absurd H (by simp)
                    ·rw [if_neg c41] at H
                     exact absurd H (by simp)
                   ·rw [if_neg c40] at H
                    exact absurd H (by simp)
                  ·rw [if_neg c39] at H
                   exact absurd H (by simp)
                 ·rw [if_neg c38] at H
                  exact absurd H (by simp)
                ·rw [if_neg c37] at H
                 have c37b0 : decide (x58_3 < (y340.length : Int)) = false := oD_ c37
                 clear c37
                 have H' := A_ H
                 clear H
                 go_wp2
                 (try simp only [← hl5_2, ← hl5_3])
                 go_roundg k3
                 case measure => have := HJ2.out; have := HK2.out; have := HK3.out; omega
                 case rel => exact ⟨(x5_3), (x6_3), (wrap64 (x7_2 + 1)), (by first | rfl | (simp; done) | (simp [*]; done)), H', ⟨by have := HJ2.out; have := HK2.out; have := HK3.out; omega⟩, ⟨by (try simp only [hl5_2]); (try simp only [hl5_3]); (with_reducible repeat (first | apply rA_ | apply rB_ | apply rC_)); exact HO_5.out⟩, ⟨by (try simp only [hl5_2]); (try simp only [hl5_3]); (with_reducible repeat (first | apply rA_ | apply rB_ | apply rC_)); exact Kd.R_mono HO_6.out (fun _ hk => trivial)⟩, ⟨by repeat (first | (with_reducible first | exact HB.out | apply bA_ | apply bB_ | apply bC_) | exact HB.out)⟩⟩
             ·rw [if_neg c31] at H
              exact absurd H (by simp)
            ·rw [if_neg c30] at H
             exact absurd H (by simp)
           ·rw [if_neg c29] at H
            exact absurd H (by simp)
          ·rw [if_neg c28] at H
           exact absurd H (by simp)
         ·rw [if_neg c27] at H
          have c27b0 : decide (x7_2 < (x6_2.length : Int)) = false := oD_ c27
          clear c27
          obtain rfl := Option.some.inj H
          obtain ⟨Ao49, co49, eo49⟩ := Kd.R_slice HO_6.out
          subst eo49
          go_wp2
          go_ret
          exact ⟨by first | rfl | (simp [errW_none, errW_some] <;> rfl) | (simp [*, errW_none, errW_some] <;> rfl), by repeat (first | (with_reducible first | exact HB.out | apply bA_ | apply bB_ | apply bC_) | exact HB.out)⟩
      ·rw [if_neg c19] at H
       exact absurd H (by simp)
     ·rw [if_neg c18] at H
      exact absurd H (by simp)
    ·rw [if_neg c17] at H
     exact absurd H (by simp)
end Go.Proofs.Ytbdnellgioimbaa.A
end
section
namespace Go.Proofs.Ytbdnellgioimbaa.A
open Go.RowKit Go.Proofs.YtbdnellgioimbaaW.PrintWords Go.Proofs.YtbdnellgioimbaaW.PrintLast Go.Proofs.YtbdnellgioimbaaW.PrintMore
attribute [local go_sem] max2_int min2_int max_two min_two max_three min_three max_four min_four
set_option linter.unusedVariables false
set_option linter.unusedSimpArgs false
def Z16.f (k : Nat) (l0_0 : List Int) (l0_1 : List Int) : Option (Bool) := (Z6.f k l0_0 l0_1).bind fun t350 => (some t350)
theorem Z16.mono : ∀ a0 a1 k, LeO (Z16.f k a0 a1) (Z16.f (k + 1) a0 a1) := by
 intro a0 a1 k
 unfold Z16.f
 repeat' first
   | (with_reducible exact Z6.mono _ _ _)
   | (with_reducible exact LeO.refl _)
   | (with_reducible exact LeO.none _)
   | (with_reducible refine LeO.ite ?_ ?_)
   | (with_reducible refine LeO.bind ?_ (fun _ => ?_))
   | exact Z6.mono _ _ _
   | exact LeO.none _
   | refine LeO.ite ?_ ?_
   | refine LeO.bind ?_ (fun _ => ?_)
set_option maxHeartbeats 8000000 in
set_option maxRecDepth 100000 in
theorem Z16.calls (k : Nat) (A0_0 : Option Addr) (c0_0 : Nat) (l0_0 : List Int) (A0_1 : Option Addr) (c0_1 : Nat) (l0_1 : List Int) (r : Bool) (w : World) (hr0_0 : Kd.C (Kd.int .i64) w A0_0 l0_0.length l0_0) (hc0_0 : l0_0.length ≤ c0_0) (hr0_1 : Kd.C (Kd.int .i64) w A0_1 l0_1.length l0_1) (hc0_1 : l0_1.length ≤ c0_1) (h : Z16.f k l0_0 l0_1 = some r) :
  Calls Try.prog 65 #[.agg #[.slice A0_0 l0_0.length c0_0, .slice A0_1 l0_1.length c0_1]] w fun e w' => e = .returned (.bool r) ∧ Below w.heap.size w w' := by
 have hu27 := Try.underlying27
 have HR0_0 := A_ hr0_0
 have HC0_0 := A_ hc0_0
 clear hr0_0 hc0_0
 have HR0_1 := A_ hr0_1
 have HC0_1 := A_ hc0_1
 clear hr0_1 hc0_1
 have HB := A_ (Below.refl w.heap.size w)
 have H : ((Z6.f k l0_0 l0_1).bind fun t350 => (some t350)) = some r := h
 clear h
 replace H := Option.bind_eq_some_iff.mp H
 obtain ⟨t350, A20, H⟩ := H
 replace H : (some t350) = some r := H
 have A2 := A_ A20
 clear A20
 obtain rfl := Option.some.inj H
 go_enter Try.func65, Try.ntmps65
 go_wp2_with (first | ((with_reducible refine gB_ (N := 1) rfl ?_); refine xA_ ?hg (N := 1) ?hd (cs := #[.slice A0_0 l0_0.length c0_0, .slice A0_1 l0_1.length c0_1]) (t := 27) ?hr ?_; (case hd => rfl); (case hg => rfl); (case hr => first | (go_simp; done) | (go_simp; rfl)); intro gb349 hg w3 hbox hb; have n0_ := A_ (bE_ (by repeat (first | (with_reducible first | exact HB.out | apply bA_ | apply bB_ | apply bC_) | exact HB.out)) hb); have n1_ := A_ (hbox); have n2_ := A_ ((by rw [hg]; exact (bF_ (by repeat (first | (with_reducible first | exact HB.out | apply bA_ | apply bB_ | apply bC_) | exact HB.out))) : w.heap.size ≤ gb349)); have n3_ := A_ ((by rw [hg]; exact (bF_ (by repeat (first | (with_reducible first | exact HB.out | apply bA_ | apply bB_ | apply bC_) | exact HB.out))) : w.heap.size ≤ gb349)); clear HB; have HB := n0_; have BK349 := n1_; have GW349 := n2_; have GE349 := n3_; clear n0_ n1_ n2_ n3_; clear hb hbox hg; have hcz4_0 := cz0_ BK349.out; have hcz4_1 := cz1_ BK349.out; have hfz4_0 := kD_ BK349.out 0; have hfz4_1 := kD_ BK349.out 1) | ((with_reducible refine gA_ (f := 114) rfl ?_); refine goesL_ (some 7) rfl rfl Try.func114 (by kernel_rfl) rfl #[.slice A0_0 l0_0.length c0_0, .slice A0_1 l0_1.length c0_1] rfl (by (try simp only [mA_, mB_, mC_]); first | done | rfl | (simp only [lA_, lB_]; rfl)) ?_; (with_reducible refine (Z6.calls k _ _ l0_0 _ _ l0_1 t350 _ ?side1 ?side2 ?side3 ?side4 A2.out).mono ?_); (case side1 => repeat (first | exact (cD_ HR0_0.out HB.out) | (with_reducible first | refine cA_ ?_ _ | refine cB_ ?_ _ | refine cC_ ?_))); (case side2 => exact HC0_0.out); (case side3 => repeat (first | exact (cD_ HR0_1.out HB.out) | (with_reducible first | refine cA_ ?_ _ | refine cB_ ?_ _ | refine cC_ ?_))); (case side4 => exact HC0_1.out); rintro e w5 ⟨rfl, hb⟩; refine ⟨_, rfl, ?_⟩; have n0_ := A_ (kE_ (g := gb349) (by (with_reducible repeat (first | refine kA_ ?_ _ | refine kB_ ?_ | refine kC_ ?_ _)); exact BK349.out) hb); have n1_ := A_ (bE_ (by repeat (first | (with_reducible first | exact HB.out | apply bA_ | apply bB_ | apply bC_ | refine bD_ ?_ GE349.out) | exact HB.out)) hb); clear BK349; clear HB; have BK349 := n0_; have HB := n1_; clear n0_ n1_; (try clear hb); (try clear hb2); (try clear hk); (try clear hi)))
 go_ret
 exact ⟨by first | rfl | (simp [errW_none, errW_some] <;> rfl) | (simp [*, errW_none, errW_some] <;> rfl), by repeat (first | (with_reducible first | exact HB.out | apply bA_ | apply bB_ | apply bC_ | refine bD_ ?_ GE349.out) | exact HB.out)⟩
def Z9.l0 : Nat → List Int → List Int → Int → Int → Option (List Int)
 | 0, _, _, _, _ => none
 | k + 1, x3, x12, x13, x14 => if x14 < x13 then (if 0 ≤ x14 then (if x14 < (x12.length : Int) then (if 0 ≤ (rd x12 x14) then (if (rd x12 x14) < (x3.length : Int) then (Z9.l0 k (x3.set ((rd x12 x14) : Int).toNat x14) x12 x13 (wrap64 (x14 + 1))) else (none)) else (none)) else (none)) else (none)) else (some x3)
def Z9.f (k : Nat) (l0 : List Int) : Option (List Int) := (Z37.f k l0).bind fun t351 => (if t351 = true then (if 0 ≤ (l0.length : Int) then (if ((l0.length : Int) : Int).toNat ≤ 35184372088832 then (Z9.l0 k (List.replicate ((l0.length : Int) : Int).toNat 0) l0 (l0.length : Int) 0) else (none)) else (none)) else (some ([] : List Int)))
theorem Z9.mono_l : ∀ k, (∀ y0 y1 y2 y3, LeO (Z9.l0 k y0 y1 y2 y3) (Z9.l0 (k + 1) y0 y1 y2 y3))
 | 0 => fun _ _ _ _ r h => by simp [Z9.l0] at h
 | k + 1 => by
  have ih0 := Z9.mono_l k
  ·intro y0 y1 y2 y3
   unfold Z9.l0
   repeat' first
   | (with_reducible exact ih0 _ _ _ _)
   | (with_reducible exact Z37.mono _ _)
   | (with_reducible exact LeO.refl _)
   | (with_reducible exact LeO.none _)
   | (with_reducible refine LeO.ite ?_ ?_)
   | (with_reducible refine LeO.bind ?_ (fun _ => ?_))
   | exact ih0 _ _ _ _
   | exact Z37.mono _ _
   | exact LeO.none _
   | refine LeO.ite ?_ ?_
   | refine LeO.bind ?_ (fun _ => ?_)
theorem Z9.mono : ∀ a0 k, LeO (Z9.f k a0) (Z9.f (k + 1) a0) := by
 intro a0 k
 have ih0 := Z9.mono_l k
 unfold Z9.f
 repeat' first
   | (with_reducible exact ih0 _ _ _ _)
   | (with_reducible exact Z37.mono _ _)
   | (with_reducible exact LeO.refl _)
   | (with_reducible exact LeO.none _)
   | (with_reducible refine LeO.ite ?_ ?_)
   | (with_reducible refine LeO.bind ?_ (fun _ => ?_))
   | exact ih0 _ _ _ _
   | exact Z37.mono _ _
   | exact LeO.none _
   | refine LeO.ite ?_ ?_
   | refine LeO.bind ?_ (fun _ => ?_)
set_option maxHeartbeats 8000000 in
set_option maxRecDepth 100000 in
theorem Z9.calls (k : Nat) (A0 : Option Addr) (c0 : Nat) (l0 : List Int) (r : List Int) (w : World) (hr0 : Kd.C (Kd.int .i64) w A0 l0.length l0) (hc0 : l0.length ≤ c0) (h : Z9.f k l0 = some r) :
  Calls Try.prog 119 #[.slice A0 l0.length c0] w fun e w' => ∃ v0_ : Value, e = .returned (v0_) ∧ Kd.R (Kd.int .i64) 3 w' w.heap.size (fun _ => True) v0_ r ∧ Below w.heap.size w w' := by
 have HR0 := A_ hr0
 have HC0 := A_ hc0
 clear hr0 hc0
 have HB := A_ (Below.refl w.heap.size w)
 have H : ((Z37.f k l0).bind fun t351 => (if t351 = true then (if 0 ≤ (l0.length : Int) then (if ((l0.length : Int) : Int).toNat ≤ 35184372088832 then (Z9.l0 k (List.replicate ((l0.length : Int) : Int).toNat 0) l0 (l0.length : Int) 0) else (none)) else (none)) else (some ([] : List Int)))) = some r := h
 clear h
 replace H := Option.bind_eq_some_iff.mp H
 obtain ⟨t351, A20, H⟩ := H
 replace H : (if t351 = true then (if 0 ≤ (l0.length : Int) then (if ((l0.length : Int) : Int).toNat ≤ 35184372088832 then (Z9.l0 k (List.replicate ((l0.length : Int) : Int).toNat 0) l0 (l0.length : Int) 0) else (none)) else (none)) else (some ([] : List Int))) = some r := H
 have A2 := A_ A20
 clear A20
 by_cases c3 : t351 = true
 ·subst c3
  have H1 : (if 0 ≤ (l0.length : Int) then (if ((l0.length : Int) : Int).toNat ≤ 35184372088832 then (Z9.l0 k (List.replicate ((l0.length : Int) : Int).toNat 0) l0 (l0.length : Int) 0) else (none)) else (none)) = some r := by rw [if_pos rfl] at H; exact H
  clear H
  have H := H1
  clear H1
  by_cases c4 : 0 ≤ (l0.length : Int)
  ·rw [if_pos c4] at H
   have c4b0 := eq_true c4
   have c4b1 : decide (0 ≤ (l0.length : Int)) = true := oC_ c4
   clear c4
   by_cases c5 : ((l0.length : Int) : Int).toNat ≤ 35184372088832
   ·rw [if_pos c5] at H
    have c5b0 := eq_true c5
    have c5b1 : decide (((l0.length : Int) : Int).toNat ≤ 35184372088832) = true := oC_ c5
    clear c5
    obtain ⟨y352, hy352⟩ : ∃ y_ : List Int, y_ = (List.replicate ((l0.length : Int) : Int).toNat 0) := ⟨_, rfl⟩
    replace H : (Z9.l0 k y352 l0 (l0.length : Int) 0) = some r := by first | (rw [hy352]; with_reducible exact H) | (have H2_ := (oA_ _ _).symm.trans H; rw [hy352]; with_reducible exact H2_) | (have H2_ := (oA_ _ _).symm.trans H; with_reducible exact H2_) | with_reducible exact H | (rw [hy352]; exact H) | exact H
    have Ny352 := A_ hy352
    clear hy352
    have H' := A_ H
    clear H
    go_enter Try.func119, Try.ntmps119
    go_wp2_with (first | ((with_reducible refine gA_ (f := 98) rfl ?_); refine goesL_ (some 7) rfl rfl Try.func98 (by kernel_rfl) rfl #[.slice A0 l0.length c0] rfl (by (try simp only [mA_, mB_, mC_]); first | done | rfl | (simp only [lA_, lB_]; rfl)) ?_; (with_reducible refine (Z37.calls k _ _ l0 true _ ?side1 ?side2 A2.out).mono ?_); (case side1 => repeat (first | exact HR0.out | (with_reducible first | refine cA_ ?_ _ | refine cB_ ?_ _ | refine cC_ ?_))); (case side2 => exact HC0.out); rintro e w6 ⟨rfl, hb⟩; refine ⟨_, rfl, ?_⟩; have n0_ := A_ (bE_ (by repeat (first | (with_reducible first | exact HB.out | apply bA_ | apply bB_ | apply bC_) | exact HB.out)) hb); clear HB; have HB := n0_; clear n0_; (try clear hb); (try clear hb2); (try clear hk); (try clear hi)) | ((with_reducible refine gB_ (N := 11) rfl ?_); refine Kd.R_make (Kd.int .i64) _ 3 rfl (N := 11) rfl 22 _ _ rfl (l0.length : Int) rfl rfl Try.underlying22 (.int .i64 0) 8 info3 rfl (by decide) (by omega) 0 (ok := fun _ => True) (okp := fun _ => True) rfl (fun _ hk => hk) trivial (oB_ (by first | (with_reducible assumption) | assumption)) (Nat.le_trans (Nat.mul_le_mul_right _ (oB_ (by first | (with_reducible assumption) | assumption) : (l0.length : Int).toNat ≤ 35184372088832)) (by omega)) (Below.refl _ _) (nA_ _) ?_; intro v353 w7 ho8 hb hg_ hnew_; clear hg_ hnew_; (first | rw [← Ny352.out] at ho8 | (simp only [Int.reduceToNat] at ho8; rw [← Ny352.out] at ho8)); have n0_ := A_ (rE_ ho8 (bF_ (by repeat (first | (with_reducible first | exact HB.out | apply bA_ | apply bB_ | apply bC_) | exact HB.out)))); have n1_ := A_ (bE_ (by repeat (first | (with_reducible first | exact HB.out | apply bA_ | apply bB_ | apply bC_) | exact HB.out)) hb); clear HB; have HO354 := n0_; have HB := n1_; clear n0_ n1_; clear hb ho8))
    go_loopg [14] k (fun kq v14 w' => ∃ (x3_1 : List Int) (x14_1 : Int), v14 = .int .i64 x14_1 ∧ Aside0 (Z9.l0 kq x3_1 l0 (l0.length : Int) x14_1 = some r) ∧ Aside0 (kq ≤ k) ∧ Aside0 (Kd.R (Kd.int .i64) 3 w' w.heap.size (fun _ => True) v353 x3_1) ∧ Aside0 (Below w.heap.size w w'))
    case atStart => exact ⟨(y352), (0), (by first | rfl | (simp; done) | (simp [*]; done)), H', ⟨nA_ _⟩, ⟨by (with_reducible repeat (first | apply rA_ | apply rB_ | apply rC_)); exact HO354.out⟩, ⟨by repeat (first | (with_reducible first | exact HB.out | apply bA_ | apply bB_ | apply bC_) | exact HB.out)⟩⟩
    case round =>
     clear H'
     (try clear c1); (try clear p2); (try clear c3); (try clear c4); (try clear c4b0); (try clear c4b1); (try clear c5); (try clear c5b0); (try clear c5b1)
     obtain ⟨x3_1, x14_1, rfl, HA, HK1, HO_3, HB⟩ := hrel
     cases gk with
     | zero => exact absurd HA.out (by simp [Z9.l0])
     | succ k1 =>
      have H := HA.out
      clear HA
      simp only [Z9.l0] at H
      by_cases c9 : x14_1 < (l0.length : Int)
      ·rw [if_pos c9] at H
       have c9b0 : decide (x14_1 < (l0.length : Int)) = true := oC_ c9
       clear c9
       by_cases c10 : 0 ≤ x14_1
       ·rw [if_pos c10] at H
        have c10b0 : decide (0 ≤ x14_1) = true := oC_ c10
        clear c10
        by_cases c11 : x14_1 < (l0.length : Int)
        ·rw [if_pos c11] at H
         have c11b0 : decide (x14_1 < (l0.length : Int)) = true := oC_ c11
         clear c11
         by_cases c12 : 0 ≤ (rd l0 x14_1)
         ·rw [if_pos c12] at H
          have c12b0 : decide (0 ≤ (rd l0 x14_1)) = true := oC_ c12
          clear c12
          by_cases c13 : (rd l0 x14_1) < (x3_1.length : Int)
          ·rw [if_pos c13] at H
           have c13b0 : decide ((rd l0 x14_1) < (x3_1.length : Int)) = true := oC_ c13
           clear c13
           obtain ⟨y356, hy356⟩ : ∃ y_ : List Int, y_ = (x3_1.set ((rd l0 x14_1) : Int).toNat x14_1) := ⟨_, rfl⟩
           replace H : (Z9.l0 k1 y356 l0 (l0.length : Int) (wrap64 (x14_1 + 1))) = some r := by first | (rw [hy356]; with_reducible exact H) | (have H2_ := (oA_ _ _).symm.trans H; rw [hy356]; with_reducible exact H2_) | (have H2_ := (oA_ _ _).symm.trans H; with_reducible exact H2_) | with_reducible exact H | (rw [hy356]; exact H) | exact H
           have Ny356 := A_ hy356
           clear hy356
           have H' := A_ H
           clear H
           have p355 : 0 ≤ (x14_1 : Int) := oB_ (by first | (with_reducible assumption) | assumption)
           have q355 : x14_1 < (l0.length : Int) := oB_ (by first | (with_reducible assumption) | assumption)
           obtain ⟨ad355, e355, hx355_0⟩ := Kd.at_int HR0.out x14_1 p355 q355
           cases e355
           replace hx355_0 := (HB.out.cell (World.block_lt_of_cell? w _ hx355_0)).trans hx355_0
           replace p355 := eq_true p355
           replace q355 := eq_true q355
           have p14 : 0 ≤ ((rd l0 x14_1) : Int) := oB_ (by first | (with_reducible assumption) | assumption)
           have q14 : ((rd l0 x14_1) : Int) < ((x3_1.length : Int) : Int) := oB_ (by first | (with_reducible assumption) | assumption)
           obtain ⟨go14, co14, eo14, gb14, gl14, cl14, HG14⟩ := Kd.R_form HO_3.out (by omega)
           (first | cases eo14 | (injection eo14 with ea_ en_ ec_; (first | subst ea_ | (injection ea_ with ea_; subst ea_)); subst ec_; clear en_))
           have GB14 := A_ gb14
           have GG14 := A_ HG14
           clear gb14 gl14 HG14
           obtain ⟨hx14_0, hf14_0⟩ := Kd.R_celln 0 HO_3.out ((rd l0 x14_1) : Int) p14 q14
           replace p14 := eq_true p14
           replace q14 := eq_true q14
           have HP15 := Kd.R_putg HO_3.out ((rd l0 x14_1) : Int) x14_1
           go_wp2_with (first | ((with_reducible refine gate_store (t := 3) (p := 22) rfl ?_); refine store_event (t := 3) (p := 22) (v := ?vo_w16) (w1 := (wr.setCell ⟨go14, ((rd l0 x14_1) : Int).toNat, none⟩ (.int .i64 x14_1))) ?hg ?ho ?hn ?hr ?_; (case ho => rfl); (case hg => rfl); (case hn => rfl); (case hr => first | (go_simp; done) | (go_simp; rfl)); intro w16 hw; have hg : wr.grownBy w16 (some go14) := (by rw [hw]; exact HP15.2); have hp_ : Kd.R (Kd.int .i64) 3 w16 w.heap.size (fun _ => True) (.slice (some ⟨go14, 0, none⟩) x3_1.length co14) y356 := (by rw [hw, Ny356.out]; exact HP15.1); clear HP15; have n0_ := A_ (hp_); have n1_ := A_ ((by rw [hw]; exact bD_ (HB.out) GB14.out : Below w.heap.size w w16)); clear HO_3; clear HB; have HO_3 := n0_; have HB := n1_; clear n0_ n1_; clear hg hw hp_))
           go_roundg k1
           case measure => have := HK1.out; omega
           case rel => exact ⟨(y356), (wrap64 (x14_1 + 1)), (by first | rfl | (simp; done) | (simp [*]; done)), H', ⟨by have := HK1.out; omega⟩, ⟨by (with_reducible repeat (first | apply rA_ | apply rB_ | apply rC_)); exact HO_3.out⟩, ⟨by repeat (first | (with_reducible first | exact HB.out | apply bA_ | apply bB_ | apply bC_) | exact HB.out)⟩⟩
          ·rw [if_neg c13] at H
           exact absurd H (by simp)
         ·rw [if_neg c12] at H
          exact absurd H (by simp)
        ·rw [if_neg c11] at H
         exact absurd H (by simp)
       ·rw [if_neg c10] at H
        exact absurd H (by simp)
      ·rw [if_neg c9] at H
       have c9b0 : decide (x14_1 < (l0.length : Int)) = false := oD_ c9
       clear c9
       obtain rfl := Option.some.inj H
       go_wp2
       go_ret
       exact ⟨_, by first | rfl | (simp [errW_none, errW_some] <;> rfl) | (simp [*, errW_none, errW_some] <;> rfl), by (with_reducible repeat (first | apply rA_ | apply rB_ | apply rC_)); exact HO_3.out, by repeat (first | (with_reducible first | exact HB.out | apply bA_ | apply bB_ | apply bC_) | exact HB.out)⟩
   ·rw [if_neg c5] at H
    exact absurd H (by simp)
  ·rw [if_neg c4] at H
   exact absurd H (by simp)
 ·replace c3 := Bool.eq_false_iff.mpr c3
  subst c3
  have H1 : (some ([] : List Int)) = some r := by rw [if_neg (show ¬ (false = true) by decide)] at H; exact H
  clear H
  have H := H1
  clear H1
  obtain rfl := Option.some.inj H
  go_enter Try.func119, Try.ntmps119
  go_wp2_with (first | ((with_reducible refine gA_ (f := 98) rfl ?_); refine goesL_ (some 7) rfl rfl Try.func98 (by kernel_rfl) rfl #[.slice A0 l0.length c0] rfl (by (try simp only [mA_, mB_, mC_]); first | done | rfl | (simp only [lA_, lB_]; rfl)) ?_; (with_reducible refine (Z37.calls k _ _ l0 false _ ?side1 ?side2 A2.out).mono ?_); (case side1 => repeat (first | exact HR0.out | (with_reducible first | refine cA_ ?_ _ | refine cB_ ?_ _ | refine cC_ ?_))); (case side2 => exact HC0.out); rintro e w17 ⟨rfl, hb⟩; refine ⟨_, rfl, ?_⟩; have n0_ := A_ (bE_ (by repeat (first | (with_reducible first | exact HB.out | apply bA_ | apply bB_ | apply bC_) | exact HB.out)) hb); clear HB; have HB := n0_; clear n0_; (try clear hb); (try clear hb2); (try clear hk); (try clear hi)))
  go_ret
  exact ⟨_, by first | rfl | (simp [errW_none, errW_some] <;> rfl) | (simp [*, errW_none, errW_some] <;> rfl), by first | exact Kd.R_nil _ _ _ _ _ | exact Kd.N_nil _ _ _ _ _ | exact Kd.V_nil _ _ _ _ _ | exact Kd.Q_nil _ _ _ _ _ | exact Kd.S_nil _ _ _ _ _, by repeat (first | (with_reducible first | exact HB.out | apply bA_ | apply bB_ | apply bC_) | exact HB.out)⟩
end Go.Proofs.Ytbdnellgioimbaa.A
end
section
namespace Go.Proofs.Ytbdnellgioimbaa.A
open Go.RowKit Go.Proofs.YtbdnellgioimbaaW.PrintWords Go.Proofs.YtbdnellgioimbaaW.PrintLast Go.Proofs.YtbdnellgioimbaaW.PrintMore
attribute [local go_sem] max2_int min2_int max_two min_two max_three min_three max_four min_four
set_option linter.unusedVariables false
set_option linter.unusedSimpArgs false
mutual
def Z38.l0 : Nat → Int → List Int → List Int → List Int → Int → Int → List Int → List Int → Option (List Int)
 | 0, _, _, _, _, _, _, _, _ => none
 | k + 1, x1, x5, x6, x7, x25, x26, x358000, x358001 => if x26 < x25 then (if 0 ≤ x26 then (if x26 < (x7.length : Int) then (Z38.l0 k x1 x5 x6 (x7.set (x26 : Int).toNat (-1)) x25 (wrap64 (x26 + 1)) x358000 x358001) else (none)) else (none)) else (if 0 < (x7.length : Int) then (Z38.l1 k x5 x6 (x7.set (0 : Int).toNat x1) (([0] : List Int)) 0 x358000 x358001) else (none))
def Z38.l1 : Nat → List Int → List Int → List Int → List Int → Int → List Int → List Int → Option (List Int)
 | 0, _, _, _, _, _, _, _ => none
 | k + 1, x5, x6, x7, x9, x10, x358000, x358001 => if x10 < (x9.length : Int) then (if 0 ≤ x10 then (if 0 ≤ (rd x9 x10) then (if (rd x9 x10) < (x358000.length : Int) then (if (rd x9 x10) < (x7.length : Int) then (if 0 ≤ (rd x7 (rd x9 x10)) then (if (rd x7 (rd x9 x10)) < (x5.length : Int) then (if (rd x9 x10) < (x358001.length : Int) then (if (rd x7 (rd x9 x10)) < (x6.length : Int) then ((some (([(⟨rd x358000 (rd x9 x10), rd x5 (rd x7 (rd x9 x10))⟩ : S128), (⟨rd x358001 (rd x9 x10), rd x6 (rd x7 (rd x9 x10))⟩ : S128)] : List (S128)) : List (S128))).bind fun y379 => (Z38.l2 k x5 x6 x7 x9 x10 y379 (y379.length : Int) 0 x358000 x358001)) else (none)) else (none)) else (none)) else (none)) else (none)) else (none)) else (none)) else (none)) else (some x7)
def Z38.l2 : Nat → List Int → List Int → List Int → List Int → Int → List (S128) → Int → Int → List Int → List Int → Option (List Int)
 | 0, _, _, _, _, _, _, _, _, _, _ => none
 | k + 1, x5, x6, x7, x9, x10, x73, x74, x75, x358000, x358001 => if x75 < x74 then (if 0 ≤ x75 then (if x75 < (x73.length : Int) then (if 0 ≤ ((rd_T128 x73 x75).f0) then (if ((rd_T128 x73 x75).f0) < (x7.length : Int) then (if (rd x7 ((rd_T128 x73 x75).f0)) < 0 then (if x9.length < 17592186044416 then (Z38.l2 k x5 x6 (x7.set (((rd_T128 x73 x75).f0) : Int).toNat ((rd_T128 x73 x75).f1)) (x9 ++ [(rd_T128 x73 x75).f0]) x10 x73 x74 (wrap64 (x75 + 1)) x358000 x358001) else (none)) else (Z38.l2 k x5 x6 x7 x9 x10 x73 x74 (wrap64 (x75 + 1)) x358000 x358001)) else (none)) else (none)) else (none)) else (none)) else (Z38.l1 k x5 x6 x7 x9 (wrap64 (x10 + 1)) x358000 x358001)
end
def Z38.f (k : Nat) (l0_0 : List Int) (l0_1 : List Int) (a1 : Int) : Option (List Int) := (Z9.f k l0_0).bind fun t358 => ((Z9.f k l0_1).bind fun t361 => (if 0 ≤ (l0_0.length : Int) then (if ((l0_0.length : Int) : Int).toNat ≤ 35184372088832 then ((some (List.replicate ((l0_0.length : Int) : Int).toNat 0 : List Int)).bind fun y364 => (Z38.l0 k a1 t358 t361 y364 (y364.length : Int) 0 l0_0 l0_1)) else (none)) else (none)))
theorem Z38.mono_l : ∀ k, (∀ y0 y1 y2 y3 y4 y5 y6 y7, LeO (Z38.l0 k y0 y1 y2 y3 y4 y5 y6 y7) (Z38.l0 (k + 1) y0 y1 y2 y3 y4 y5 y6 y7)) ∧ (∀ y0 y1 y2 y3 y4 y5 y6, LeO (Z38.l1 k y0 y1 y2 y3 y4 y5 y6) (Z38.l1 (k + 1) y0 y1 y2 y3 y4 y5 y6)) ∧ (∀ y0 y1 y2 y3 y4 y5 y6 y7 y8 y9, LeO (Z38.l2 k y0 y1 y2 y3 y4 y5 y6 y7 y8 y9) (Z38.l2 (k + 1) y0 y1 y2 y3 y4 y5 y6 y7 y8 y9))
 | 0 => ⟨fun _ _ _ _ _ _ _ _ r h => by simp [Z38.l0] at h, fun _ _ _ _ _ _ _ r h => by simp [Z38.l1] at h, fun _ _ _ _ _ _ _ _ _ _ r h => by simp [Z38.l2] at h⟩
 | k + 1 => by
  obtain ⟨ih0, ih1, ih2⟩ := Z38.mono_l k
  refine ⟨?_, ?_, ?_⟩
  ·intro y0 y1 y2 y3 y4 y5 y6 y7
   unfold Z38.l0
   repeat' first
   | (with_reducible exact ih0 _ _ _ _ _ _ _ _)
   | (with_reducible exact ih1 _ _ _ _ _ _ _)
   | (with_reducible exact ih2 _ _ _ _ _ _ _ _ _ _)
   | (with_reducible exact Z9.mono _ _)
   | (with_reducible exact LeO.refl _)
   | (with_reducible exact LeO.none _)
   | (with_reducible refine LeO.ite ?_ ?_)
   | (with_reducible refine LeO.bind ?_ (fun _ => ?_))
   | exact ih0 _ _ _ _ _ _ _ _
   | exact ih1 _ _ _ _ _ _ _
   | exact ih2 _ _ _ _ _ _ _ _ _ _
   | exact Z9.mono _ _
   | exact LeO.none _
   | refine LeO.ite ?_ ?_
   | refine LeO.bind ?_ (fun _ => ?_)
  ·intro y0 y1 y2 y3 y4 y5 y6
   unfold Z38.l1
   repeat' first
   | (with_reducible exact ih0 _ _ _ _ _ _ _ _)
   | (with_reducible exact ih1 _ _ _ _ _ _ _)
   | (with_reducible exact ih2 _ _ _ _ _ _ _ _ _ _)
   | (with_reducible exact Z9.mono _ _)
   | (with_reducible exact LeO.refl _)
   | (with_reducible exact LeO.none _)
   | (with_reducible refine LeO.ite ?_ ?_)
   | (with_reducible refine LeO.bind ?_ (fun _ => ?_))
   | exact ih0 _ _ _ _ _ _ _ _
   | exact ih1 _ _ _ _ _ _ _
   | exact ih2 _ _ _ _ _ _ _ _ _ _
   | exact Z9.mono _ _
   | exact LeO.none _
   | refine LeO.ite ?_ ?_
   | refine LeO.bind ?_ (fun _ => ?_)
  ·intro y0 y1 y2 y3 y4 y5 y6 y7 y8 y9
   unfold Z38.l2
   repeat' first
   | (with_reducible exact ih0 _ _ _ _ _ _ _ _)
   | (with_reducible exact ih1 _ _ _ _ _ _ _)
   | (with_reducible exact ih2 _ _ _ _ _ _ _ _ _ _)
   | (with_reducible exact Z9.mono _ _)
   | (with_reducible exact LeO.refl _)
   | (with_reducible exact LeO.none _)
   | (with_reducible refine LeO.ite ?_ ?_)
   | (with_reducible refine LeO.bind ?_ (fun _ => ?_))
   | exact ih0 _ _ _ _ _ _ _ _
   | exact ih1 _ _ _ _ _ _ _
   | exact ih2 _ _ _ _ _ _ _ _ _ _
   | exact Z9.mono _ _
   | exact LeO.none _
   | refine LeO.ite ?_ ?_
   | refine LeO.bind ?_ (fun _ => ?_)
theorem Z38.mono : ∀ a0 a1 a2 k, LeO (Z38.f k a0 a1 a2) (Z38.f (k + 1) a0 a1 a2) := by
 intro a0 a1 a2 k
 obtain ⟨ih0, ih1, ih2⟩ := Z38.mono_l k
 unfold Z38.f
 repeat' first
   | (with_reducible exact ih0 _ _ _ _ _ _ _ _)
   | (with_reducible exact ih1 _ _ _ _ _ _ _)
   | (with_reducible exact ih2 _ _ _ _ _ _ _ _ _ _)
   | (with_reducible exact Z9.mono _ _)
   | (with_reducible exact LeO.refl _)
   | (with_reducible exact LeO.none _)
   | (with_reducible refine LeO.ite ?_ ?_)
   | (with_reducible refine LeO.bind ?_ (fun _ => ?_))
   | exact ih0 _ _ _ _ _ _ _ _
   | exact ih1 _ _ _ _ _ _ _
   | exact ih2 _ _ _ _ _ _ _ _ _ _
   | exact Z9.mono _ _
   | exact LeO.none _
   | refine LeO.ite ?_ ?_
   | refine LeO.bind ?_ (fun _ => ?_)
def Z38.T15 : Bool × List (List Nat × List Nat) := (true, [([], []), ([0], [0]), ([], []), ([1, 2], [1, 2]), ([3], [3]), ([], []), ([], []), ([], []), ([6, 7], [6, 7]), ([8], [8]), ([5, 9], [5, 9]), ([10], [10]), ([4, 11], [4, 11]), ([], []), ([13], [13]), ([], []), ([14, 15], [14, 15]), ([16], [16]), ([], []), ([], []), ([], []), ([19, 20], [19, 20]), ([21], [21]), ([18, 22], [18, 22]), ([23], [23]), ([17, 24], [17, 24]), ([12, 25], [12, 25]), ([26], [26]), ([], [])])
def Z38.B15 : List Nat := [0, 1, 0, 7, 15, 0, 0, 0, 192, 448, 992, 2016, 4095, 0, 8192, 0, 57344, 122880, 0, 0, 0, 1572864, 3670016, 8126464, 16515072, 33546240, 67108863, 134217727, 0]
theorem Z38.tab15 : rtab .any (opsOf Try.f106 15) = Z38.T15 := by kernel_rfl
theorem Z38.bits15 : waitsOk Z38.T15.2 Z38.B15 = true := by kernel_rfl
set_option maxHeartbeats 8000000 in
set_option maxRecDepth 100000 in
theorem Z38.calls (k : Nat) (A0_0 : Option Addr) (c0_0 : Nat) (l0_0 : List Int) (A0_1 : Option Addr) (c0_1 : Nat) (l0_1 : List Int) (a1 : Int) (r : List Int) (w : World) (hr0_0 : Kd.C (Kd.int .i64) w A0_0 l0_0.length l0_0) (hc0_0 : l0_0.length ≤ c0_0) (hr0_1 : Kd.C (Kd.int .i64) w A0_1 l0_1.length l0_1) (hc0_1 : l0_1.length ≤ c0_1) (h : Z38.f k l0_0 l0_1 a1 = some r) :
  Calls Try.prog 106 #[.agg #[.slice A0_0 l0_0.length c0_0, .slice A0_1 l0_1.length c0_1], .int .i64 a1] w fun e w' => ∃ v0_ : Value, e = .returned (v0_) ∧ Kd.R (Kd.int .i64) 3 w' w.heap.size (fun _ => True) v0_ r ∧ Below w.heap.size w w' := by
 have hu27 := Try.underlying27
 have hu128 := Try.underlying128
 have HR0_0 := A_ hr0_0
 have HC0_0 := A_ hc0_0
 clear hr0_0 hc0_0
 have HR0_1 := A_ hr0_1
 have HC0_1 := A_ hc0_1
 clear hr0_1 hc0_1
 have HB := A_ (Below.refl w.heap.size w)
 have H : ((Z9.f k l0_0).bind fun t358 => ((Z9.f k l0_1).bind fun t361 => (if 0 ≤ (l0_0.length : Int) then (if ((l0_0.length : Int) : Int).toNat ≤ 35184372088832 then ((some (List.replicate ((l0_0.length : Int) : Int).toNat 0 : List Int)).bind fun y364 => (Z38.l0 k a1 t358 t361 y364 (y364.length : Int) 0 l0_0 l0_1)) else (none)) else (none)))) = some r := h
 clear h
 replace H := Option.bind_eq_some_iff.mp H
 obtain ⟨t358, A30, H⟩ := H
 replace H : ((Z9.f k l0_1).bind fun t361 => (if 0 ≤ (l0_0.length : Int) then (if ((l0_0.length : Int) : Int).toNat ≤ 35184372088832 then ((some (List.replicate ((l0_0.length : Int) : Int).toNat 0 : List Int)).bind fun y364 => (Z38.l0 k a1 t358 t361 y364 (y364.length : Int) 0 l0_0 l0_1)) else (none)) else (none))) = some r := H
 have A3 := A_ A30
 clear A30
 replace H := Option.bind_eq_some_iff.mp H
 obtain ⟨t361, A40, H⟩ := H
 replace H : (if 0 ≤ (l0_0.length : Int) then (if ((l0_0.length : Int) : Int).toNat ≤ 35184372088832 then ((some (List.replicate ((l0_0.length : Int) : Int).toNat 0 : List Int)).bind fun y364 => (Z38.l0 k a1 t358 t361 y364 (y364.length : Int) 0 l0_0 l0_1)) else (none)) else (none)) = some r := H
 have A4 := A_ A40
 clear A40
 by_cases c5 : 0 ≤ (l0_0.length : Int)
 ·rw [if_pos c5] at H
  have c5b0 := eq_true c5
  have c5b1 : decide (0 ≤ (l0_0.length : Int)) = true := oC_ c5
  clear c5
  by_cases c6 : ((l0_0.length : Int) : Int).toNat ≤ 35184372088832
  ·rw [if_pos c6] at H
   have c6b0 := eq_true c6
   have c6b1 : decide (((l0_0.length : Int) : Int).toNat ≤ 35184372088832) = true := oC_ c6
   clear c6
   obtain ⟨y364, hy364⟩ : ∃ y_ : List Int, y_ = (List.replicate ((l0_0.length : Int) : Int).toNat 0) := ⟨_, rfl⟩
   replace H : (Z38.l0 k a1 t358 t361 y364 (y364.length : Int) 0 l0_0 l0_1) = some r := by first | (rw [hy364]; with_reducible exact H) | (have H2_ := (oA_ _ _).symm.trans H; rw [hy364]; with_reducible exact H2_) | (have H2_ := (oA_ _ _).symm.trans H; with_reducible exact H2_) | with_reducible exact H | (rw [hy364]; exact H) | exact H
   have Ny364 := A_ hy364
   clear hy364
   have H' := A_ H
   clear H
   go_enter Try.func106, Try.ntmps106
   go_wp2_with (first | ((with_reducible refine gB_ (N := 2) rfl ?_); refine xA_ ?hg (N := 2) ?hd (cs := #[.slice A0_0 l0_0.length c0_0, .slice A0_1 l0_1.length c0_1]) (t := 27) ?hr ?_; (case hd => rfl); (case hg => rfl); (case hr => first | (go_simp; done) | (go_simp; rfl)); intro gb357 hg w7 hbox hb; have n0_ := A_ (bE_ (by repeat (first | (with_reducible first | exact HB.out | apply bA_ | apply bB_ | apply bC_) | exact HB.out)) hb); have n1_ := A_ (hbox); have n2_ := A_ ((by rw [hg]; exact (bF_ (by repeat (first | (with_reducible first | exact HB.out | apply bA_ | apply bB_ | apply bC_) | exact HB.out))) : w.heap.size ≤ gb357)); have n3_ := A_ ((by rw [hg]; exact (bF_ (by repeat (first | (with_reducible first | exact HB.out | apply bA_ | apply bB_ | apply bC_) | exact HB.out))) : w.heap.size ≤ gb357)); clear HB; have HB := n0_; have BK357 := n1_; have GW357 := n2_; have GE357 := n3_; clear n0_ n1_ n2_ n3_; clear hb hbox hg; have hcz8_0 := cz0_ BK357.out; have hcz8_1 := cz1_ BK357.out; have hfz8_0 := kD_ BK357.out 0; have hfz8_1 := kD_ BK357.out 1) | ((with_reducible refine gA_ (f := 119) rfl ?_); refine goesL_ (some 16) rfl rfl Try.func119 (by kernel_rfl) rfl #[.slice A0_0 l0_0.length c0_0] rfl (by (try simp only [mA_, mB_, mC_]); first | done | rfl | (simp only [lA_, lB_]; rfl)) ?_; (with_reducible refine (Z9.calls k _ _ l0_0 t358 _ ?side1 ?side2 A3.out).mono ?_); (case side1 => repeat (first | exact (cD_ HR0_0.out HB.out) | (with_reducible first | refine cA_ ?_ _ | refine cB_ ?_ _ | refine cC_ ?_))); (case side2 => exact HC0_0.out); rintro e w9 ⟨v359, rfl, ho0, hb⟩; refine ⟨_, rfl, ?_⟩; have n0_ := A_ (rE_ ho0 (bF_ (by repeat (first | (with_reducible first | exact HB.out | apply bA_ | apply bB_ | apply bC_ | refine bD_ ?_ GE357.out) | exact HB.out)))); have n1_ := A_ (kE_ (g := gb357) (by (with_reducible repeat (first | refine kA_ ?_ _ | refine kB_ ?_ | refine kC_ ?_ _)); exact BK357.out) hb); have n2_ := A_ (bE_ (by repeat (first | (with_reducible first | exact HB.out | apply bA_ | apply bB_ | apply bC_ | refine bD_ ?_ GE357.out) | exact HB.out)) hb); clear BK357; clear HB; have HO360 := n0_; have BK357 := n1_; have HB := n2_; clear n0_ n1_ n2_; (try clear hb); (try clear hb2); (try clear hk); (try clear hi); (try clear ho0); have hcz10_0 := cz0_ BK357.out; have hcz10_1 := cz1_ BK357.out; have hfz10_0 := kD_ BK357.out 0; have hfz10_1 := kD_ BK357.out 1) | ((with_reducible refine gA_ (f := 119) rfl ?_); refine goesL_ (some 19) rfl rfl Try.func119 (by kernel_rfl) rfl #[.slice A0_1 l0_1.length c0_1] rfl (by (try simp only [mA_, mB_, mC_]); first | done | rfl | (simp only [lA_, lB_]; rfl)) ?_; (with_reducible refine (Z9.calls k _ _ l0_1 t361 _ ?side1 ?side2 A4.out).mono ?_); (case side1 => repeat (first | exact (cD_ HR0_1.out HB.out) | (with_reducible first | refine cA_ ?_ _ | refine cB_ ?_ _ | refine cC_ ?_))); (case side2 => exact HC0_1.out); rintro e w11 ⟨v362, rfl, ho0, hb⟩; refine ⟨_, rfl, ?_⟩; have n0_ := A_ (Kd.R_elder' (by (with_reducible repeat (first | apply rA_ | apply rB_ | apply rC_)); exact HO360.out) (Kd.R_base ho0) hb); have n1_ := A_ (rE_ (Kd.R_new' ho0 (Kd.R_lt (by (with_reducible repeat (first | apply rA_ | apply rB_ | apply rC_)); exact HO360.out))) (bF_ (by repeat (first | (with_reducible first | exact HB.out | apply bA_ | apply bB_ | apply bC_ | refine bD_ ?_ GE357.out) | exact HB.out)))); have n2_ := A_ (kE_ (g := gb357) (by (with_reducible repeat (first | refine kA_ ?_ _ | refine kB_ ?_ | refine kC_ ?_ _)); exact BK357.out) hb); have n3_ := A_ (bE_ (by repeat (first | (with_reducible first | exact HB.out | apply bA_ | apply bB_ | apply bC_ | refine bD_ ?_ GE357.out) | exact HB.out)) hb); clear HO360; clear BK357; clear HB; have HO360 := n0_; have HO363 := n1_; have BK357 := n2_; have HB := n3_; clear n0_ n1_ n2_ n3_; (try clear hb); (try clear hb2); (try clear hk); (try clear hi); (try clear ho0); have hcz12_0 := cz0_ BK357.out; have hcz12_1 := cz1_ BK357.out; have hfz12_0 := kD_ BK357.out 0; have hfz12_1 := kD_ BK357.out 1) | ((with_reducible refine gB_ (N := 23) rfl ?_); refine Kd.R_make (Kd.int .i64) _ 3 rfl (N := 23) rfl 22 _ _ rfl (l0_0.length : Int) rfl rfl Try.underlying22 (.int .i64 0) 8 info3 rfl (by decide) (by omega) 0 (ok := fun _ => True) (okp := fun _ => True) rfl (fun _ hk => hk) trivial (oB_ (by first | (with_reducible assumption) | assumption)) (Nat.le_trans (Nat.mul_le_mul_right _ (oB_ (by first | (with_reducible assumption) | assumption) : (l0_0.length : Int).toNat ≤ 35184372088832)) (by omega)) (Below.refl _ _) (nA_ _) ?_; intro v365 w13 ho14 hb hg_ hnew_; clear hg_ hnew_; (first | rw [← Ny364.out] at ho14 | (simp only [Int.reduceToNat] at ho14; rw [← Ny364.out] at ho14)); have n0_ := A_ (Kd.R_elder' (by (with_reducible repeat (first | apply rA_ | apply rB_ | apply rC_)); exact HO360.out) (Kd.R_base ho14) hb); have n1_ := A_ (Kd.R_elder' (by (with_reducible repeat (first | apply rA_ | apply rB_ | apply rC_)); exact HO363.out) (Kd.R_base ho14) hb); have n2_ := A_ (rE_ (Kd.R_new' (Kd.R_new' ho14 (Kd.R_lt (by (with_reducible repeat (first | apply rA_ | apply rB_ | apply rC_)); exact HO360.out))) (Kd.R_lt (by (with_reducible repeat (first | apply rA_ | apply rB_ | apply rC_)); exact HO363.out))) (bF_ (by repeat (first | (with_reducible first | exact HB.out | apply bA_ | apply bB_ | apply bC_ | refine bD_ ?_ GE357.out) | exact HB.out)))); have n3_ := A_ (kE_ (g := gb357) (by (with_reducible repeat (first | refine kA_ ?_ _ | refine kB_ ?_ | refine kC_ ?_ _)); exact BK357.out) hb); have n4_ := A_ (bE_ (by repeat (first | (with_reducible first | exact HB.out | apply bA_ | apply bB_ | apply bC_ | refine bD_ ?_ GE357.out) | exact HB.out)) hb); clear HO360; clear HO363; clear BK357; clear HB; have HO360 := n0_; have HO363 := n1_; have HO366 := n2_; have BK357 := n3_; have HB := n4_; clear n0_ n1_ n2_ n3_ n4_; clear hb ho14; obtain ⟨Ao15, co15, eo15⟩ := Kd.R_slice HO366.out; subst eo15))
   go_loopg [26] k (fun kq v26 w' => ∃ (x7_1 : List Int) (x26_1 : Int), v26 = .int .i64 x26_1 ∧ Aside0 (Z38.l0 kq a1 t358 t361 x7_1 (y364.length : Int) x26_1 l0_0 l0_1 = some r) ∧ Aside0 (kq ≤ k) ∧ Aside0 (Kd.R (Kd.int .i64) 3 w' w.heap.size (fun k_ => some k_ ≠ (v362 : Value).ownBlock ∧ some k_ ≠ ((.slice Ao15 y364.length co15) : Value).ownBlock) v359 t358) ∧ Aside0 (Kd.R (Kd.int .i64) 3 w' w.heap.size (fun k_ => some k_ ≠ (v359 : Value).ownBlock ∧ some k_ ≠ ((.slice Ao15 y364.length co15) : Value).ownBlock) v362 t361) ∧ Aside0 (Kd.R (Kd.int .i64) 3 w' w.heap.size (fun k_ => some k_ ≠ (v359 : Value).ownBlock ∧ some k_ ≠ (v362 : Value).ownBlock) (.slice Ao15 y364.length co15) x7_1) ∧ Aside0 (w'.heap[gb357]? = some (.cells #[(.slice A0_0 l0_0.length c0_0), (.slice A0_1 l0_1.length c0_1)] 27 (0, 0))) ∧ Aside0 (Below w.heap.size w w'))
   case atStart => exact ⟨(y364), (0), (by first | rfl | (simp; done) | (simp [*]; done)), H', ⟨nA_ _⟩, ⟨by (with_reducible repeat (first | apply rA_ | apply rB_ | apply rC_)); exact Kd.R_mono HO360.out (fun _ hk => ⟨hk.1.2, hk.2⟩)⟩, ⟨by (with_reducible repeat (first | apply rA_ | apply rB_ | apply rC_)); exact Kd.R_mono HO363.out (fun _ hk => ⟨hk.1.2, hk.2⟩)⟩, ⟨by (with_reducible repeat (first | apply rA_ | apply rB_ | apply rC_)); exact Kd.R_mono HO366.out (fun _ hk => ⟨hk.1.2, hk.2⟩)⟩, ⟨by (with_reducible repeat (first | refine kA_ ?_ _ | refine kB_ ?_ | refine kC_ ?_ _)); exact BK357.out⟩, ⟨by repeat (first | (with_reducible first | exact HB.out | apply bA_ | apply bB_ | apply bC_ | refine bD_ ?_ GE357.out) | exact HB.out)⟩⟩
   case round =>
    clear H'
    (try clear c1); (try clear p2); (try clear c5); (try clear c5b0); (try clear c5b1); (try clear c6); (try clear c6b0); (try clear c6b1); (try clear c10); (try clear c11); (try clear hcz10_0); (try clear hcz10_1); (try clear hcz12_0); (try clear hcz12_1); (try clear hcz8_0); (try clear hcz8_1); (try clear hfz10_0); (try clear hfz10_1); (try clear hfz12_0); (try clear hfz12_1); (try clear hfz8_0); (try clear hfz8_1)
    obtain ⟨x7_1, x26_1, rfl, HA, HK1, HO_5, HO_6, HO_7, BK357, HB⟩ := hrel
    have hl7_1 := (Kd.R_reads' HO_7.out).1
    rw [hl7_1] at HO_7
    (try simp only [hl7_1])
    (try simp only [hl7_1] at BK357)
    (try simp only [hl7_1] at HO_5)
    (try simp only [hl7_1] at HO_6)
    cases gk with
    | zero => exact absurd HA.out (by simp [Z38.l0])
    | succ k1 =>
     have H := HA.out
     clear HA
     simp only [Z38.l0] at H
     by_cases c16 : x26_1 < (y364.length : Int)
     ·rw [if_pos c16] at H
      have c16b0 : decide (x26_1 < (y364.length : Int)) = true := oC_ c16
      clear c16
      by_cases c17 : 0 ≤ x26_1
      ·rw [if_pos c17] at H
       have c17b0 : decide (0 ≤ x26_1) = true := oC_ c17
       clear c17
       by_cases c18 : x26_1 < (x7_1.length : Int)
       ·rw [if_pos c18] at H
        have c18b0 : decide (x26_1 < (x7_1.length : Int)) = true := oC_ c18
        clear c18
        obtain ⟨y367, hy367⟩ : ∃ y_ : List Int, y_ = (x7_1.set (x26_1 : Int).toNat (-1)) := ⟨_, rfl⟩
        replace H : (Z38.l0 k1 a1 t358 t361 y367 (y364.length : Int) (wrap64 (x26_1 + 1)) l0_0 l0_1) = some r := by first | (rw [hy367]; with_reducible exact H) | (have H2_ := (oA_ _ _).symm.trans H; rw [hy367]; with_reducible exact H2_) | (have H2_ := (oA_ _ _).symm.trans H; with_reducible exact H2_) | with_reducible exact H | (rw [hy367]; exact H) | exact H
        have Ny367 := A_ hy367
        clear hy367
        have H' := A_ H
        clear H
        have p19 : 0 ≤ (x26_1 : Int) := oB_ (by first | (with_reducible assumption) | assumption)
        have q19 : (x26_1 : Int) < ((x7_1.length : Int) : Int) := oB_ (by first | (with_reducible assumption) | assumption)
        obtain ⟨go19, co19, eo19, gb19, gl19, cl19, HG19⟩ := Kd.R_form HO_7.out (by omega)
        (first | cases eo19 | (injection eo19 with ea_ en_ ec_; (first | subst ea_ | (injection ea_ with ea_; subst ea_)); subst ec_; clear en_))
        have GB19 := A_ gb19
        have GG19 := A_ HG19
        clear gb19 gl19 HG19
        obtain ⟨hx19_0, hf19_0⟩ := Kd.R_celln 0 HO_7.out (x26_1 : Int) p19 q19
        replace p19 := eq_true p19
        replace q19 := eq_true q19
        have HP20 := Kd.R_putg HO_7.out (x26_1 : Int) (-1)
        go_wp2_with (first | ((with_reducible refine gate_store (t := 3) (p := 31) rfl ?_); refine store_event (t := 3) (p := 31) (v := ?vo_w21) (w1 := (wr.setCell ⟨go19, (x26_1 : Int).toNat, none⟩ (.int .i64 (-1)))) ?hg ?ho ?hn ?hr ?_; (case ho => rfl); (case hg => rfl); (case hn => rfl); (case hr => first | (go_simp; done) | (go_simp; rfl)); intro w21 hw; have hg : wr.grownBy w21 (some go19) := (by rw [hw]; exact HP20.2); have hp_ : Kd.R (Kd.int .i64) 3 w21 w.heap.size (fun k_ => some k_ ≠ (v359 : Value).ownBlock ∧ some k_ ≠ (v362 : Value).ownBlock) (.slice (some ⟨go19, 0, none⟩) x7_1.length co15) y367 := (by rw [hw, Ny367.out]; exact HP20.1); clear HP20; have n0_ := A_ (Kd.R_after (v := (.slice (some ⟨go19, 0, none⟩) x7_1.length co15)) (v1 := (.slice (some ⟨go19, 0, none⟩) x7_1.length co15)) (ok := (fun k_ => some k_ ≠ (v362 : Value).ownBlock)) (by (with_reducible repeat (first | apply rA_ | apply rB_ | apply rC_)); exact HO_5.out) hg (.inl rfl)); have n1_ := A_ (Kd.R_after (v := (.slice (some ⟨go19, 0, none⟩) x7_1.length co15)) (v1 := (.slice (some ⟨go19, 0, none⟩) x7_1.length co15)) (ok := (fun k_ => some k_ ≠ (v359 : Value).ownBlock)) (by (with_reducible repeat (first | apply rA_ | apply rB_ | apply rC_)); exact HO_6.out) hg (.inl rfl)); have n2_ := A_ (hp_); have n3_ := A_ (blk_grown (g := gb357) (o := .cells #[.slice A0_0 l0_0.length c0_0, .slice A0_1 l0_1.length c0_1] 27 (0, 0)) (by (with_reducible repeat (first | refine kA_ ?_ _ | refine kB_ ?_ | refine kC_ ?_ _)); exact BK357.out) hg (Kd.R_ne HO_7.out BK357.out (by decide))); have n4_ := A_ ((by rw [hw]; exact bD_ (HB.out) GB19.out : Below w.heap.size w w21)); clear HO_5; clear HO_6; clear HO_7; clear BK357; clear HB; have HO_5 := n0_; have HO_6 := n1_; have HO_7 := n2_; have BK357 := n3_; have HB := n4_; clear n0_ n1_ n2_ n3_ n4_; clear hg hw hp_))
        (try simp only [← hl7_1])
        go_roundg k1
        case measure => have := HK1.out; omega
        case rel => exact ⟨(y367), (wrap64 (x26_1 + 1)), (by first | rfl | (simp; done) | (simp [*]; done)), H', ⟨by have := HK1.out; omega⟩, ⟨by (try simp only [hl7_1]); (with_reducible repeat (first | apply rA_ | apply rB_ | apply rC_)); exact HO_5.out⟩, ⟨by (try simp only [hl7_1]); (with_reducible repeat (first | apply rA_ | apply rB_ | apply rC_)); exact HO_6.out⟩, ⟨by (try simp only [hl7_1]); (with_reducible repeat (first | apply rA_ | apply rB_ | apply rC_)); exact HO_7.out⟩, ⟨by (try simp only [hl7_1]); (with_reducible repeat (first | refine kA_ ?_ _ | refine kB_ ?_ | refine kC_ ?_ _)); exact BK357.out⟩, ⟨by repeat (first | (with_reducible first | exact HB.out | apply bA_ | apply bB_ | apply bC_ | refine bD_ ?_ GE357.out) | exact HB.out)⟩⟩
       ·rw [if_neg c18] at H
        exact absurd H (by simp)
      ·rw [if_neg c17] at H
       exact absurd H (by simp)
     ·rw [if_neg c16] at H
      have c16b0 : decide (x26_1 < (y364.length : Int)) = false := oD_ c16
      (try simp only [hl7_1] at c16b0)
      clear c16
      by_cases c22 : 0 < (x7_1.length : Int)
      ·rw [if_pos c22] at H
       have c22b0 : decide (0 < (x7_1.length : Int)) = true := oC_ c22
       have c22b1 : decide (0 < x7_1.length) = true := oC_ (by omega)
       clear c22
       obtain ⟨y368, hy368⟩ : ∃ y_ : List Int, y_ = (x7_1.set (0 : Int).toNat a1) := ⟨_, rfl⟩
       replace H : (Z38.l1 k1 t358 t361 y368 (([0] : List Int)) 0 l0_0 l0_1) = some r := by first | (rw [hy368]; with_reducible exact H) | (have H2_ := (oA_ _ _).symm.trans H; rw [hy368]; with_reducible exact H2_) | (have H2_ := (oA_ _ _).symm.trans H; with_reducible exact H2_) | with_reducible exact H | (rw [hy368]; exact H) | exact H
       have Ny368 := A_ hy368
       clear hy368
       obtain ⟨y369, hy369⟩ : ∃ y_ : List Int, y_ = (([0] : List Int)) := ⟨_, rfl⟩
       replace H : (Z38.l1 k1 t358 t361 y368 y369 0 l0_0 l0_1) = some r := by first | (rw [hy369]; with_reducible exact H) | (have H2_ := (oA_ _ _).symm.trans H; rw [hy369]; with_reducible exact H2_) | (have H2_ := (oA_ _ _).symm.trans H; with_reducible exact H2_) | with_reducible exact H | (rw [hy369]; exact H) | exact H
       have Ny369 := A_ hy369
       clear hy369
       have H' := A_ H
       clear H
       have p23 : 0 ≤ (0 : Int) := (by omega)
       have q23 : (0 : Int) < ((x7_1.length : Int) : Int) := oB_ (by first | (with_reducible assumption) | assumption)
       have qi23 : (0 < x7_1.length) = True := eq_true (by omega)
       obtain ⟨go23, co23, eo23, gb23, gl23, cl23, HG23⟩ := Kd.R_form HO_7.out (by omega)
       (first | cases eo23 | (injection eo23 with ea_ en_ ec_; (first | subst ea_ | (injection ea_ with ea_; subst ea_)); subst ec_; clear en_))
       have GB23 := A_ gb23
       have GG23 := A_ HG23
       clear gb23 gl23 HG23
       obtain ⟨hx23_0, hf23_0⟩ := Kd.R_celln 0 HO_7.out (0 : Int) p23 q23
       (try rw [show ((0 : Int)).toNat = 0 from rfl] at hx23_0)
       (try simp only [Nat.reduceMul, Nat.zero_mul, Nat.zero_add, Nat.reduceAdd] at hx23_0)
       (try rw [show ((0 : Int)).toNat = 0 from rfl] at hf23_0)
       (try simp only [Nat.reduceMul, Nat.zero_mul, Nat.zero_add, Nat.reduceAdd] at hf23_0)
       replace p23 := eq_true p23
       replace q23 := eq_true q23
       have HP24 := Kd.R_putg HO_7.out (0 : Int) a1
       go_wp2_with (first | ((with_reducible refine gate_store (t := 3) (p := 35) rfl ?_); refine store_event (t := 3) (p := 35) (v := ?vo_w25) (w1 := (wr.setCell ⟨go23, (0 : Int).toNat, none⟩ (.int .i64 a1))) ?hg ?ho ?hn ?hr ?_; (case ho => rfl); (case hg => rfl); (case hn => rfl); (case hr => first | (go_simp; done) | (go_simp; rfl)); intro w25 hw; have hg : wr.grownBy w25 (some go23) := (by rw [hw]; exact HP24.2); have hp_ : Kd.R (Kd.int .i64) 3 w25 w.heap.size (fun k_ => some k_ ≠ (v359 : Value).ownBlock ∧ some k_ ≠ (v362 : Value).ownBlock) (.slice (some ⟨go23, 0, none⟩) x7_1.length co15) y368 := (by rw [hw, Ny368.out]; exact HP24.1); clear HP24; have n0_ := A_ (Kd.R_after (v := (.slice (some ⟨go23, 0, none⟩) x7_1.length co15)) (v1 := (.slice (some ⟨go23, 0, none⟩) x7_1.length co15)) (ok := (fun k_ => some k_ ≠ (v362 : Value).ownBlock)) (by (with_reducible repeat (first | apply rA_ | apply rB_ | apply rC_)); exact HO_5.out) hg (.inl rfl)); have n1_ := A_ (Kd.R_after (v := (.slice (some ⟨go23, 0, none⟩) x7_1.length co15)) (v1 := (.slice (some ⟨go23, 0, none⟩) x7_1.length co15)) (ok := (fun k_ => some k_ ≠ (v359 : Value).ownBlock)) (by (with_reducible repeat (first | apply rA_ | apply rB_ | apply rC_)); exact HO_6.out) hg (.inl rfl)); have n2_ := A_ (hp_); have n3_ := A_ (blk_grown (g := gb357) (o := .cells #[.slice A0_0 l0_0.length c0_0, .slice A0_1 l0_1.length c0_1] 27 (0, 0)) (by (with_reducible repeat (first | refine kA_ ?_ _ | refine kB_ ?_ | refine kC_ ?_ _)); exact BK357.out) hg (Kd.R_ne HO_7.out BK357.out (by decide))); have n4_ := A_ ((by rw [hw]; exact bD_ (HB.out) GB23.out : Below w.heap.size w w25)); clear HO_5; clear HO_6; clear HO_7; clear BK357; clear HB; have HO_5 := n0_; have HO_6 := n1_; have HO_7 := n2_; have BK357 := n3_; have HB := n4_; clear n0_ n1_ n2_ n3_ n4_; clear hg hw hp_) | ((with_reducible refine gB_ (N := 36) rfl ?_); refine Kd.R_lit (Kd.int .i64) _ 3 ?hg (N := 36) ?hd (xs := ([0] : List Int)) (inner := [.int .i64 0]) (ok := fun _ => True) (okp := fun _ => True) ?hr ?hp (fun _ hk => hk) trivial (Below.refl _ _) (nA_ _) (by simp) ?_; (case hd => rfl); (case hg => rfl); (case hr => first | (go_simp; done) | (go_simp; rfl)); (case hp => exact (Reps.one (show Kd.M (Kd.int .i64) _ _ _ 0 [.int .i64 0] from rfl) (Reps.none _ _))); intro v370 w26 ho27 hb hg_ hnew_; clear hg_ hnew_; (first | rw [← Ny369.out] at ho27 | (simp only [Int.reduceToNat] at ho27; rw [← Ny369.out] at ho27)); have n0_ := A_ (Kd.R_elder' (by (with_reducible repeat (first | apply rA_ | apply rB_ | apply rC_)); exact HO_5.out) (Kd.R_base ho27) hb); have n1_ := A_ (Kd.R_elder' (by (with_reducible repeat (first | apply rA_ | apply rB_ | apply rC_)); exact HO_6.out) (Kd.R_base ho27) hb); have n2_ := A_ (Kd.R_elder' (by (with_reducible repeat (first | apply rA_ | apply rB_ | apply rC_)); exact HO_7.out) (Kd.R_base ho27) hb); have n3_ := A_ (rE_ (Kd.R_new' (Kd.R_new' (Kd.R_new' ho27 (Kd.R_lt (by (with_reducible repeat (first | apply rA_ | apply rB_ | apply rC_)); exact HO_5.out))) (Kd.R_lt (by (with_reducible repeat (first | apply rA_ | apply rB_ | apply rC_)); exact HO_6.out))) (Kd.R_lt (by (with_reducible repeat (first | apply rA_ | apply rB_ | apply rC_)); exact HO_7.out))) (bF_ (by repeat (first | (with_reducible first | exact HB.out | apply bA_ | apply bB_ | apply bC_ | refine bD_ ?_ GE357.out) | exact HB.out)))); have n4_ := A_ (kE_ (g := gb357) (by (with_reducible repeat (first | refine kA_ ?_ _ | refine kB_ ?_ | refine kC_ ?_ _)); exact BK357.out) hb); have n5_ := A_ (bE_ (by repeat (first | (with_reducible first | exact HB.out | apply bA_ | apply bB_ | apply bC_ | refine bD_ ?_ GE357.out) | exact HB.out)) hb); clear HO_5; clear HO_6; clear HO_7; clear BK357; clear HB; have HO_5 := n0_; have HO_6 := n1_; have HO_7 := n2_; have HO371 := n3_; have BK357 := n4_; have HB := n5_; clear n0_ n1_ n2_ n3_ n4_ n5_; clear hb ho27))
       go_loopg [9, 10] k1 (fun kq v9 v10 w' => ∃ (x7_2 : List Int) (x9_2 : List Int) (x10_2 : Int), v10 = .int .i64 x10_2 ∧ Aside0 (Z38.l1 kq t358 t361 x7_2 x9_2 x10_2 l0_0 l0_1 = some r) ∧ Aside0 (kq ≤ k1) ∧ Aside0 (Kd.R (Kd.int .i64) 3 w' w.heap.size (fun k_ => some k_ ≠ (v362 : Value).ownBlock ∧ some k_ ≠ ((.slice (some ⟨go23, 0, none⟩) x7_1.length co15) : Value).ownBlock ∧ some k_ ≠ (v9 : Value).ownBlock) v359 t358) ∧ Aside0 (Kd.R (Kd.int .i64) 3 w' w.heap.size (fun k_ => some k_ ≠ (v359 : Value).ownBlock ∧ some k_ ≠ ((.slice (some ⟨go23, 0, none⟩) x7_1.length co15) : Value).ownBlock ∧ some k_ ≠ (v9 : Value).ownBlock) v362 t361) ∧ Aside0 (Kd.R (Kd.int .i64) 3 w' w.heap.size (fun k_ => some k_ ≠ (v359 : Value).ownBlock ∧ some k_ ≠ (v362 : Value).ownBlock ∧ some k_ ≠ (v9 : Value).ownBlock) (.slice (some ⟨go23, 0, none⟩) x7_1.length co15) x7_2) ∧ Aside0 (Kd.R (Kd.int .i64) 3 w' w.heap.size (fun k_ => some k_ ≠ (v359 : Value).ownBlock ∧ some k_ ≠ (v362 : Value).ownBlock ∧ some k_ ≠ ((.slice (some ⟨go23, 0, none⟩) x7_1.length co15) : Value).ownBlock) v9 x9_2) ∧ Aside0 (w'.heap[gb357]? = some (.cells #[(.slice A0_0 l0_0.length c0_0), (.slice A0_1 l0_1.length c0_1)] 27 (0, 0))) ∧ Aside0 (Below w.heap.size w w'))
       case atStart => exact ⟨(y368), (y369), (0), (by first | rfl | (simp; done) | (simp [*]; done)), H', ⟨nA_ _⟩, ⟨by (try simp only [hl7_1]); (with_reducible repeat (first | apply rA_ | apply rB_ | apply rC_)); exact Kd.R_mono HO_5.out (fun _ hk => ⟨hk.1.1, ⟨hk.1.2, hk.2⟩⟩)⟩, ⟨by (try simp only [hl7_1]); (with_reducible repeat (first | apply rA_ | apply rB_ | apply rC_)); exact Kd.R_mono HO_6.out (fun _ hk => ⟨hk.1.1, ⟨hk.1.2, hk.2⟩⟩)⟩, ⟨by (try simp only [hl7_1]); (with_reducible repeat (first | apply rA_ | apply rB_ | apply rC_)); exact Kd.R_mono HO_7.out (fun _ hk => ⟨hk.1.1, ⟨hk.1.2, hk.2⟩⟩)⟩, ⟨by (try simp only [hl7_1]); (with_reducible repeat (first | apply rA_ | apply rB_ | apply rC_)); exact Kd.R_mono HO371.out (fun _ hk => ⟨hk.1.1.2, ⟨hk.1.2, hk.2⟩⟩)⟩, ⟨by (try simp only [hl7_1]); (with_reducible repeat (first | refine kA_ ?_ _ | refine kB_ ?_ | refine kC_ ?_ _)); exact BK357.out⟩, ⟨by repeat (first | (with_reducible first | exact HB.out | apply bA_ | apply bB_ | apply bC_ | refine bD_ ?_ GE357.out) | exact HB.out)⟩⟩
       case round =>
        clear H'
        (try clear c1); (try clear p1); (try clear q1); (try clear hx1); (try clear c2); (try clear p2); (try clear q2); (try clear hx2); (try clear qi2); (try clear hf2); (try clear c5); (try clear c5b0); (try clear c5b1); (try clear c6); (try clear c6b0); (try clear c6b1); (try clear p6); (try clear c10); (try clear c11); (try clear c16); (try clear c16b0); (try clear c17); (try clear c17b0); (try clear c18); (try clear c18b0); (try clear p19); (try clear q19); (try clear hx19); (try clear hf19); (try clear c22); (try clear c22b0); (try clear c22b1); (try clear p23); (try clear q23); (try clear hx23); (try clear qi23); (try clear hf23); (try clear hcz10_0); (try clear hcz10_1); (try clear hcz12_0); (try clear hcz12_1); (try clear hcz8_0); (try clear hcz8_1); (try clear hfz10_0); (try clear hfz10_1); (try clear hfz12_0); (try clear hfz12_1); (try clear hfz8_0); (try clear hfz8_1); (try clear hx19_0); (try clear hx23_0); (try clear p19); (try clear p2); (try clear p23); (try clear q19); (try clear q23)
        obtain ⟨x7_2, x9_2, x10_2, rfl, HA, HK2, HO_5, HO_6, HO_7, HO_9, BK357, HB⟩ := hrel
        have hl7_2 := (Kd.R_reads' HO_7.out).1
        rw [hl7_2] at HO_7
        (try simp only [hl7_2])
        (try simp only [hl7_2] at BK357)
        (try simp only [hl7_2] at HO_5)
        (try simp only [hl7_2] at HO_6)
        (try simp only [hl7_2] at HO_9)
        cases gk with
        | zero => exact absurd HA.out (by simp [Z38.l1])
        | succ k2 =>
         have H := HA.out
         clear HA
         simp only [Z38.l1] at H
         by_cases c28 : x10_2 < (x9_2.length : Int)
         ·rw [if_pos c28] at H
          have c28b0 : decide (x10_2 < (x9_2.length : Int)) = true := oC_ c28
          clear c28
          by_cases c29 : 0 ≤ x10_2
          ·rw [if_pos c29] at H
           have c29b0 : decide (0 ≤ x10_2) = true := oC_ c29
           clear c29
           by_cases c30 : 0 ≤ (rd x9_2 x10_2)
           ·rw [if_pos c30] at H
            have c30b0 : decide (0 ≤ (rd x9_2 x10_2)) = true := oC_ c30
            clear c30
            by_cases c31 : (rd x9_2 x10_2) < (l0_0.length : Int)
            ·rw [if_pos c31] at H
             have c31b0 : decide ((rd x9_2 x10_2) < (l0_0.length : Int)) = true := oC_ c31
             clear c31
             by_cases c32 : (rd x9_2 x10_2) < (x7_2.length : Int)
             ·rw [if_pos c32] at H
              have c32b0 : decide ((rd x9_2 x10_2) < (x7_2.length : Int)) = true := oC_ c32
              clear c32
              by_cases c33 : 0 ≤ (rd x7_2 (rd x9_2 x10_2))
              ·rw [if_pos c33] at H
               have c33b0 : decide (0 ≤ (rd x7_2 (rd x9_2 x10_2))) = true := oC_ c33
               clear c33
               by_cases c34 : (rd x7_2 (rd x9_2 x10_2)) < (t358.length : Int)
               ·rw [if_pos c34] at H
                have c34b0 : decide ((rd x7_2 (rd x9_2 x10_2)) < (t358.length : Int)) = true := oC_ c34
                clear c34
                by_cases c35 : (rd x9_2 x10_2) < (l0_1.length : Int)
                ·rw [if_pos c35] at H
                 have c35b0 : decide ((rd x9_2 x10_2) < (l0_1.length : Int)) = true := oC_ c35
                 clear c35
                 by_cases c36 : (rd x7_2 (rd x9_2 x10_2)) < (t361.length : Int)
                 ·rw [if_pos c36] at H
                  have c36b0 : decide ((rd x7_2 (rd x9_2 x10_2)) < (t361.length : Int)) = true := oC_ c36
                  clear c36
                  obtain ⟨y379, hy379⟩ : ∃ y_ : List (S128), y_ = (([(⟨rd l0_0 (rd x9_2 x10_2), rd t358 (rd x7_2 (rd x9_2 x10_2))⟩ : S128), (⟨rd l0_1 (rd x9_2 x10_2), rd t361 (rd x7_2 (rd x9_2 x10_2))⟩ : S128)] : List (S128))) := ⟨_, rfl⟩
                  replace H : (Z38.l2 k2 t358 t361 x7_2 x9_2 x10_2 y379 (y379.length : Int) 0 l0_0 l0_1) = some r := by first | (rw [hy379]; with_reducible exact H) | (have H2_ := (oA_ _ _).symm.trans H; rw [hy379]; with_reducible exact H2_) | (have H2_ := (oA_ _ _).symm.trans H; with_reducible exact H2_) | with_reducible exact H | (rw [hy379]; exact H) | exact H
                  have Ny379 := A_ hy379
                  clear hy379
                  have H' := A_ H
                  clear H
                  obtain ⟨Ao37, co37, eo37⟩ := Kd.R_slice HO_9.out
                  subst eo37
                  have p372 : 0 ≤ (x10_2 : Int) := oB_ (by first | (with_reducible assumption) | assumption)
                  have q372 : x10_2 < (x9_2.length : Int) := oB_ (by first | (with_reducible assumption) | assumption)
                  obtain ⟨ad372, e372, hx372_0⟩ := Kd.at_int (Kd.R_reads' HO_9.out).2.2 x10_2 p372 q372
                  cases e372
                  replace p372 := eq_true p372
                  replace q372 := eq_true q372
                  try go_wp2
                  have n0_ := A_ (rC_ HO_5.out)
                  have n1_ := A_ (rC_ HO_6.out)
                  have n2_ := A_ (rC_ HO_7.out)
                  have n3_ := A_ (rC_ HO_9.out)
                  have n4_ := A_ (kB_ BK357.out)
                  have n5_ := A_ (bC_ HB.out)
                  clear HO_5
                  clear HO_6
                  clear HO_7
                  clear HO_9
                  clear BK357
                  clear HB
                  have HO_5 := n0_
                  have HO_6 := n1_
                  have HO_7 := n2_
                  have HO_9 := n3_
                  have BK357 := n4_
                  have HB := n5_
                  clear n0_ n1_ n2_ n3_ n4_ n5_
                  have p373 : 0 ≤ ((rd x9_2 x10_2) : Int) := oB_ (by first | (with_reducible assumption) | assumption)
                  have q373 : (rd x9_2 x10_2) < (l0_0.length : Int) := oB_ (by first | (with_reducible assumption) | assumption)
                  obtain ⟨ad373, e373, hx373_0⟩ := Kd.at_int HR0_0.out (rd x9_2 x10_2) p373 q373
                  have hw373_0 := hx373_0
                  cases e373
                  replace hx373_0 := (HB.out.cell (World.block_lt_of_cell? w _ hx373_0)).trans hx373_0
                  replace p373 := eq_true p373
                  replace q373 := eq_true q373
                  have p374 : 0 ≤ ((rd x9_2 x10_2) : Int) := oB_ (by first | (with_reducible assumption) | assumption)
                  have q374 : (rd x9_2 x10_2) < (x7_2.length : Int) := oB_ (by first | (with_reducible assumption) | assumption)
                  obtain ⟨ad374, e374, hx374_0⟩ := Kd.at_int (Kd.R_reads' HO_7.out).2.2 (rd x9_2 x10_2) p374 q374
                  obtain rfl : (⟨go23, 0, none⟩ : Addr) = ad374 := (by injection e374)
                  (first | simp only [add_plain] at hx374_0 | simp only [add_at] at hx374_0 | simp only [Addr.add, Nat.zero_add] at hx374_0 | skip)
                  replace p374 := eq_true p374
                  replace q374 := eq_true q374
                  obtain ⟨Ao39, co39, eo39⟩ := Kd.R_slice HO_5.out
                  (first | subst eo39 | (injection eo39 with f1_ f2_ f3_; have f4_ := f1_.symm; have f5_ := f3_.symm; clear f1_ f2_ f3_; subst f4_; subst f5_))
                  have p375 : 0 ≤ ((rd x7_2 (rd x9_2 x10_2)) : Int) := oB_ (by first | (with_reducible assumption) | assumption)
                  have q375 : (rd x7_2 (rd x9_2 x10_2)) < (t358.length : Int) := oB_ (by first | (with_reducible assumption) | assumption)
                  obtain ⟨ad375, e375, hx375_0⟩ := Kd.at_int (Kd.R_reads' HO_5.out).2.2 (rd x7_2 (rd x9_2 x10_2)) p375 q375
                  cases e375
                  replace p375 := eq_true p375
                  replace q375 := eq_true q375
                  have p376 : 0 ≤ ((rd x9_2 x10_2) : Int) := oB_ (by first | (with_reducible assumption) | assumption)
                  have q376 : (rd x9_2 x10_2) < (l0_1.length : Int) := oB_ (by first | (with_reducible assumption) | assumption)
                  obtain ⟨ad376, e376, hx376_0⟩ := Kd.at_int HR0_1.out (rd x9_2 x10_2) p376 q376
                  have hw376_0 := hx376_0
                  cases e376
                  replace hx376_0 := (HB.out.cell (World.block_lt_of_cell? w _ hx376_0)).trans hx376_0
                  replace p376 := eq_true p376
                  replace q376 := eq_true q376
                  have p377 : 0 ≤ ((rd x9_2 x10_2) : Int) := oB_ (by first | (with_reducible assumption) | assumption)
                  have q377 : (rd x9_2 x10_2) < (x7_2.length : Int) := oB_ (by first | (with_reducible assumption) | assumption)
                  obtain ⟨ad377, e377, hx377_0⟩ := Kd.at_int (Kd.R_reads' HO_7.out).2.2 (rd x9_2 x10_2) p377 q377
                  obtain rfl : (⟨go23, 0, none⟩ : Addr) = ad377 := (by injection e377)
                  (first | simp only [add_plain] at hx377_0 | simp only [add_at] at hx377_0 | simp only [Addr.add, Nat.zero_add] at hx377_0 | skip)
                  replace p377 := eq_true p377
                  replace q377 := eq_true q377
                  obtain ⟨Ao40, co40, eo40⟩ := Kd.R_slice HO_6.out
                  (first | subst eo40 | (injection eo40 with f1_ f2_ f3_; have f4_ := f1_.symm; have f5_ := f3_.symm; clear f1_ f2_ f3_; subst f4_; subst f5_))
                  have p378 : 0 ≤ ((rd x7_2 (rd x9_2 x10_2)) : Int) := oB_ (by first | (with_reducible assumption) | assumption)
                  have q378 : (rd x7_2 (rd x9_2 x10_2)) < (t361.length : Int) := oB_ (by first | (with_reducible assumption) | assumption)
                  obtain ⟨ad378, e378, hx378_0⟩ := Kd.at_int (Kd.R_reads' HO_6.out).2.2 (rd x7_2 (rd x9_2 x10_2)) p378 q378
                  cases e378
                  replace p378 := eq_true p378
                  replace q378 := eq_true q378
                  refine start_ (n := 29) (S := fun w' => w'.cell? ⟨gb357, 0, none⟩ = some (.slice (some ad373) l0_0.length c0_0) ∧ w'.cell? ⟨gb357, 1, none⟩ = some (.slice (some ad376) l0_1.length c0_1) ∧ w'.cell? (ad373.add ((rd x9_2 x10_2)).toNat) = some (.int .i64 (rd l0_0 (rd x9_2 x10_2))) ∧ w'.cell? ⟨go23, ((rd x9_2 x10_2)).toNat, none⟩ = some (.int .i64 (rd x7_2 (rd x9_2 x10_2))) ∧ w'.cell? (ad375.add ((rd x7_2 (rd x9_2 x10_2))).toNat) = some (.int .i64 (rd t358 (rd x7_2 (rd x9_2 x10_2)))) ∧ w'.cell? (ad376.add ((rd x9_2 x10_2)).toNat) = some (.int .i64 (rd l0_1 (rd x9_2 x10_2))) ∧ w'.cell? ⟨go23, ((rd x9_2 x10_2)).toNat, none⟩ = some (.int .i64 (rd x7_2 (rd x9_2 x10_2))) ∧ w'.cell? (ad378.add ((rd x7_2 (rd x9_2 x10_2))).toNat) = some (.int .i64 (rd t361 (rd x7_2 (rd x9_2 x10_2))))) (ds := []) #[false, false, false, false, false, false, false, false, false, false, false, false, false, false, false, false, false, false, false, false, false, false, false, false, false, false, false, false, false] (by kernel_rfl) rfl rfl ⟨(blk_cell BK357.out 0).trans rfl, (blk_cell BK357.out 1).trans rfl, ((HB.out.cell (World.block_lt_of_cell? w _ hw373_0)).trans hw373_0), hx374_0, hx375_0, ((HB.out.cell (World.block_lt_of_cell? w _ hw376_0)).trans hw376_0), hx377_0, hx378_0⟩ (fun hHeld => ?_); refine with_tabW Z38.tab15 Z38.bits15 (fun HT_ HW_ => ?_)
                  generalize wr.drew = w38 at HO_5 HO_6 HO_7 HO_9 BK357 HB hx373_0 hx374_0 hx375_0 hx376_0 hx377_0 hx378_0 hHeld ⊢
                  refine pure_ (i := 0) (N := some 47) (v := ?_) (a' := ?_) #[true, false, false, false, false, false, false, false, false, false, false, false, false, false, false, false, false, false, false, false, false, false, false, false, false, false, false, false, false] rfl rfl (any_of HT_.out (by kernel_rfl)) (fun _ _ _ h => h) (Or.inl ⟨by rfl, ?_⟩) ?_ ?_
                  rotate_left
                  ·intro w'
                   go_simp
                   with_reducible rfl
                  rotate_left
                  ·simp only [Act.put, sA_, sB_, sC_, i64_w, i32_w]
                   rfl
                  refine pure_ (i := 2) (N := some 49) (v := ?_) (a' := ?_) #[true, false, true, false, false, false, false, false, false, false, false, false, false, false, false, false, false, false, false, false, false, false, false, false, false, false, false, false, false] rfl rfl (any_of HT_.out (by kernel_rfl)) (fun _ _ _ h => h) (Or.inl ⟨by rfl, ?_⟩) ?_ ?_
                  rotate_left
                  ·intro w'
                   go_simp
                   with_reducible rfl
                  rotate_left
                  ·simp only [Act.put, sA_, sB_, sC_, i64_w, i32_w]
                   rfl
                  refine pure_ (i := 5) (N := some 52) (v := ?_) (a' := ?_) #[true, false, true, false, false, true, false, false, false, false, false, false, false, false, false, false, false, false, false, false, false, false, false, false, false, false, false, false, false] rfl rfl (any_of HT_.out (by kernel_rfl)) (fun _ _ _ h => h) (Or.inl ⟨by rfl, ?_⟩) ?_ ?_
                  rotate_left
                  ·intro w'
                   go_simp
                   with_reducible rfl
                  rotate_left
                  ·simp only [Act.put, sA_, sB_, sC_, i64_w, i32_w]
                   rfl
                  refine pure_ (i := 6) (N := some 53) (v := ?_) (a' := ?_) #[true, false, true, false, false, true, true, false, false, false, false, false, false, false, false, false, false, false, false, false, false, false, false, false, false, false, false, false, false] rfl rfl (any_of HT_.out (by kernel_rfl)) (fun _ _ _ h => h) (Or.inl ⟨by rfl, ?_⟩) ?_ ?_
                  rotate_left
                  ·intro w'
                   go_simp
                   with_reducible rfl
                  rotate_left
                  ·simp only [Act.put, sA_, sB_, sC_, i64_w, i32_w]
                   rfl
                  refine pure_ (i := 7) (N := some 54) (v := ?_) (a' := ?_) #[true, false, true, false, false, true, true, true, false, false, false, false, false, false, false, false, false, false, false, false, false, false, false, false, false, false, false, false, false] rfl rfl (any_of HT_.out (by kernel_rfl)) (fun _ _ _ h => h) (Or.inl ⟨by rfl, ?_⟩) ?_ ?_
                  rotate_left
                  ·intro w'
                   go_simp
                   with_reducible rfl
                  rotate_left
                  ·simp only [Act.put, sA_, sB_, sC_, i64_w, i32_w]
                   rfl
                  refine pure_ (i := 8) (N := some 55) (v := ?_) (a' := ?_) #[true, false, true, false, false, true, true, true, true, false, false, false, false, false, false, false, false, false, false, false, false, false, false, false, false, false, false, false, false] rfl rfl (any_of HT_.out (by kernel_rfl)) (fun _ _ _ h => h) (Or.inl ⟨by rfl, ?_⟩) ?_ ?_
                  rotate_left
                  ·intro w'
                   go_simp
                   with_reducible rfl
                  rotate_left
                  ·simp only [Act.put, sA_, sB_, sC_, i64_w, i32_w]
                   rfl
                  refine pure_ (i := 13) (N := some 60) (v := ?_) (a' := ?_) #[true, false, true, false, false, true, true, true, true, false, false, false, false, true, false, false, false, false, false, false, false, false, false, false, false, false, false, false, false] rfl rfl (any_of HT_.out (by kernel_rfl)) (fun _ _ _ h => h) (Or.inl ⟨by rfl, ?_⟩) ?_ ?_
                  rotate_left
                  ·intro w'
                   go_simp
                   with_reducible rfl
                  rotate_left
                  ·simp only [Act.put, sA_, sB_, sC_, i64_w, i32_w]
                   rfl
                  refine pure_ (i := 15) (N := some 62) (v := ?_) (a' := ?_) #[true, false, true, false, false, true, true, true, true, false, false, false, false, true, false, true, false, false, false, false, false, false, false, false, false, false, false, false, false] rfl rfl (any_of HT_.out (by kernel_rfl)) (fun _ _ _ h => h) (Or.inl ⟨by rfl, ?_⟩) ?_ ?_
                  rotate_left
                  ·intro w'
                   go_simp
                   with_reducible rfl
                  rotate_left
                  ·simp only [Act.put, sA_, sB_, sC_, i64_w, i32_w]
                   rfl
                  refine pure_ (i := 18) (N := some 65) (v := ?_) (a' := ?_) #[true, false, true, false, false, true, true, true, true, false, false, false, false, true, false, true, false, false, true, false, false, false, false, false, false, false, false, false, false] rfl rfl (any_of HT_.out (by kernel_rfl)) (fun _ _ _ h => h) (Or.inl ⟨by rfl, ?_⟩) ?_ ?_
                  rotate_left
                  ·intro w'
                   go_simp
                   with_reducible rfl
                  rotate_left
                  ·simp only [Act.put, sA_, sB_, sC_, i64_w, i32_w]
                   rfl
                  refine pure_ (i := 19) (N := some 66) (v := ?_) (a' := ?_) #[true, false, true, false, false, true, true, true, true, false, false, false, false, true, false, true, false, false, true, true, false, false, false, false, false, false, false, false, false] rfl rfl (any_of HT_.out (by kernel_rfl)) (fun _ _ _ h => h) (Or.inl ⟨by rfl, ?_⟩) ?_ ?_
                  rotate_left
                  ·intro w'
                   go_simp
                   with_reducible rfl
                  rotate_left
                  ·simp only [Act.put, sA_, sB_, sC_, i64_w, i32_w]
                   rfl
                  refine pure_ (i := 20) (N := some 67) (v := ?_) (a' := ?_) #[true, false, true, false, false, true, true, true, true, false, false, false, false, true, false, true, false, false, true, true, true, false, false, false, false, false, false, false, false] rfl rfl (any_of HT_.out (by kernel_rfl)) (fun _ _ _ h => h) (Or.inl ⟨by rfl, ?_⟩) ?_ ?_
                  rotate_left
                  ·intro w'
                   go_simp
                   with_reducible rfl
                  rotate_left
                  ·simp only [Act.put, sA_, sB_, sC_, i64_w, i32_w]
                   rfl
                  refine pure_ (i := 21) (N := some 68) (v := ?_) (a' := ?_) #[true, false, true, false, false, true, true, true, true, false, false, false, false, true, false, true, false, false, true, true, true, true, false, false, false, false, false, false, false] rfl rfl (any_of HT_.out (by kernel_rfl)) (fun _ _ _ h => h) (Or.inl ⟨by rfl, ?_⟩) ?_ ?_
                  rotate_left
                  ·intro w'
                   go_simp
                   with_reducible rfl
                  rotate_left
                  ·simp only [Act.put, sA_, sB_, sC_, i64_w, i32_w]
                   rfl
                  refine pure_ (i := 28) (N := some 75) (v := ?_) (a' := ?_) #[true, false, true, false, false, true, true, true, true, false, false, false, false, true, false, true, false, false, true, true, true, true, false, false, false, false, false, false, true] rfl rfl (any_of HT_.out (by kernel_rfl)) (fun _ _ _ h => h) (Or.inl ⟨by rfl, ?_⟩) ?_ ?_
                  rotate_left
                  ·intro w'
                   go_simp
                   with_reducible rfl
                  rotate_left
                  ·simp only [Act.put, sA_, sB_, sC_, i64_w, i32_w]
                   rfl
                  refine take_ (i := 1) (N := some 48) (v := ?_) (a' := ?_) #[true, true, true, false, false, true, true, true, true, false, false, false, false, true, false, true, false, false, true, true, true, true, false, false, false, false, false, false, true] rfl rfl (take_ofW HT_.out HW_.out (by kernel_rfl)) (fun _ _ _ h => h) (Or.inl ⟨by rfl, ?_⟩) hHeld ?_ ?_
                  rotate_left
                  ·rintro w' ⟨s0, s1, s2, s3, s4, s5, s6, s7⟩
                   go_simp
                   with_reducible rfl
                  rotate_left
                  ·simp only [Act.put, sA_, sB_, sC_, i64_w, i32_w]
                   rfl
                  refine pure_ (i := 3) (N := some 50) (v := ?_) (a' := ?_) #[true, true, true, true, false, true, true, true, true, false, false, false, false, true, false, true, false, false, true, true, true, true, false, false, false, false, false, false, true] rfl rfl (any_of HT_.out (by kernel_rfl)) (fun _ _ _ h => h) (Or.inl ⟨by rfl, ?_⟩) ?_ ?_
                  rotate_left
                  ·intro w'
                   go_simp
                   with_reducible rfl
                  rotate_left
                  ·simp only [Act.put, sA_, sB_, sC_, i64_w, i32_w]
                   rfl
                  refine take_ (i := 4) (N := some 51) (v := ?_) (a' := ?_) #[true, true, true, true, true, true, true, true, true, false, false, false, false, true, false, true, false, false, true, true, true, true, false, false, false, false, false, false, true] rfl rfl (take_ofW HT_.out HW_.out (by kernel_rfl)) (fun _ _ _ h => h) (Or.inl ⟨by rfl, ?_⟩) hHeld ?_ ?_
                  rotate_left
                  ·rintro w' ⟨s0, s1, s2, s3, s4, s5, s6, s7⟩
                   go_simp
                   with_reducible rfl
                  rotate_left
                  ·simp only [Act.put, sA_, sB_, sC_, i64_w, i32_w]
                   rfl
                  refine take_ (i := 9) (N := some 56) (v := ?_) (a' := ?_) #[true, true, true, true, true, true, true, true, true, true, false, false, false, true, false, true, false, false, true, true, true, true, false, false, false, false, false, false, true] rfl rfl (take_ofW HT_.out HW_.out (by kernel_rfl)) (fun _ _ _ h => h) (Or.inl ⟨by rfl, ?_⟩) hHeld ?_ ?_
                  rotate_left
                  ·rintro w' ⟨s0, s1, s2, s3, s4, s5, s6, s7⟩
                   go_simp
                   with_reducible rfl
                  rotate_left
                  ·simp only [Act.put, sA_, sB_, sC_, i64_w, i32_w]
                   rfl
                  refine pure_ (i := 10) (N := some 57) (v := ?_) (a' := ?_) #[true, true, true, true, true, true, true, true, true, true, true, false, false, true, false, true, false, false, true, true, true, true, false, false, false, false, false, false, true] rfl rfl (any_of HT_.out (by kernel_rfl)) (fun _ _ _ h => h) (Or.inl ⟨by rfl, ?_⟩) ?_ ?_
                  rotate_left
                  ·intro w'
                   go_simp
                   with_reducible rfl
                  rotate_left
                  ·simp only [Act.put, sA_, sB_, sC_, i64_w, i32_w]
                   rfl
                  refine take_ (i := 11) (N := some 58) (v := ?_) (a' := ?_) #[true, true, true, true, true, true, true, true, true, true, true, true, false, true, false, true, false, false, true, true, true, true, false, false, false, false, false, false, true] rfl rfl (take_ofW HT_.out HW_.out (by kernel_rfl)) (fun _ _ _ h => h) (Or.inl ⟨by rfl, ?_⟩) hHeld ?_ ?_
                  rotate_left
                  ·rintro w' ⟨s0, s1, s2, s3, s4, s5, s6, s7⟩
                   go_simp
                   with_reducible rfl
                  rotate_left
                  ·simp only [Act.put, sA_, sB_, sC_, i64_w, i32_w]
                   rfl
                  refine pure_ (i := 12) (N := some 59) (v := ?_) (a' := ?_) #[true, true, true, true, true, true, true, true, true, true, true, true, true, true, false, true, false, false, true, true, true, true, false, false, false, false, false, false, true] rfl rfl (any_of HT_.out (by kernel_rfl)) (fun _ _ _ h => h) (Or.inl ⟨by rfl, ?_⟩) ?_ ?_
                  rotate_left
                  ·intro w'
                   go_simp
                   with_reducible rfl
                  rotate_left
                  ·simp only [Act.put, sA_, sB_, sC_, i64_w, i32_w]
                   rfl
                  refine take_ (i := 14) (N := some 61) (v := ?_) (a' := ?_) #[true, true, true, true, true, true, true, true, true, true, true, true, true, true, true, true, false, false, true, true, true, true, false, false, false, false, false, false, true] rfl rfl (take_ofW HT_.out HW_.out (by kernel_rfl)) (fun _ _ _ h => h) (Or.inl ⟨by rfl, ?_⟩) hHeld ?_ ?_
                  rotate_left
                  ·rintro w' ⟨s0, s1, s2, s3, s4, s5, s6, s7⟩
                   go_simp
                   with_reducible rfl
                  rotate_left
                  ·simp only [Act.put, sA_, sB_, sC_, i64_w, i32_w]
                   rfl
                  refine pure_ (i := 16) (N := some 63) (v := ?_) (a' := ?_) #[true, true, true, true, true, true, true, true, true, true, true, true, true, true, true, true, true, false, true, true, true, true, false, false, false, false, false, false, true] rfl rfl (any_of HT_.out (by kernel_rfl)) (fun _ _ _ h => h) (Or.inl ⟨by rfl, ?_⟩) ?_ ?_
                  rotate_left
                  ·intro w'
                   go_simp
                   with_reducible rfl
                  rotate_left
                  ·simp only [Act.put, sA_, sB_, sC_, i64_w, i32_w]
                   rfl
                  refine take_ (i := 17) (N := some 64) (v := ?_) (a' := ?_) #[true, true, true, true, true, true, true, true, true, true, true, true, true, true, true, true, true, true, true, true, true, true, false, false, false, false, false, false, true] rfl rfl (take_ofW HT_.out HW_.out (by kernel_rfl)) (fun _ _ _ h => h) (Or.inl ⟨by rfl, ?_⟩) hHeld ?_ ?_
                  rotate_left
                  ·rintro w' ⟨s0, s1, s2, s3, s4, s5, s6, s7⟩
                   go_simp
                   with_reducible rfl
                  rotate_left
                  ·simp only [Act.put, sA_, sB_, sC_, i64_w, i32_w]
                   rfl
                  refine take_ (i := 22) (N := some 69) (v := ?_) (a' := ?_) #[true, true, true, true, true, true, true, true, true, true, true, true, true, true, true, true, true, true, true, true, true, true, true, false, false, false, false, false, true] rfl rfl (take_ofW HT_.out HW_.out (by kernel_rfl)) (fun _ _ _ h => h) (Or.inl ⟨by rfl, ?_⟩) hHeld ?_ ?_
                  rotate_left
                  ·rintro w' ⟨s0, s1, s2, s3, s4, s5, s6, s7⟩
                   go_simp
                   with_reducible rfl
                  rotate_left
                  ·simp only [Act.put, sA_, sB_, sC_, i64_w, i32_w]
                   rfl
                  refine pure_ (i := 23) (N := some 70) (v := ?_) (a' := ?_) #[true, true, true, true, true, true, true, true, true, true, true, true, true, true, true, true, true, true, true, true, true, true, true, true, false, false, false, false, true] rfl rfl (any_of HT_.out (by kernel_rfl)) (fun _ _ _ h => h) (Or.inl ⟨by rfl, ?_⟩) ?_ ?_
                  rotate_left
                  ·intro w'
                   go_simp
                   with_reducible rfl
                  rotate_left
                  ·simp only [Act.put, sA_, sB_, sC_, i64_w, i32_w]
                   rfl
                  refine take_ (i := 24) (N := some 71) (v := ?_) (a' := ?_) #[true, true, true, true, true, true, true, true, true, true, true, true, true, true, true, true, true, true, true, true, true, true, true, true, true, false, false, false, true] rfl rfl (take_ofW HT_.out HW_.out (by kernel_rfl)) (fun _ _ _ h => h) (Or.inl ⟨by rfl, ?_⟩) hHeld ?_ ?_
                  rotate_left
                  ·rintro w' ⟨s0, s1, s2, s3, s4, s5, s6, s7⟩
                   go_simp
                   with_reducible rfl
                  rotate_left
                  ·simp only [Act.put, sA_, sB_, sC_, i64_w, i32_w]
                   rfl
                  refine pure_ (i := 25) (N := some 72) (v := ?_) (a' := ?_) #[true, true, true, true, true, true, true, true, true, true, true, true, true, true, true, true, true, true, true, true, true, true, true, true, true, true, false, false, true] rfl rfl (any_of HT_.out (by kernel_rfl)) (fun _ _ _ h => h) (Or.inl ⟨by rfl, ?_⟩) ?_ ?_
                  rotate_left
                  ·intro w'
                   go_simp
                   with_reducible rfl
                  rotate_left
                  ·simp only [Act.put, sA_, sB_, sC_, i64_w, i32_w]
                   rfl
                  refine one_ (i := 26) (N := some 73) #[true, true, true, true, true, true, true, true, true, true, true, true, true, true, true, true, true, true, true, true, true, true, true, true, true, true, true, false, true] rfl rfl (one_of HT_.out (by kernel_rfl)) (by decide) (fun K hK => ?_)
                  refine Kd.R_lit_step k128 _ 128 ?hg (N := 73) ?hd (xs := ([(⟨rd l0_0 (rd x9_2 x10_2), rd t358 (rd x7_2 (rd x9_2 x10_2))⟩ : S128), (⟨rd l0_1 (rd x9_2 x10_2), rd t361 (rd x7_2 (rd x9_2 x10_2))⟩ : S128)] : List (S128))) (inner := [.int .i64 (rd l0_0 (rd x9_2 x10_2)), .int .i64 (rd t358 (rd x7_2 (rd x9_2 x10_2))), .int .i64 (rd l0_1 (rd x9_2 x10_2)), .int .i64 (rd t361 (rd x7_2 (rd x9_2 x10_2)))]) (ok := fun _ => True) (okp := fun _ => True) ?hr ?hp (fun _ hk => hk) trivial (Below.refl _ _) (nA_ _) (by simp) ?_; (case hd => rfl); (case hg => rfl); (case hr => first | (go_simp; done) | (go_simp; rfl)); (case hp => exact (Reps.c2 (show Kd.M k128 _ _ _ (⟨rd l0_0 (rd x9_2 x10_2), rd t358 (rd x7_2 (rd x9_2 x10_2))⟩ : S128) [.int .i64 (rd l0_0 (rd x9_2 x10_2)), .int .i64 (rd t358 (rd x7_2 (rd x9_2 x10_2)))] from (k128_mkM _ _ _ (⟨rd l0_0 (rd x9_2 x10_2), rd t358 (rd x7_2 (rd x9_2 x10_2))⟩ : S128) )) (Reps.c2 (show Kd.M k128 _ _ _ (⟨rd l0_1 (rd x9_2 x10_2), rd t361 (rd x7_2 (rd x9_2 x10_2))⟩ : S128) [.int .i64 (rd l0_1 (rd x9_2 x10_2)), .int .i64 (rd t361 (rd x7_2 (rd x9_2 x10_2)))] from (k128_mkM _ _ _ (⟨rd l0_1 (rd x9_2 x10_2), rd t361 (rd x7_2 (rd x9_2 x10_2))⟩ : S128) )) (Reps.none _ _))))
                  intro v380 w41 ho42 hb hg_ hnew_
                  have HS3_ := (hb.cell (World.block_lt_of_cell? _ _ (hHeld.2.2.2.1))).trans (hHeld.2.2.2.1)
                  have HS4_ := (hb.cell (World.block_lt_of_cell? _ _ (hHeld.2.2.2.2.1))).trans (hHeld.2.2.2.2.1)
                  have HS6_ := (hb.cell (World.block_lt_of_cell? _ _ (hHeld.2.2.2.2.2.2.1))).trans (hHeld.2.2.2.2.2.2.1)
                  have HS7_ := (hb.cell (World.block_lt_of_cell? _ _ (hHeld.2.2.2.2.2.2.2))).trans (hHeld.2.2.2.2.2.2.2)
                  clear hg_ hnew_
                  (first | rw [← Ny379.out] at ho42 | (simp only [Int.reduceToNat] at ho42; rw [← Ny379.out] at ho42))
                  have n0_ := A_ (rD_ (by (with_reducible repeat (first | apply rA_ | apply rB_ | apply rC_)); exact HO_5.out) hb)
                  have n1_ := A_ (rD_ (by (with_reducible repeat (first | apply rA_ | apply rB_ | apply rC_)); exact HO_6.out) hb)
                  have n2_ := A_ (rD_ (by (with_reducible repeat (first | apply rA_ | apply rB_ | apply rC_)); exact HO_7.out) hb)
                  have n3_ := A_ (rD_ (by (with_reducible repeat (first | apply rA_ | apply rB_ | apply rC_)); exact HO_9.out) hb)
                  have n4_ := A_ (rE_ ho42 (bF_ (by repeat (first | (with_reducible first | exact HB.out | apply bA_ | apply bB_ | apply bC_ | refine bD_ ?_ GE357.out) | exact HB.out))))
                  have n5_ := A_ (kE_ (g := gb357) (by (with_reducible repeat (first | refine kA_ ?_ _ | refine kB_ ?_ | refine kC_ ?_ _)); exact BK357.out) hb)
                  have n6_ := A_ (bE_ (by repeat (first | (with_reducible first | exact HB.out | apply bA_ | apply bB_ | apply bC_ | refine bD_ ?_ GE357.out) | exact HB.out)) hb)
                  clear HO_5
                  clear HO_6
                  clear HO_7
                  clear HO_9
                  clear BK357
                  clear HB
                  have HO_5 := n0_
                  have HO_6 := n1_
                  have HO_7 := n2_
                  have HO_9 := n3_
                  have HO381 := n4_
                  have BK357 := n5_
                  have HB := n6_
                  clear n0_ n1_ n2_ n3_ n4_ n5_ n6_
                  clear hb ho42
                  obtain ⟨Ao43, co43, eo43⟩ := Kd.R_slice HO381.out
                  (first | subst eo43 | (injection eo43 with f1_ f2_ f3_; have f4_ := f1_.symm; have f5_ := f3_.symm; clear f1_ f2_ f3_; subst f4_; subst f5_))
                  refine hK.out _ _ ⟨(blk_cell BK357.out 0).trans rfl, (blk_cell BK357.out 1).trans rfl, ((HB.out.cell (World.block_lt_of_cell? w _ hw373_0)).trans hw373_0), HS3_, HS4_, ((HB.out.cell (World.block_lt_of_cell? w _ hw376_0)).trans hw376_0), HS6_, HS7_⟩ (fun hHeld => ?_)
                  clear hK K
                  refine norm_ (a' := ?_) ?_ ?_
                  rotate_left
                  ·show Act.put _ (some 73) _ = _
                   simp only [Act.put, sA_, sB_, sC_, i64_w, i32_w]
                   rfl
                  refine pure_ (i := 27) (N := some 74) (v := ?_) (a' := ?_) #[true, true, true, true, true, true, true, true, true, true, true, true, true, true, true, true, true, true, true, true, true, true, true, true, true, true, true, true, true] rfl rfl (any_of HT_.out (by kernel_rfl)) (fun _ _ _ h => h) (Or.inl ⟨by rfl, ?_⟩) ?_ ?_
                  rotate_left
                  ·intro w'
                   go_simp
                   with_reducible rfl
                  rotate_left
                  ·simp only [Act.put, sA_, sB_, sC_, i64_w, i32_w]
                   rfl
                  refine done_ (done_of HT_.out (by kernel_rfl)) ?_
                  try go_wp2
                  go_loopg [9, 75] k2 (fun kq v9 v75 w' => ∃ (x7_3 : List Int) (x9_3 : List Int) (x75_3 : Int), v75 = .int .i64 x75_3 ∧ Aside0 (Z38.l2 kq t358 t361 x7_3 x9_3 x10_2 y379 (y379.length : Int) x75_3 l0_0 l0_1 = some r) ∧ Aside0 (kq ≤ k2) ∧ Aside0 (Kd.R (Kd.int .i64) 3 w' w.heap.size (fun k_ => some k_ ≠ ((.slice (some ad378) t361.length co40) : Value).ownBlock ∧ some k_ ≠ ((.slice (some ⟨go23, 0, none⟩) x7_2.length co15) : Value).ownBlock ∧ some k_ ≠ (v9 : Value).ownBlock) (.slice (some ad375) t358.length co39) t358) ∧ Aside0 (Kd.R (Kd.int .i64) 3 w' w.heap.size (fun k_ => some k_ ≠ ((.slice (some ad375) t358.length co39) : Value).ownBlock ∧ some k_ ≠ ((.slice (some ⟨go23, 0, none⟩) x7_2.length co15) : Value).ownBlock ∧ some k_ ≠ (v9 : Value).ownBlock) (.slice (some ad378) t361.length co40) t361) ∧ Aside0 (Kd.R (Kd.int .i64) 3 w' w.heap.size (fun k_ => some k_ ≠ ((.slice (some ad375) t358.length co39) : Value).ownBlock ∧ some k_ ≠ ((.slice (some ad378) t361.length co40) : Value).ownBlock ∧ some k_ ≠ (v9 : Value).ownBlock) (.slice (some ⟨go23, 0, none⟩) x7_2.length co15) x7_3) ∧ Aside0 (Kd.R (Kd.int .i64) 3 w' w.heap.size (fun k_ => some k_ ≠ ((.slice (some ad375) t358.length co39) : Value).ownBlock ∧ some k_ ≠ ((.slice (some ad378) t361.length co40) : Value).ownBlock ∧ some k_ ≠ ((.slice (some ⟨go23, 0, none⟩) x7_2.length co15) : Value).ownBlock) v9 x9_3) ∧ Aside0 (Kd.R k128 128 w' w.heap.size (fun _ => True) (.slice Ao43 y379.length co43) y379) ∧ Aside0 (w'.heap[gb357]? = some (.cells #[(.slice (some ad373) l0_0.length c0_0), (.slice (some ad376) l0_1.length c0_1)] 27 (0, 0))) ∧ Aside0 (Below w.heap.size w w'))
                  case atStart => exact ⟨(x7_2), (x9_2), (0), (by first | rfl | (simp; done) | (simp [*]; done)), H', ⟨nA_ _⟩, ⟨by (try simp only [hl7_1]); (try simp only [hl7_2]); (with_reducible repeat (first | apply rA_ | apply rB_ | apply rC_)); exact HO_5.out⟩, ⟨by (try simp only [hl7_1]); (try simp only [hl7_2]); (with_reducible repeat (first | apply rA_ | apply rB_ | apply rC_)); exact HO_6.out⟩, ⟨by (try simp only [hl7_1]); (try simp only [hl7_2]); (with_reducible repeat (first | apply rA_ | apply rB_ | apply rC_)); exact HO_7.out⟩, ⟨by (try simp only [hl7_1]); (try simp only [hl7_2]); (with_reducible repeat (first | apply rA_ | apply rB_ | apply rC_)); exact HO_9.out⟩, ⟨by (try simp only [hl7_1]); (try simp only [hl7_2]); (with_reducible repeat (first | apply rA_ | apply rB_ | apply rC_)); exact HO381.out⟩, ⟨by (try simp only [hl7_1]); (try simp only [hl7_2]); (with_reducible repeat (first | refine kA_ ?_ _ | refine kB_ ?_ | refine kC_ ?_ _)); exact BK357.out⟩, ⟨by repeat (first | (with_reducible first | exact HB.out | apply bA_ | apply bB_ | apply bC_ | refine bD_ ?_ GE357.out) | exact HB.out)⟩⟩
                  case round =>
                   clear H'
                   (try clear c1); (try clear p1); (try clear q1); (try clear hx1); (try clear c2); (try clear p2); (try clear q2); (try clear hx2); (try clear qi2); (try clear hf2); (try clear c3); (try clear p3); (try clear q3); (try clear hx3); (try clear c5); (try clear c5b0); (try clear c5b1); (try clear c6); (try clear c6b0); (try clear c6b1); (try clear p6); (try clear c10); (try clear c11); (try clear c16); (try clear c16b0); (try clear c17); (try clear c17b0); (try clear c18); (try clear c18b0); (try clear p19); (try clear q19); (try clear hx19); (try clear hf19); (try clear c22); (try clear c22b0); (try clear c22b1); (try clear p23); (try clear q23); (try clear hx23); (try clear qi23); (try clear hf23); (try clear c28); (try clear c28b0); (try clear c29); (try clear c29b0); (try clear c30); (try clear c30b0); (try clear c31); (try clear c31b0); (try clear c32); (try clear c32b0); (try clear c33); (try clear c33b0); (try clear c34); (try clear c34b0); (try clear c35); (try clear c35b0); (try clear c36); (try clear c36b0); (try clear p37); (try clear q37); (try clear hx37); (try clear hcz10_0); (try clear hcz10_1); (try clear hcz12_0); (try clear hcz12_1); (try clear hcz8_0); (try clear hcz8_1); (try clear hfz10_0); (try clear hfz10_1); (try clear hfz12_0); (try clear hfz12_1); (try clear hfz8_0); (try clear hfz8_1); (try clear hx19_0); (try clear hx23_0); (try clear hx372_0); (try clear hx373_0); (try clear hx374_0); (try clear hx375_0); (try clear hx376_0); (try clear hx377_0); (try clear hx378_0); (try clear p1); (try clear p19); (try clear p2); (try clear p23); (try clear p372); (try clear p373); (try clear p374); (try clear p375); (try clear p376); (try clear p377); (try clear p378); (try clear p6); (try clear q1); (try clear q19); (try clear q2); (try clear q23); (try clear q372); (try clear q373); (try clear q374); (try clear q375); (try clear q376); (try clear q377); (try clear q378)
                   obtain ⟨x7_3, x9_3, x75_3, rfl, HA, HK3, HO_5, HO_6, HO_7, HO_9, HO_73, BK357, HB⟩ := hrel
                   have hl7_3 := (Kd.R_reads' HO_7.out).1
                   rw [hl7_3] at HO_7
                   (try simp only [hl7_3])
                   (try simp only [hl7_3] at BK357)
                   (try simp only [hl7_3] at HO_5)
                   (try simp only [hl7_3] at HO_6)
                   (try simp only [hl7_3] at HO_9)
                   (try simp only [hl7_3] at HO_73)
                   cases gk with
                   | zero => exact absurd HA.out (by simp [Z38.l2])
                   | succ k3 =>
                    have H := HA.out
                    clear HA
                    simp only [Z38.l2] at H
                    by_cases c44 : x75_3 < (y379.length : Int)
                    ·rw [if_pos c44] at H
                     have c44b0 : decide (x75_3 < (y379.length : Int)) = true := oC_ c44
                     clear c44
                     by_cases c45 : 0 ≤ x75_3
                     ·rw [if_pos c45] at H
                      have c45b0 : decide (0 ≤ x75_3) = true := oC_ c45
                      clear c45
                      by_cases c46 : x75_3 < (y379.length : Int)
                      ·rw [if_pos c46] at H
                       have c46b0 : decide (x75_3 < (y379.length : Int)) = true := oC_ c46
                       clear c46
                       by_cases c47 : 0 ≤ ((rd_T128 y379 x75_3).f0)
                       ·rw [if_pos c47] at H
                        have c47b0 : decide (0 ≤ ((rd_T128 y379 x75_3).f0)) = true := oC_ c47
                        clear c47
                        by_cases c48 : ((rd_T128 y379 x75_3).f0) < (x7_3.length : Int)
                        ·rw [if_pos c48] at H
                         have c48b0 : decide (((rd_T128 y379 x75_3).f0) < (x7_3.length : Int)) = true := oC_ c48
                         clear c48
                         by_cases c49 : (rd x7_3 ((rd_T128 y379 x75_3).f0)) < 0
                         ·rw [if_pos c49] at H
                          have c49b0 : decide ((rd x7_3 ((rd_T128 y379 x75_3).f0)) < 0) = true := oC_ c49
                          clear c49
                          obtain ⟨y385, hy385⟩ : ∃ y_ : List Int, y_ = (x7_3.set (((rd_T128 y379 x75_3).f0) : Int).toNat ((rd_T128 y379 x75_3).f1)) := ⟨_, rfl⟩
                          replace H : (if x9_3.length < 17592186044416 then (Z38.l2 k3 t358 t361 y385 (x9_3 ++ [(rd_T128 y379 x75_3).f0]) x10_2 y379 (y379.length : Int) (wrap64 (x75_3 + 1)) l0_0 l0_1) else (none)) = some r := by first | (rw [hy385]; with_reducible exact H) | (have H2_ := (oA_ _ _).symm.trans H; rw [hy385]; with_reducible exact H2_) | (have H2_ := (oA_ _ _).symm.trans H; with_reducible exact H2_) | with_reducible exact H | (rw [hy385]; exact H) | exact H
                          have Ny385 := A_ hy385
                          clear hy385
                          by_cases c51 : x9_3.length < 17592186044416
                          ·rw [if_pos c51] at H
                           have LMc51 := A_ c51
                           clear c51
                           obtain ⟨y386, hy386⟩ : ∃ y_ : List Int, y_ = (x9_3 ++ [(rd_T128 y379 x75_3).f0]) := ⟨_, rfl⟩
                           replace H : (Z38.l2 k3 t358 t361 y385 y386 x10_2 y379 (y379.length : Int) (wrap64 (x75_3 + 1)) l0_0 l0_1) = some r := by first | (rw [hy386]; with_reducible exact H) | (have H2_ := (oA_ _ _).symm.trans H; rw [hy386]; with_reducible exact H2_) | (have H2_ := (oA_ _ _).symm.trans H; with_reducible exact H2_) | with_reducible exact H | (rw [hy386]; exact H) | exact H
                           have Ny386 := A_ hy386
                           clear hy386
                           have H' := A_ H
                           clear H
                           have p382 : 0 ≤ (x75_3 : Int) := oB_ (by first | (with_reducible assumption) | assumption)
                           have q382 : x75_3 < (y379.length : Int) := oB_ (by first | (with_reducible assumption) | assumption)
                           obtain ⟨ad382, e382, hx382_0, hx382_1⟩ := at_T128 (Kd.R_reads' HO_73.out).2.2 x75_3 p382 q382
                           cases e382
                           replace p382 := eq_true p382
                           replace q382 := eq_true q382
                           go_wp2_with (first | ((with_reducible refine gB_ (N := 13) rfl ?_); refine xA_ ?hg (N := 13) ?hd (cs := #[.int .i64 0, .int .i64 0]) (t := 128) ?hr ?_; (case hd => rfl); (case hg => rfl); (case hr => first | (go_simp; done) | (go_simp; rfl)); intro gb383 hg w52 hbox hb; have n0_ := A_ (rD_ (by (with_reducible repeat (first | apply rA_ | apply rB_ | apply rC_)); exact HO_5.out) hb); have n1_ := A_ (rD_ (by (with_reducible repeat (first | apply rA_ | apply rB_ | apply rC_)); exact HO_6.out) hb); have n2_ := A_ (rD_ (by (with_reducible repeat (first | apply rA_ | apply rB_ | apply rC_)); exact HO_7.out) hb); have n3_ := A_ (rD_ (by (with_reducible repeat (first | apply rA_ | apply rB_ | apply rC_)); exact HO_9.out) hb); have n4_ := A_ (rD_ (Kd.R_elderB (by (with_reducible repeat (first | apply rA_ | apply rB_ | apply rC_)); exact HO_73.out) gb383 (Nat.le_of_eq hg.symm)) hb); have n5_ := A_ (kE_ (g := gb357) (by (with_reducible repeat (first | refine kA_ ?_ _ | refine kB_ ?_ | refine kC_ ?_ _)); exact BK357.out) hb); have n6_ := A_ (bE_ (by repeat (first | (with_reducible first | exact HB.out | apply bA_ | apply bB_ | apply bC_ | refine bD_ ?_ GE357.out) | exact HB.out)) hb); have n7_ := A_ (hbox); have n8_ := A_ ((by rw [hg]; exact (bF_ (by repeat (first | (with_reducible first | exact HB.out | apply bA_ | apply bB_ | apply bC_ | refine bD_ ?_ GE357.out) | exact HB.out))) : w.heap.size ≤ gb383)); have n9_ := A_ ((by rw [hg]; exact (bF_ (by repeat (first | (with_reducible first | exact HB.out | apply bA_ | apply bB_ | apply bC_ | refine bD_ ?_ GE357.out) | exact HB.out))) : w.heap.size ≤ gb383)); have n10_ := A_ ((by rw [hg]; exact Nat.ne_of_lt (blk_lt (g := gb357) (o := .cells #[.slice (some ad373) l0_0.length c0_0, .slice (some ad376) l0_1.length c0_1] 27 (0, 0)) (by (with_reducible repeat (first | refine kA_ ?_ _ | refine kB_ ?_ | refine kC_ ?_ _)); exact BK357.out)) : gb357 ≠ gb383)); have n11_ := A_ ((by rw [hg]; exact Nat.ne_of_gt (blk_lt (g := gb357) (o := .cells #[.slice (some ad373) l0_0.length c0_0, .slice (some ad376) l0_1.length c0_1] 27 (0, 0)) (by (with_reducible repeat (first | refine kA_ ?_ _ | refine kB_ ?_ | refine kC_ ?_ _)); exact BK357.out)) : gb383 ≠ gb357)); clear HO_5; clear HO_6; clear HO_7; clear HO_9; clear HO_73; clear BK357; clear HB; have HO_5 := n0_; have HO_6 := n1_; have HO_7 := n2_; have HO_9 := n3_; have HO_73 := n4_; have BK357 := n5_; have HB := n6_; have BK383 := n7_; have GW383 := n8_; have GE383 := n9_; have NB357_383 := n10_; have NB383_357 := n11_; clear n0_ n1_ n2_ n3_ n4_ n5_ n6_ n7_ n8_ n9_ n10_ n11_; clear hb hbox hg; have hnb53 := NB383_357.out; have hnc53 := NB357_383.out; have hcz54_0 := cz0_ BK383.out; have hcz54_1 := cz1_ BK383.out; have hfz54_0 := kD_ BK383.out 0; have hfz54_1 := kD_ BK383.out 1) | ((with_reducible refine gate_store (t := 128) (p := 13) rfl ?_); refine store_event (t := 128) (p := 13) (v := ?vo_w55) (w1 := ((w52.setCell ⟨gb383, 0, none⟩ (.int .i64 ((rd_T128 y379 x75_3).f0))).setCell ⟨gb383, 1, none⟩ (.int .i64 ((rd_T128 y379 x75_3).f1)))) ?hg ?ho ?hn ?hr ?_; (case ho => rfl); (case hg => rfl); (case hn => rfl); (case hr => first | (go_simp; done) | (go_simp; rfl)); intro w55 hw; have n0_ : Aside0 (Kd.R (Kd.int .i64) 3 w55 w.heap.size (fun k_ => some k_ ≠ (.slice (some ad378) t361.length co40 : Value).ownBlock ∧ some k_ ≠ (.slice (some ⟨go23, 0, none⟩) x7_3.length co15 : Value).ownBlock ∧ some k_ ≠ (u9 : Value).ownBlock) (.slice (some ad375) t358.length co39) t358) := ⟨(by rw [hw]; exact (by (with_reducible repeat (first | apply rA_ | apply rB_ | apply rC_)); exact Kd.R_mono (Kd.R_far (p := ⟨gb383, 1, none⟩) (Kd.R_far (p := ⟨gb383, 0, none⟩) (Kd.R_types HO_5.out BK383.out (by decide)) (fun _ hk => hk.2) (.int .i64 ((rd_T128 y379 x75_3).f0))) (fun _ hk => hk.2) (.int .i64 ((rd_T128 y379 x75_3).f1))) (fun _ hk => ⟨hk.1.1, ⟨hk.1.2.1, hk.1.2.2⟩⟩)))⟩; have n1_ : Aside0 (Kd.R (Kd.int .i64) 3 w55 w.heap.size (fun k_ => some k_ ≠ (.slice (some ad375) t358.length co39 : Value).ownBlock ∧ some k_ ≠ (.slice (some ⟨go23, 0, none⟩) x7_3.length co15 : Value).ownBlock ∧ some k_ ≠ (u9 : Value).ownBlock) (.slice (some ad378) t361.length co40) t361) := ⟨(by rw [hw]; exact (by (with_reducible repeat (first | apply rA_ | apply rB_ | apply rC_)); exact Kd.R_mono (Kd.R_far (p := ⟨gb383, 1, none⟩) (Kd.R_far (p := ⟨gb383, 0, none⟩) (Kd.R_types HO_6.out BK383.out (by decide)) (fun _ hk => hk.2) (.int .i64 ((rd_T128 y379 x75_3).f0))) (fun _ hk => hk.2) (.int .i64 ((rd_T128 y379 x75_3).f1))) (fun _ hk => ⟨hk.1.1, ⟨hk.1.2.1, hk.1.2.2⟩⟩)))⟩; have n2_ : Aside0 (Kd.R (Kd.int .i64) 3 w55 w.heap.size (fun k_ => some k_ ≠ (.slice (some ad375) t358.length co39 : Value).ownBlock ∧ some k_ ≠ (.slice (some ad378) t361.length co40 : Value).ownBlock ∧ some k_ ≠ (u9 : Value).ownBlock) (.slice (some ⟨go23, 0, none⟩) x7_3.length co15) x7_3) := ⟨(by rw [hw]; exact (by (with_reducible repeat (first | apply rA_ | apply rB_ | apply rC_)); exact Kd.R_mono (Kd.R_far (p := ⟨gb383, 1, none⟩) (Kd.R_far (p := ⟨gb383, 0, none⟩) (Kd.R_types HO_7.out BK383.out (by decide)) (fun _ hk => hk.2) (.int .i64 ((rd_T128 y379 x75_3).f0))) (fun _ hk => hk.2) (.int .i64 ((rd_T128 y379 x75_3).f1))) (fun _ hk => ⟨hk.1.1, ⟨hk.1.2.1, hk.1.2.2⟩⟩)))⟩; have n3_ : Aside0 (Kd.R (Kd.int .i64) 3 w55 w.heap.size (fun k_ => some k_ ≠ (.slice (some ad375) t358.length co39 : Value).ownBlock ∧ some k_ ≠ (.slice (some ad378) t361.length co40 : Value).ownBlock ∧ some k_ ≠ (.slice (some ⟨go23, 0, none⟩) x7_3.length co15 : Value).ownBlock) u9 x9_3) := ⟨(by rw [hw]; exact (by (with_reducible repeat (first | apply rA_ | apply rB_ | apply rC_)); exact Kd.R_mono (Kd.R_far (p := ⟨gb383, 1, none⟩) (Kd.R_far (p := ⟨gb383, 0, none⟩) (Kd.R_types HO_9.out BK383.out (by decide)) (fun _ hk => hk.2) (.int .i64 ((rd_T128 y379 x75_3).f0))) (fun _ hk => hk.2) (.int .i64 ((rd_T128 y379 x75_3).f1))) (fun _ hk => ⟨hk.1.1, ⟨hk.1.2.1, hk.1.2.2⟩⟩)))⟩; have n4_ : Aside0 (Kd.R k128 128 w55 w.heap.size (fun k_ => k_ ≠ gb383) (.slice (some ad382) y379.length co43) y379) := ⟨(by rw [hw]; exact (by (with_reducible repeat (first | apply rA_ | apply rB_ | apply rC_)); exact Kd.R_mono (Kd.R_far (p := ⟨gb383, 1, none⟩) (Kd.R_far (p := ⟨gb383, 0, none⟩) (Kd.R_mono HO_73.out (fun k_ hk => (⟨hk, hk.2⟩ : _ ∧ k_ ≠ gb383))) (fun _ hk => hk.2) (.int .i64 ((rd_T128 y379 x75_3).f0))) (fun _ hk => hk.2) (.int .i64 ((rd_T128 y379 x75_3).f1))) (fun _ hk => hk.1.2)))⟩; have n5_ : Aside0 (w55.heap[gb357]? = some (.cells #[.slice (some ad373) l0_0.length c0_0, .slice (some ad376) l0_1.length c0_1] 27 (0, 0))) := ⟨(by rw [hw]; exact (by (with_reducible repeat (first | refine kA_ ?_ _ | refine kB_ ?_ | refine kC_ ?_ _)); refine blk_far ?_ NB357_383.out _; (with_reducible repeat (first | refine kA_ ?_ _ | refine kB_ ?_ | refine kC_ ?_ _)); refine blk_far ?_ NB357_383.out _; (with_reducible repeat (first | refine kA_ ?_ _ | refine kB_ ?_ | refine kC_ ?_ _)); exact BK357.out))⟩; have n6_ : Aside0 (w55.heap[gb383]? = some (.cells #[.int .i64 ((rd_T128 y379 x75_3).f0), .int .i64 ((rd_T128 y379 x75_3).f1)] 128 (0, 0))) := ⟨(by rw [hw]; exact (by (with_reducible repeat (first | refine kA_ ?_ _ | refine kB_ ?_ | refine kC_ ?_ _)); refine blk_put (cs := #[.int .i64 ((rd_T128 y379 x75_3).f0), .int .i64 0]) ?_ 1 _ rfl; (with_reducible repeat (first | refine kA_ ?_ _ | refine kB_ ?_ | refine kC_ ?_ _)); refine blk_put (cs := #[.int .i64 0, .int .i64 0]) ?_ 0 _ rfl; (with_reducible repeat (first | refine kA_ ?_ _ | refine kB_ ?_ | refine kC_ ?_ _)); exact BK383.out))⟩; have n7_ : Aside0 (Below w.heap.size w w55) := ⟨(by rw [hw]; exact (by repeat (first | (with_reducible first | exact HB.out | apply bA_ | apply bB_ | apply bC_ | refine bD_ ?_ GE357.out | refine bD_ ?_ GE383.out) | exact HB.out)))⟩; clear hw; clear HO_5; clear HO_6; clear HO_7; clear HO_9; clear HO_73; clear BK357; clear BK383; clear HB; have HO_5 := n0_; have HO_6 := n1_; have HO_7 := n2_; have HO_9 := n3_; have HO_73 := n4_; have BK357 := n5_; have BK383 := n6_; have HB := n7_; clear n0_ n1_ n2_ n3_ n4_ n5_ n6_ n7_; have hcz56_0 := cz0_ BK383.out; have hcz56_1 := cz1_ BK383.out; have hfz56_0 := kD_ BK383.out 0; have hfz56_1 := kD_ BK383.out 1; have p384 : 0 ≤ (((rd_T128 y379 x75_3).f0) : Int) := oB_ (by first | (with_reducible assumption) | assumption); have q384 : ((rd_T128 y379 x75_3).f0) < (x7_3.length : Int) := oB_ (by first | (with_reducible assumption) | assumption); obtain ⟨ad384, e384, hx384_0⟩ := Kd.at_int (Kd.R_reads' HO_7.out).2.2 ((rd_T128 y379 x75_3).f0) p384 q384; obtain rfl : (⟨go23, 0, none⟩ : Addr) = ad384 := (by injection e384); (first | simp only [add_plain] at hx384_0 | simp only [add_at] at hx384_0 | simp only [Addr.add, Nat.zero_add] at hx384_0 | skip); replace p384 := eq_true p384; replace q384 := eq_true q384; have p50 : 0 ≤ (((rd_T128 y379 x75_3).f0) : Int) := oB_ (by first | (with_reducible assumption) | assumption); have q50 : (((rd_T128 y379 x75_3).f0) : Int) < ((x7_3.length : Int) : Int) := oB_ (by first | (with_reducible assumption) | assumption); obtain ⟨hx50_0, hf50_0⟩ := Kd.R_celln 0 HO_7.out (((rd_T128 y379 x75_3).f0) : Int) p50 q50; replace p50 := eq_true p50; replace q50 := eq_true q50; obtain ⟨hy57_, hz57_⟩ := Kd.R_celln 0 HO_7.out (((rd_T128 y379 x75_3).f0) : Int) (oB_ (by first | (with_reducible assumption) | assumption)) (oB_ (by first | (with_reducible assumption) | assumption)); have HP57 := Kd.R_putg HO_7.out (((rd_T128 y379 x75_3).f0) : Int) ((rd_T128 y379 x75_3).f1)) | ((with_reducible refine gate_store (t := 3) (p := 90) rfl ?_); refine store_event (t := 3) (p := 90) (v := ?vo_w58) (w1 := (w55.setCell ⟨go23, (((rd_T128 y379 x75_3).f0) : Int).toNat, none⟩ (.int .i64 ((rd_T128 y379 x75_3).f1)))) ?hg ?ho ?hn ?hr ?_; (case ho => rfl); (case hg => rfl); (case hn => rfl); (case hr => first | (go_simp; done) | (go_simp; rfl)); intro w58 hw; have hg : w55.grownBy w58 (some go23) := (by rw [hw]; exact HP57.2); have hp_ : Kd.R (Kd.int .i64) 3 w58 w.heap.size (fun k_ => some k_ ≠ (.slice (some ad375) t358.length co39 : Value).ownBlock ∧ some k_ ≠ (.slice (some ad378) t361.length co40 : Value).ownBlock ∧ some k_ ≠ (u9 : Value).ownBlock) (.slice (some ⟨go23, 0, none⟩) x7_3.length co15) y385 := (by rw [hw, Ny385.out]; exact HP57.1); clear HP57; have n0_ := A_ (Kd.R_after (v := (.slice (some ⟨go23, 0, none⟩) x7_3.length co15)) (v1 := (.slice (some ⟨go23, 0, none⟩) x7_3.length co15)) (ok := (fun k_ => some k_ ≠ (.slice (some ad378) t361.length co40 : Value).ownBlock ∧ some k_ ≠ (u9 : Value).ownBlock)) (by (with_reducible repeat (first | apply rA_ | apply rB_ | apply rC_)); exact Kd.R_mono HO_5.out (fun _ hk => ⟨⟨hk.1, hk.2.2⟩, hk.2.1⟩)) hg (.inl rfl)); have n1_ := A_ (Kd.R_after (v := (.slice (some ⟨go23, 0, none⟩) x7_3.length co15)) (v1 := (.slice (some ⟨go23, 0, none⟩) x7_3.length co15)) (ok := (fun k_ => some k_ ≠ (.slice (some ad375) t358.length co39 : Value).ownBlock ∧ some k_ ≠ (u9 : Value).ownBlock)) (by (with_reducible repeat (first | apply rA_ | apply rB_ | apply rC_)); exact Kd.R_mono HO_6.out (fun _ hk => ⟨⟨hk.1, hk.2.2⟩, hk.2.1⟩)) hg (.inl rfl)); have n2_ := A_ (hp_); have n3_ := A_ (Kd.R_after (v := (.slice (some ⟨go23, 0, none⟩) x7_3.length co15)) (v1 := (.slice (some ⟨go23, 0, none⟩) x7_3.length co15)) (ok := (fun k_ => some k_ ≠ (.slice (some ad375) t358.length co39 : Value).ownBlock ∧ some k_ ≠ (.slice (some ad378) t361.length co40 : Value).ownBlock)) (by (with_reducible repeat (first | apply rA_ | apply rB_ | apply rC_)); exact Kd.R_mono HO_9.out (fun _ hk => ⟨⟨hk.1, hk.2.1⟩, hk.2.2⟩)) hg (.inl rfl)); have n4_ := A_ (Kd.R_over' (v := (.slice (some ⟨go23, 0, none⟩) x7_3.length co15)) (by (with_reducible repeat (first | apply rA_ | apply rB_ | apply rC_)); exact HO_73.out) (Kd.R_typed HO_7.out) (by decide) hg); have n5_ := A_ (blk_grown (g := gb357) (o := .cells #[.slice (some ad373) l0_0.length c0_0, .slice (some ad376) l0_1.length c0_1] 27 (0, 0)) (by (with_reducible repeat (first | refine kA_ ?_ _ | refine kB_ ?_ | refine kC_ ?_ _)); exact BK357.out) hg (Kd.R_ne HO_7.out BK357.out (by decide))); have n6_ := A_ (blk_grown (g := gb383) (o := .cells #[.int .i64 ((rd_T128 y379 x75_3).f0), .int .i64 ((rd_T128 y379 x75_3).f1)] 128 (0, 0)) (by (with_reducible repeat (first | refine kA_ ?_ _ | refine kB_ ?_ | refine kC_ ?_ _)); exact BK383.out) hg (Kd.R_ne HO_7.out BK383.out (by decide))); have n7_ := A_ ((by rw [hw]; exact bD_ (HB.out) GB23.out : Below w.heap.size w w58)); clear HO_5; clear HO_6; clear HO_7; clear HO_9; clear HO_73; clear BK357; clear BK383; clear HB; have HO_5 := n0_; have HO_6 := n1_; have HO_7 := n2_; have HO_9 := n3_; have HO_73 := n4_; have BK357 := n5_; have BK383 := n6_; have HB := n7_; clear n0_ n1_ n2_ n3_ n4_ n5_ n6_ n7_; clear hg hw hp_; have hcz59_0 := cz0_ BK383.out; have hcz59_1 := cz1_ BK383.out; have hfz59_0 := kD_ BK383.out 0; have hfz59_1 := kD_ BK383.out 1) | ((with_reducible refine gate_builtin (b := .append) (xs := #[.tmp 91, .tmp 94]) rfl ?_); at_builtin; refine Kd.R_append (Kd.int .i64) (w0 := w) w.heap.size rfl (.tmp 91) (.tmp 94) 22 3 (.int .i64 0) 8 rfl Try.underlying22 info3 rfl (by decide) (by omega) u9 x9_3 ((rd_T128 y379 x75_3).f0) [.int .i64 ((rd_T128 y379 x75_3).f0)] (fun k_ => some k_ ≠ (.slice (some ad375) t358.length co39 : Value).ownBlock ∧ some k_ ≠ (.slice (some ad378) t361.length co40 : Value).ownBlock ∧ some k_ ≠ (.slice (some ⟨go23, 0, none⟩) x7_3.length co15 : Value).ownBlock) (fun _ => False) rfl rfl ?aP (fun _ hk => hk.elim) ?aF ?aO ?aB ?aS ?aL ?_; (case aP => exact rfl); (case aB => exact (by repeat (first | (with_reducible first | exact HB.out | apply bA_ | apply bB_ | apply bC_ | refine bD_ ?_ GE357.out | refine bD_ ?_ GE383.out) | exact HB.out))); (case aF => exact (fun k_ hk => ⟨Kd.fresh' (Kd.R_lt (by (with_reducible repeat (first | apply rA_ | apply rB_ | apply rC_)); exact HO_5.out)) k_ hk, Kd.fresh' (Kd.R_lt (by (with_reducible repeat (first | apply rA_ | apply rB_ | apply rC_)); exact HO_6.out)) k_ hk, Kd.fresh' (Kd.R_lt (by (with_reducible repeat (first | apply rA_ | apply rB_ | apply rC_)); exact HO_7.out)) k_ hk⟩)); (case aO => exact (by (with_reducible repeat (first | apply rA_ | apply rB_ | apply rC_)); exact Kd.R_mono HO_9.out (fun _ hk => ⟨hk.1.1, ⟨hk.1.2, hk.2⟩⟩))); (case aS => exact (bF_ (by repeat (first | (with_reducible first | exact HB.out | apply bA_ | apply bB_ | apply bC_ | refine bD_ ?_ GE357.out | refine bD_ ?_ GE383.out) | exact HB.out)))); (case aL => have := LMc51.out; omega); intro v387 w60 ho hb hg hat; rw [← Ny386.out] at ho; have n0_ := A_ (Kd.R_after (ok := (fun k_ => some k_ ≠ (.slice (some ad378) t361.length co40 : Value).ownBlock ∧ some k_ ≠ (.slice (some ⟨go23, 0, none⟩) x7_3.length co15 : Value).ownBlock)) (by (with_reducible repeat (first | apply rA_ | apply rB_ | apply rC_)); exact Kd.R_mono HO_5.out (fun _ hk => ⟨⟨hk.1.1, hk.2⟩, hk.1.2⟩)) hg hat); have n1_ := A_ (Kd.R_after (ok := (fun k_ => some k_ ≠ (.slice (some ad375) t358.length co39 : Value).ownBlock ∧ some k_ ≠ (.slice (some ⟨go23, 0, none⟩) x7_3.length co15 : Value).ownBlock)) (by (with_reducible repeat (first | apply rA_ | apply rB_ | apply rC_)); exact Kd.R_mono HO_6.out (fun _ hk => ⟨⟨hk.1.1, hk.2⟩, hk.1.2⟩)) hg hat); have n2_ := A_ (Kd.R_after (ok := (fun k_ => some k_ ≠ (.slice (some ad375) t358.length co39 : Value).ownBlock ∧ some k_ ≠ (.slice (some ad378) t361.length co40 : Value).ownBlock)) (by (with_reducible repeat (first | apply rA_ | apply rB_ | apply rC_)); exact Kd.R_mono HO_7.out (fun _ hk => ⟨⟨hk.1, hk.2.1⟩, hk.2.2⟩)) hg hat); have n3_ := A_ (Kd.R_over' (by (with_reducible repeat (first | apply rA_ | apply rB_ | apply rC_)); exact HO_73.out) (Kd.R_typed (by (with_reducible repeat (first | apply rA_ | apply rB_ | apply rC_)); exact HO_9.out)) (by decide) hg); have n4_ := A_ (blk_grown (g := gb357) (o := .cells #[.slice (some ad373) l0_0.length c0_0, .slice (some ad376) l0_1.length c0_1] 27 (0, 0)) (by (with_reducible repeat (first | refine kA_ ?_ _ | refine kB_ ?_ | refine kC_ ?_ _)); exact BK357.out) hg (Kd.R_ne HO_9.out BK357.out (by decide))); have n5_ := A_ (blk_grown (g := gb383) (o := .cells #[.int .i64 ((rd_T128 y379 x75_3).f0), .int .i64 ((rd_T128 y379 x75_3).f1)] 128 (0, 0)) (by (with_reducible repeat (first | refine kA_ ?_ _ | refine kB_ ?_ | refine kC_ ?_ _)); exact BK383.out) hg (Kd.R_ne HO_9.out BK383.out (by decide))); have n6_ := A_ (hb); have n7_ := A_ (ho); clear HO_5; clear HO_6; clear HO_7; clear HO_73; clear BK357; clear BK383; clear HB; clear HO_9; have HO_5 := n0_; have HO_6 := n1_; have HO_7 := n2_; have HO_73 := n3_; have BK357 := n4_; have BK383 := n5_; have HB := n6_; have HO388 := n7_; clear n0_ n1_ n2_ n3_ n4_ n5_ n6_ n7_; clear ho hb hg hat))
                           (try simp only [← hl7_3])
                           go_roundg k3
                           case measure => have := HK1.out; have := HK2.out; have := HK3.out; omega
                           case rel => exact ⟨(y385), (y386), (wrap64 (x75_3 + 1)), (by first | rfl | (simp; done) | (simp [*]; done)), H', ⟨by have := HK1.out; have := HK2.out; have := HK3.out; omega⟩, ⟨by (try simp only [hl7_1]); (try simp only [hl7_2]); (try simp only [hl7_3]); (with_reducible repeat (first | apply rA_ | apply rB_ | apply rC_)); exact Kd.R_mono HO_5.out (fun _ hk => ⟨hk.1.1, ⟨hk.1.2, hk.2⟩⟩)⟩, ⟨by (try simp only [hl7_1]); (try simp only [hl7_2]); (try simp only [hl7_3]); (with_reducible repeat (first | apply rA_ | apply rB_ | apply rC_)); exact Kd.R_mono HO_6.out (fun _ hk => ⟨hk.1.1, ⟨hk.1.2, hk.2⟩⟩)⟩, ⟨by (try simp only [hl7_1]); (try simp only [hl7_2]); (try simp only [hl7_3]); (with_reducible repeat (first | apply rA_ | apply rB_ | apply rC_)); exact Kd.R_mono HO_7.out (fun _ hk => ⟨hk.1.1, ⟨hk.1.2, hk.2⟩⟩)⟩, ⟨by (try simp only [hl7_1]); (try simp only [hl7_2]); (try simp only [hl7_3]); (with_reducible repeat (first | apply rA_ | apply rB_ | apply rC_)); exact HO388.out⟩, ⟨by (try simp only [hl7_1]); (try simp only [hl7_2]); (try simp only [hl7_3]); (with_reducible repeat (first | apply rA_ | apply rB_ | apply rC_)); exact Kd.R_mono HO_73.out (fun _ hk => trivial)⟩, ⟨by (try simp only [hl7_1]); (try simp only [hl7_2]); (try simp only [hl7_3]); (with_reducible repeat (first | refine kA_ ?_ _ | refine kB_ ?_ | refine kC_ ?_ _)); exact BK357.out⟩, ⟨by repeat (first | (with_reducible first | exact HB.out | apply bA_ | apply bB_ | apply bC_ | refine bD_ ?_ GE357.out | refine bD_ ?_ GE383.out) | exact HB.out)⟩⟩
                          ·rw [if_neg c51] at H
                           exact absurd H (by simp)
                         ·rw [if_neg c49] at H
                          have c49b0 : decide ((rd x7_3 ((rd_T128 y379 x75_3).f0)) < 0) = false := oD_ c49
                          clear c49
                          have H' := A_ H
                          clear H
                          have p382 : 0 ≤ (x75_3 : Int) := oB_ (by first | (with_reducible assumption) | assumption)
                          have q382 : x75_3 < (y379.length : Int) := oB_ (by first | (with_reducible assumption) | assumption)
                          obtain ⟨ad382, e382, hx382_0, hx382_1⟩ := at_T128 (Kd.R_reads' HO_73.out).2.2 x75_3 p382 q382
                          cases e382
                          replace p382 := eq_true p382
                          replace q382 := eq_true q382
                          go_wp2_with (first | ((with_reducible refine gB_ (N := 13) rfl ?_); refine xA_ ?hg (N := 13) ?hd (cs := #[.int .i64 0, .int .i64 0]) (t := 128) ?hr ?_; (case hd => rfl); (case hg => rfl); (case hr => first | (go_simp; done) | (go_simp; rfl)); intro gb383 hg w61 hbox hb; have n0_ := A_ (rD_ (by (with_reducible repeat (first | apply rA_ | apply rB_ | apply rC_)); exact HO_5.out) hb); have n1_ := A_ (rD_ (by (with_reducible repeat (first | apply rA_ | apply rB_ | apply rC_)); exact HO_6.out) hb); have n2_ := A_ (rD_ (by (with_reducible repeat (first | apply rA_ | apply rB_ | apply rC_)); exact HO_7.out) hb); have n3_ := A_ (rD_ (by (with_reducible repeat (first | apply rA_ | apply rB_ | apply rC_)); exact HO_9.out) hb); have n4_ := A_ (rD_ (Kd.R_elderB (by (with_reducible repeat (first | apply rA_ | apply rB_ | apply rC_)); exact HO_73.out) gb383 (Nat.le_of_eq hg.symm)) hb); have n5_ := A_ (kE_ (g := gb357) (by (with_reducible repeat (first | refine kA_ ?_ _ | refine kB_ ?_ | refine kC_ ?_ _)); exact BK357.out) hb); have n6_ := A_ (bE_ (by repeat (first | (with_reducible first | exact HB.out | apply bA_ | apply bB_ | apply bC_ | refine bD_ ?_ GE357.out) | exact HB.out)) hb); have n7_ := A_ (hbox); have n8_ := A_ ((by rw [hg]; exact (bF_ (by repeat (first | (with_reducible first | exact HB.out | apply bA_ | apply bB_ | apply bC_ | refine bD_ ?_ GE357.out) | exact HB.out))) : w.heap.size ≤ gb383)); have n9_ := A_ ((by rw [hg]; exact (bF_ (by repeat (first | (with_reducible first | exact HB.out | apply bA_ | apply bB_ | apply bC_ | refine bD_ ?_ GE357.out) | exact HB.out))) : w.heap.size ≤ gb383)); have n10_ := A_ ((by rw [hg]; exact Nat.ne_of_lt (blk_lt (g := gb357) (o := .cells #[.slice (some ad373) l0_0.length c0_0, .slice (some ad376) l0_1.length c0_1] 27 (0, 0)) (by (with_reducible repeat (first | refine kA_ ?_ _ | refine kB_ ?_ | refine kC_ ?_ _)); exact BK357.out)) : gb357 ≠ gb383)); have n11_ := A_ ((by rw [hg]; exact Nat.ne_of_gt (blk_lt (g := gb357) (o := .cells #[.slice (some ad373) l0_0.length c0_0, .slice (some ad376) l0_1.length c0_1] 27 (0, 0)) (by (with_reducible repeat (first | refine kA_ ?_ _ | refine kB_ ?_ | refine kC_ ?_ _)); exact BK357.out)) : gb383 ≠ gb357)); clear HO_5; clear HO_6; clear HO_7; clear HO_9; clear HO_73; clear BK357; clear HB; have HO_5 := n0_; have HO_6 := n1_; have HO_7 := n2_; have HO_9 := n3_; have HO_73 := n4_; have BK357 := n5_; have HB := n6_; have BK383 := n7_; have GW383 := n8_; have GE383 := n9_; have NB357_383 := n10_; have NB383_357 := n11_; clear n0_ n1_ n2_ n3_ n4_ n5_ n6_ n7_ n8_ n9_ n10_ n11_; clear hb hbox hg; have hnb62 := NB383_357.out; have hnc62 := NB357_383.out; have hcz63_0 := cz0_ BK383.out; have hcz63_1 := cz1_ BK383.out; have hfz63_0 := kD_ BK383.out 0; have hfz63_1 := kD_ BK383.out 1; have p384 : 0 ≤ (((rd_T128 y379 x75_3).f0) : Int) := oB_ (by first | (with_reducible assumption) | assumption); have q384 : ((rd_T128 y379 x75_3).f0) < (x7_3.length : Int) := oB_ (by first | (with_reducible assumption) | assumption); obtain ⟨ad384, e384, hx384_0⟩ := Kd.at_int (Kd.R_reads' HO_7.out).2.2 ((rd_T128 y379 x75_3).f0) p384 q384; obtain rfl : (⟨go23, 0, none⟩ : Addr) = ad384 := (by injection e384); (first | simp only [add_plain] at hx384_0 | simp only [add_at] at hx384_0 | simp only [Addr.add, Nat.zero_add] at hx384_0 | skip); have hn384_0 : (⟨go23, 0, none⟩ : Addr).block ≠ gb383 := Kd.own_blk (Kd.R_ne HO_7.out BK383.out (by decide)); have hn384_1 : (⟨go23, 0, none⟩ : Addr).block ≠ gb383 := Kd.own_blk (Kd.R_ne HO_7.out BK383.out (by decide)); replace hx384_0 := (cell_far (p := ⟨gb383, 0, none⟩) (by first | (rw [add_block]; exact hn384_0) | (show (Addr.add _ _).block ≠ _; rw [add_block]; exact hn384_0) | exact hn384_0) (.int .i64 ((rd_T128 y379 x75_3).f0))).trans hx384_0; replace hx384_0 := (cell_far (p := ⟨gb383, 1, none⟩) (by first | (rw [add_block]; exact hn384_1) | (show (Addr.add _ _).block ≠ _; rw [add_block]; exact hn384_1) | exact hn384_1) (.int .i64 ((rd_T128 y379 x75_3).f1))).trans hx384_0; clear hn384_0; clear hn384_1; replace p384 := eq_true p384; replace q384 := eq_true q384))
                          (try simp only [← hl7_3])
                          go_roundg k3
                          case measure => have := HK1.out; have := HK2.out; have := HK3.out; omega
                          case rel => exact ⟨(x7_3), (x9_3), (wrap64 (x75_3 + 1)), (by first | rfl | (simp; done) | (simp [*]; done)), H', ⟨by have := HK1.out; have := HK2.out; have := HK3.out; omega⟩, ⟨by (try simp only [hl7_1]); (try simp only [hl7_2]); (try simp only [hl7_3]); (with_reducible repeat (first | apply rA_ | apply rB_ | apply rC_)); exact Kd.R_mono (Kd.R_far (p := ⟨gb383, 1, none⟩) (Kd.R_far (p := ⟨gb383, 0, none⟩) (Kd.R_types HO_5.out BK383.out (by decide)) (fun _ hk => hk.2) (.int .i64 ((rd_T128 y379 x75_3).f0))) (fun _ hk => hk.2) (.int .i64 ((rd_T128 y379 x75_3).f1))) (fun _ hk => ⟨hk.1.1, ⟨hk.1.2.1, hk.1.2.2⟩⟩)⟩, ⟨by (try simp only [hl7_1]); (try simp only [hl7_2]); (try simp only [hl7_3]); (with_reducible repeat (first | apply rA_ | apply rB_ | apply rC_)); exact Kd.R_mono (Kd.R_far (p := ⟨gb383, 1, none⟩) (Kd.R_far (p := ⟨gb383, 0, none⟩) (Kd.R_types HO_6.out BK383.out (by decide)) (fun _ hk => hk.2) (.int .i64 ((rd_T128 y379 x75_3).f0))) (fun _ hk => hk.2) (.int .i64 ((rd_T128 y379 x75_3).f1))) (fun _ hk => ⟨hk.1.1, ⟨hk.1.2.1, hk.1.2.2⟩⟩)⟩, ⟨by (try simp only [hl7_1]); (try simp only [hl7_2]); (try simp only [hl7_3]); (with_reducible repeat (first | apply rA_ | apply rB_ | apply rC_)); exact Kd.R_mono (Kd.R_far (p := ⟨gb383, 1, none⟩) (Kd.R_far (p := ⟨gb383, 0, none⟩) (Kd.R_types HO_7.out BK383.out (by decide)) (fun _ hk => hk.2) (.int .i64 ((rd_T128 y379 x75_3).f0))) (fun _ hk => hk.2) (.int .i64 ((rd_T128 y379 x75_3).f1))) (fun _ hk => ⟨hk.1.1, ⟨hk.1.2.1, hk.1.2.2⟩⟩)⟩, ⟨by (try simp only [hl7_1]); (try simp only [hl7_2]); (try simp only [hl7_3]); (with_reducible repeat (first | apply rA_ | apply rB_ | apply rC_)); exact Kd.R_mono (Kd.R_far (p := ⟨gb383, 1, none⟩) (Kd.R_far (p := ⟨gb383, 0, none⟩) (Kd.R_types HO_9.out BK383.out (by decide)) (fun _ hk => hk.2) (.int .i64 ((rd_T128 y379 x75_3).f0))) (fun _ hk => hk.2) (.int .i64 ((rd_T128 y379 x75_3).f1))) (fun _ hk => ⟨hk.1.1, ⟨hk.1.2.1, hk.1.2.2⟩⟩)⟩, ⟨by (try simp only [hl7_1]); (try simp only [hl7_2]); (try simp only [hl7_3]); (with_reducible repeat (first | apply rA_ | apply rB_ | apply rC_)); exact Kd.R_mono (Kd.R_far (p := ⟨gb383, 1, none⟩) (Kd.R_far (p := ⟨gb383, 0, none⟩) (Kd.R_mono HO_73.out (fun k_ hk => (⟨hk, hk.2⟩ : _ ∧ k_ ≠ gb383))) (fun _ hk => hk.2) (.int .i64 ((rd_T128 y379 x75_3).f0))) (fun _ hk => hk.2) (.int .i64 ((rd_T128 y379 x75_3).f1))) (fun _ hk => trivial)⟩, ⟨by (try simp only [hl7_1]); (try simp only [hl7_2]); (try simp only [hl7_3]); (with_reducible repeat (first | refine kA_ ?_ _ | refine kB_ ?_ | refine kC_ ?_ _)); refine blk_far ?_ NB357_383.out _; (with_reducible repeat (first | refine kA_ ?_ _ | refine kB_ ?_ | refine kC_ ?_ _)); refine blk_far ?_ NB357_383.out _; (with_reducible repeat (first | refine kA_ ?_ _ | refine kB_ ?_ | refine kC_ ?_ _)); exact BK357.out⟩, ⟨by repeat (first | (with_reducible first | exact HB.out | apply bA_ | apply bB_ | apply bC_ | refine bD_ ?_ GE357.out | refine bD_ ?_ GE383.out) | exact HB.out)⟩⟩
                        ·rw [if_neg c48] at H
                         exact absurd H (by simp)
                       ·rw [if_neg c47] at H
                        exact absurd H (by simp)
                      ·rw [if_neg c46] at H
                       exact absurd H (by simp)
                     ·rw [if_neg c45] at H
                      exact absurd H (by simp)
                    ·rw [if_neg c44] at H
                     have c44b0 : decide (x75_3 < (y379.length : Int)) = false := oD_ c44
                     clear c44
                     have H' := A_ H
                     clear H
                     go_wp2
                     (try simp only [← hl7_2, ← hl7_3])
                     go_roundg k3
                     case measure => have := HK1.out; have := HK2.out; have := HK3.out; omega
                     case rel => exact ⟨(x7_3), (x9_3), (wrap64 (x10_2 + 1)), (by first | rfl | (simp; done) | (simp [*]; done)), H', ⟨by have := HK1.out; have := HK2.out; have := HK3.out; omega⟩, ⟨by (try simp only [hl7_1]); (try simp only [hl7_2]); (try simp only [hl7_3]); (with_reducible repeat (first | apply rA_ | apply rB_ | apply rC_)); exact HO_5.out⟩, ⟨by (try simp only [hl7_1]); (try simp only [hl7_2]); (try simp only [hl7_3]); (with_reducible repeat (first | apply rA_ | apply rB_ | apply rC_)); exact HO_6.out⟩, ⟨by (try simp only [hl7_1]); (try simp only [hl7_2]); (try simp only [hl7_3]); (with_reducible repeat (first | apply rA_ | apply rB_ | apply rC_)); exact HO_7.out⟩, ⟨by (try simp only [hl7_1]); (try simp only [hl7_2]); (try simp only [hl7_3]); (with_reducible repeat (first | apply rA_ | apply rB_ | apply rC_)); exact HO_9.out⟩, ⟨by (try simp only [hl7_1]); (try simp only [hl7_2]); (try simp only [hl7_3]); (with_reducible repeat (first | refine kA_ ?_ _ | refine kB_ ?_ | refine kC_ ?_ _)); exact BK357.out⟩, ⟨by repeat (first | (with_reducible first | exact HB.out | apply bA_ | apply bB_ | apply bC_ | refine bD_ ?_ GE357.out) | exact HB.out)⟩⟩
                 ·rw [if_neg c36] at H
                  exact absurd H (by simp)
                ·rw [if_neg c35] at H
                 exact absurd H (by simp)
               ·rw [if_neg c34] at H
                exact absurd H (by simp)
              ·rw [if_neg c33] at H
               exact absurd H (by simp)
             ·rw [if_neg c32] at H
              exact absurd H (by simp)
            ·rw [if_neg c31] at H
             exact absurd H (by simp)
           ·rw [if_neg c30] at H
            exact absurd H (by simp)
          ·rw [if_neg c29] at H
           exact absurd H (by simp)
         ·rw [if_neg c28] at H
          have c28b0 : decide (x10_2 < (x9_2.length : Int)) = false := oD_ c28
          clear c28
          obtain rfl := Option.some.inj H
          obtain ⟨Ao64, co64, eo64⟩ := Kd.R_slice HO_9.out
          subst eo64
          go_wp2
          go_ret
          exact ⟨_, by first | rfl | (simp [errW_none, errW_some] <;> rfl) | (simp [*, errW_none, errW_some] <;> rfl), by (with_reducible repeat (first | apply rA_ | apply rB_ | apply rC_)); exact Kd.R_mono HO_7.out (fun _ hk => trivial), by repeat (first | (with_reducible first | exact HB.out | apply bA_ | apply bB_ | apply bC_ | refine bD_ ?_ GE357.out) | exact HB.out)⟩
      ·rw [if_neg c22] at H
       exact absurd H (by simp)
  ·rw [if_neg c6] at H
   exact absurd H (by simp)
 ·rw [if_neg c5] at H
  exact absurd H (by simp)
end Go.Proofs.Ytbdnellgioimbaa.A
end
section
namespace Go.Proofs.Ytbdnellgioimbaa.A
open Go.RowKit Go.Proofs.YtbdnellgioimbaaW.PrintWords Go.Proofs.YtbdnellgioimbaaW.PrintLast Go.Proofs.YtbdnellgioimbaaW.PrintMore
attribute [local go_sem] max2_int min2_int max_two min_two max_three min_three max_four min_four
set_option linter.unusedVariables false
set_option linter.unusedSimpArgs false
mutual
def Z36.j0 : Nat → List Int → Bool → List Int → List Int → Option (Bool)
 | 0, _, _, _, _ => none
 | k + 1, x1, x23, x390000, x390001 => if x23 = true then (some false) else ((Z9.f k x390000).bind fun t392 => ((Z9.f k x390001).bind fun t395 => (Z36.l0 k x1 t392 t395 (x1.length : Int) 0 x390000 x390001)))
def Z36.l0 : Nat → List Int → List Int → List Int → Int → Int → List Int → List Int → Option (Bool)
 | 0, _, _, _, _, _, _, _ => none
 | k + 1, x1, x5, x6, x31, x32, x390000, x390001 => if x32 < x31 then (if 0 ≤ x32 then (if x32 < (x390000.length : Int) then (if 0 ≤ (rd x390000 x32) then (if (rd x390000 x32) < (x1.length : Int) then (if x32 < (x1.length : Int) then (if 0 ≤ (rd x1 x32) then (if (rd x1 x32) < (x5.length : Int) then (if (rd x1 (rd x390000 x32)) = (rd x5 (rd x1 x32)) then (if x32 < (x390001.length : Int) then (if 0 ≤ (rd x390001 x32) then (if (rd x390001 x32) < (x1.length : Int) then (if (rd x1 x32) < (x6.length : Int) then (if (rd x1 (rd x390001 x32)) = (rd x6 (rd x1 x32)) then (Z36.l0 k x1 x5 x6 x31 (wrap64 (x32 + 1)) x390000 x390001) else (some false)) else (none)) else (none)) else (none)) else (none)) else (some false)) else (none)) else (none)) else (none)) else (none)) else (none)) else (none)) else (none)) else (some true)
end
def Z36.f (k : Nat) (l0_0 : List Int) (l0_1 : List Int) (l1 : List Int) : Option (Bool) := (Z16.f k l0_0 l0_1).bind fun t390 => (if t390 = true then ((Z37.f k l1).bind fun t391 => (if t391 = true then (Z36.j0 k l1 ((l1.length : Int) != (l0_0.length : Int)) l0_0 l0_1) else (Z36.j0 k l1 true l0_0 l0_1))) else (Z36.j0 k l1 true l0_0 l0_1))
theorem Z36.mono_l : ∀ k, (∀ y0 y1 y2 y3, LeO (Z36.j0 k y0 y1 y2 y3) (Z36.j0 (k + 1) y0 y1 y2 y3)) ∧ (∀ y0 y1 y2 y3 y4 y5 y6, LeO (Z36.l0 k y0 y1 y2 y3 y4 y5 y6) (Z36.l0 (k + 1) y0 y1 y2 y3 y4 y5 y6))
 | 0 => ⟨fun _ _ _ _ r h => by simp [Z36.j0] at h, fun _ _ _ _ _ _ _ r h => by simp [Z36.l0] at h⟩
 | k + 1 => by
  obtain ⟨ih0, ih1⟩ := Z36.mono_l k
  refine ⟨?_, ?_⟩
  ·intro y0 y1 y2 y3
   unfold Z36.j0
   repeat' first
   | (with_reducible exact ih0 _ _ _ _)
   | (with_reducible exact ih1 _ _ _ _ _ _ _)
   | (with_reducible exact Z9.mono _ _)
   | (with_reducible exact Z37.mono _ _)
   | (with_reducible exact Z16.mono _ _ _)
   | (with_reducible exact LeO.refl _)
   | (with_reducible exact LeO.none _)
   | (with_reducible refine LeO.ite ?_ ?_)
   | (with_reducible refine LeO.bind ?_ (fun _ => ?_))
   | exact ih0 _ _ _ _
   | exact ih1 _ _ _ _ _ _ _
   | exact Z9.mono _ _
   | exact Z37.mono _ _
   | exact Z16.mono _ _ _
   | exact LeO.none _
   | refine LeO.ite ?_ ?_
   | refine LeO.bind ?_ (fun _ => ?_)
  ·intro y0 y1 y2 y3 y4 y5 y6
   unfold Z36.l0
   repeat' first
   | (with_reducible exact ih0 _ _ _ _)
   | (with_reducible exact ih1 _ _ _ _ _ _ _)
   | (with_reducible exact Z9.mono _ _)
   | (with_reducible exact Z37.mono _ _)
   | (with_reducible exact Z16.mono _ _ _)
   | (with_reducible exact LeO.refl _)
   | (with_reducible exact LeO.none _)
   | (with_reducible refine LeO.ite ?_ ?_)
   | (with_reducible refine LeO.bind ?_ (fun _ => ?_))
   | exact ih0 _ _ _ _
   | exact ih1 _ _ _ _ _ _ _
   | exact Z9.mono _ _
   | exact Z37.mono _ _
   | exact Z16.mono _ _ _
   | exact LeO.none _
   | refine LeO.ite ?_ ?_
   | refine LeO.bind ?_ (fun _ => ?_)
theorem Z36.mono : ∀ a0 a1 a2 k, LeO (Z36.f k a0 a1 a2) (Z36.f (k + 1) a0 a1 a2) := by
 intro a0 a1 a2 k
 obtain ⟨ih0, ih1⟩ := Z36.mono_l k
 unfold Z36.f
 repeat' first
   | (with_reducible exact ih0 _ _ _ _)
   | (with_reducible exact ih1 _ _ _ _ _ _ _)
   | (with_reducible exact Z9.mono _ _)
   | (with_reducible exact Z37.mono _ _)
   | (with_reducible exact Z16.mono _ _ _)
   | (with_reducible exact LeO.refl _)
   | (with_reducible exact LeO.none _)
   | (with_reducible refine LeO.ite ?_ ?_)
   | (with_reducible refine LeO.bind ?_ (fun _ => ?_))
   | exact ih0 _ _ _ _
   | exact ih1 _ _ _ _ _ _ _
   | exact Z9.mono _ _
   | exact Z37.mono _ _
   | exact Z16.mono _ _ _
   | exact LeO.none _
   | refine LeO.ite ?_ ?_
   | refine LeO.bind ?_ (fun _ => ?_)
set_option maxHeartbeats 8000000 in
set_option maxRecDepth 100000 in
theorem Z36.calls (k : Nat) (A0_0 : Option Addr) (c0_0 : Nat) (l0_0 : List Int) (A0_1 : Option Addr) (c0_1 : Nat) (l0_1 : List Int) (A1 : Option Addr) (c1 : Nat) (l1 : List Int) (r : Bool) (w : World) (hr0_0 : Kd.C (Kd.int .i64) w A0_0 l0_0.length l0_0) (hc0_0 : l0_0.length ≤ c0_0) (hr0_1 : Kd.C (Kd.int .i64) w A0_1 l0_1.length l0_1) (hc0_1 : l0_1.length ≤ c0_1) (hr1 : Kd.C (Kd.int .i64) w A1 l1.length l1) (hc1 : l1.length ≤ c1) (h : Z36.f k l0_0 l0_1 l1 = some r) :
  Calls Try.prog 107 #[.agg #[.slice A0_0 l0_0.length c0_0, .slice A0_1 l0_1.length c0_1], .slice A1 l1.length c1] w fun e w' => e = .returned (.bool r) ∧ Below w.heap.size w w' := by
 have hu27 := Try.underlying27
 have HR0_0 := A_ hr0_0
 have HC0_0 := A_ hc0_0
 clear hr0_0 hc0_0
 have HR0_1 := A_ hr0_1
 have HC0_1 := A_ hc0_1
 clear hr0_1 hc0_1
 have HR1 := A_ hr1
 have HC1 := A_ hc1
 clear hr1 hc1
 have HB := A_ (Below.refl w.heap.size w)
 have H : ((Z16.f k l0_0 l0_1).bind fun t390 => (if t390 = true then ((Z37.f k l1).bind fun t391 => (if t391 = true then (Z36.j0 k l1 ((l1.length : Int) != (l0_0.length : Int)) l0_0 l0_1) else (Z36.j0 k l1 true l0_0 l0_1))) else (Z36.j0 k l1 true l0_0 l0_1))) = some r := h
 clear h
 have HC3 := A_ H
 clear H
 go_enter Try.func107, Try.ntmps107
 go_upto_region 1 with (first | ((with_reducible refine gB_ (N := 2) rfl ?_); (try (refine gate_guard (by rfl) ?_; dsimp only)); refine xA_ ?hg (N := 2) ?hd (cs := #[.slice A0_0 l0_0.length c0_0, .slice A0_1 l0_1.length c0_1]) (t := 27) ?hr ?_; (case hd => rfl); (case hg => rfl); (case hr => first | (go_simp; done) | (go_simp; rfl)); intro gb389 hg w4 hbox hb; have n0_ := A_ (bE_ (by repeat (first | (with_reducible first | exact HB.out | apply bA_ | apply bB_ | apply bC_) | exact HB.out)) hb); have n1_ := A_ (hbox); have n2_ := A_ ((by rw [hg]; exact (bF_ (by repeat (first | (with_reducible first | exact HB.out | apply bA_ | apply bB_ | apply bC_) | exact HB.out))) : w.heap.size ≤ gb389)); have n3_ := A_ ((by rw [hg]; exact (bF_ (by repeat (first | (with_reducible first | exact HB.out | apply bA_ | apply bB_ | apply bC_) | exact HB.out))) : w.heap.size ≤ gb389)); clear HB; have HB := n0_; have BK389 := n1_; have GW389 := n2_; have GE389 := n3_; clear n0_ n1_ n2_ n3_; clear hb hbox hg))
 repeat (go_quiet (first | ((with_reducible refine gB_ (N := 2) rfl ?_); (try (refine gate_guard (by rfl) ?_; dsimp only)); refine xA_ ?hg (N := 2) ?hd (cs := #[.slice A0_0 l0_0.length c0_0, .slice A0_1 l0_1.length c0_1]) (t := 27) ?hr ?_; (case hd => rfl); (case hg => rfl); (case hr => first | (go_simp; done) | (go_simp; rfl)); intro gb389 hg w4 hbox hb; have n0_ := A_ (bE_ (by repeat (first | (with_reducible first | exact HB.out | apply bA_ | apply bB_ | apply bC_) | exact HB.out)) hb); have n1_ := A_ (hbox); have n2_ := A_ ((by rw [hg]; exact (bF_ (by repeat (first | (with_reducible first | exact HB.out | apply bA_ | apply bB_ | apply bC_) | exact HB.out))) : w.heap.size ≤ gb389)); have n3_ := A_ ((by rw [hg]; exact (bF_ (by repeat (first | (with_reducible first | exact HB.out | apply bA_ | apply bB_ | apply bC_) | exact HB.out))) : w.heap.size ≤ gb389)); clear HB; have HB := n0_; have BK389 := n1_; have GW389 := n2_; have GE389 := n3_; clear n0_ n1_ n2_ n3_; clear hb hbox hg)); go_upto_region 1 with (first | ((with_reducible refine gB_ (N := 2) rfl ?_); (try (refine gate_guard (by rfl) ?_; dsimp only)); refine xA_ ?hg (N := 2) ?hd (cs := #[.slice A0_0 l0_0.length c0_0, .slice A0_1 l0_1.length c0_1]) (t := 27) ?hr ?_; (case hd => rfl); (case hg => rfl); (case hr => first | (go_simp; done) | (go_simp; rfl)); intro gb389 hg w4 hbox hb; have n0_ := A_ (bE_ (by repeat (first | (with_reducible first | exact HB.out | apply bA_ | apply bB_ | apply bC_) | exact HB.out)) hb); have n1_ := A_ (hbox); have n2_ := A_ ((by rw [hg]; exact (bF_ (by repeat (first | (with_reducible first | exact HB.out | apply bA_ | apply bB_ | apply bC_) | exact HB.out))) : w.heap.size ≤ gb389)); have n3_ := A_ ((by rw [hg]; exact (bF_ (by repeat (first | (with_reducible first | exact HB.out | apply bA_ | apply bB_ | apply bC_) | exact HB.out))) : w.heap.size ≤ gb389)); clear HB; have HB := n0_; have BK389 := n1_; have GW389 := n2_; have GE389 := n3_; clear n0_ n1_ n2_ n3_; clear hb hbox hg)))
 (try simp only [Act.put, sA_, sB_, sC_])
 go_cut [23] (fun v23 wc => ∃ (kq : Nat) (x23_2 : Bool), v23 = .bool x23_2 ∧ Aside0 (Z36.j0 kq l1 x23_2 l0_0 l0_1 = some r) ∧ Aside0 (kq ≤ k) ∧ Aside0 (wc.heap[gb389]? = some (.cells #[(.slice A0_0 l0_0.length c0_0), (.slice A0_1 l0_1.length c0_1)] 27 (0, 0))) ∧ Aside0 (Below w.heap.size w wc))
 case first =>
  have H := HC3.out
  clear HC3
  replace H := Option.bind_eq_some_iff.mp H
  obtain ⟨t390, A50, H⟩ := H
  replace H : (if t390 = true then ((Z37.f k l1).bind fun t391 => (if t391 = true then (Z36.j0 k l1 ((l1.length : Int) != (l0_0.length : Int)) l0_0 l0_1) else (Z36.j0 k l1 true l0_0 l0_1))) else (Z36.j0 k l1 true l0_0 l0_1)) = some r := H
  have A5 := A_ A50
  clear A50
  by_cases c6 : t390 = true
  ·subst c6
   have H1 : ((Z37.f k l1).bind fun t391 => (if t391 = true then (Z36.j0 k l1 ((l1.length : Int) != (l0_0.length : Int)) l0_0 l0_1) else (Z36.j0 k l1 true l0_0 l0_1))) = some r := by rw [if_pos rfl] at H; exact H
   clear H
   have H := H1
   clear H1
   replace H := Option.bind_eq_some_iff.mp H
   obtain ⟨t391, A70, H⟩ := H
   replace H : (if t391 = true then (Z36.j0 k l1 ((l1.length : Int) != (l0_0.length : Int)) l0_0 l0_1) else (Z36.j0 k l1 true l0_0 l0_1)) = some r := H
   have A7 := A_ A70
   clear A70
   by_cases c8 : t391 = true
   ·subst c8
    have H1 : (Z36.j0 k l1 ((l1.length : Int) != (l0_0.length : Int)) l0_0 l0_1) = some r := by rw [if_pos rfl] at H; exact H
    clear H
    have H := H1
    clear H1
    have H' := A_ H
    clear H
    have hcz9_0 := cz0_ BK389.out
    have hcz9_1 := cz1_ BK389.out
    have hfz9_0 := kD_ BK389.out 0
    have hfz9_1 := kD_ BK389.out 1
    go_wp2_with (first | (go_at_call 65; (with_reducible refine (Z16.calls k _ _ l0_0 _ _ l0_1 true _ ?side1 ?side2 ?side3 ?side4 A5.out).mono ?_); (case side1 => repeat (first | exact (cD_ HR0_0.out HB.out) | (with_reducible first | refine cA_ ?_ _ | refine cB_ ?_ _ | refine cC_ ?_))); (case side2 => exact HC0_0.out); (case side3 => repeat (first | exact (cD_ HR0_1.out HB.out) | (with_reducible first | refine cA_ ?_ _ | refine cB_ ?_ _ | refine cC_ ?_))); (case side4 => exact HC0_1.out); rintro e w10 ⟨rfl, hb⟩; have n0_ := A_ (kE_ (g := gb389) (by (with_reducible repeat (first | refine kA_ ?_ _ | refine kB_ ?_ | refine kC_ ?_ _)); exact BK389.out) hb); have n1_ := A_ (bE_ (by repeat (first | (with_reducible first | exact HB.out | apply bA_ | apply bB_ | apply bC_ | refine bD_ ?_ GE389.out) | exact HB.out)) hb); clear BK389; clear HB; have BK389 := n0_; have HB := n1_; clear n0_ n1_; (try clear hb); (try clear hb2); (try clear hk); (try clear hi)) | (go_at_call 98; (with_reducible refine (Z37.calls k _ _ l1 true _ ?side1 ?side2 A7.out).mono ?_); (case side1 => repeat (first | exact (cD_ HR1.out HB.out) | (with_reducible first | refine cA_ ?_ _ | refine cB_ ?_ _ | refine cC_ ?_))); (case side2 => exact HC1.out); rintro e w11 ⟨rfl, hb⟩; have n0_ := A_ (kE_ (g := gb389) (by (with_reducible repeat (first | refine kA_ ?_ _ | refine kB_ ?_ | refine kC_ ?_ _)); exact BK389.out) hb); have n1_ := A_ (bE_ (by repeat (first | (with_reducible first | exact HB.out | apply bA_ | apply bB_ | apply bC_ | refine bD_ ?_ GE389.out) | exact HB.out)) hb); clear BK389; clear HB; have BK389 := n0_; have HB := n1_; clear n0_ n1_; (try clear hb); (try clear hb2); (try clear hk); (try clear hi); have hcz12_0 := cz0_ BK389.out; have hcz12_1 := cz1_ BK389.out; have hfz12_0 := kD_ BK389.out 0; have hfz12_1 := kD_ BK389.out 1))
    repeat (go_quiet (first | (go_at_call 65; (with_reducible refine (Z16.calls k _ _ l0_0 _ _ l0_1 true _ ?side1 ?side2 ?side3 ?side4 A5.out).mono ?_); (case side1 => repeat (first | exact (cD_ HR0_0.out HB.out) | (with_reducible first | refine cA_ ?_ _ | refine cB_ ?_ _ | refine cC_ ?_))); (case side2 => exact HC0_0.out); (case side3 => repeat (first | exact (cD_ HR0_1.out HB.out) | (with_reducible first | refine cA_ ?_ _ | refine cB_ ?_ _ | refine cC_ ?_))); (case side4 => exact HC0_1.out); rintro e w10 ⟨rfl, hb⟩; have n0_ := A_ (kE_ (g := gb389) (by (with_reducible repeat (first | refine kA_ ?_ _ | refine kB_ ?_ | refine kC_ ?_ _)); exact BK389.out) hb); have n1_ := A_ (bE_ (by repeat (first | (with_reducible first | exact HB.out | apply bA_ | apply bB_ | apply bC_ | refine bD_ ?_ GE389.out) | exact HB.out)) hb); clear BK389; clear HB; have BK389 := n0_; have HB := n1_; clear n0_ n1_; (try clear hb); (try clear hb2); (try clear hk); (try clear hi)) | (go_at_call 98; (with_reducible refine (Z37.calls k _ _ l1 true _ ?side1 ?side2 A7.out).mono ?_); (case side1 => repeat (first | exact (cD_ HR1.out HB.out) | (with_reducible first | refine cA_ ?_ _ | refine cB_ ?_ _ | refine cC_ ?_))); (case side2 => exact HC1.out); rintro e w11 ⟨rfl, hb⟩; have n0_ := A_ (kE_ (g := gb389) (by (with_reducible repeat (first | refine kA_ ?_ _ | refine kB_ ?_ | refine kC_ ?_ _)); exact BK389.out) hb); have n1_ := A_ (bE_ (by repeat (first | (with_reducible first | exact HB.out | apply bA_ | apply bB_ | apply bC_ | refine bD_ ?_ GE389.out) | exact HB.out)) hb); clear BK389; clear HB; have BK389 := n0_; have HB := n1_; clear n0_ n1_; (try clear hb); (try clear hb2); (try clear hk); (try clear hi); have hcz12_0 := cz0_ BK389.out; have hcz12_1 := cz1_ BK389.out; have hfz12_0 := kD_ BK389.out 0; have hfz12_1 := kD_ BK389.out 1)); try go_wp2_with (first | (go_at_call 65; (with_reducible refine (Z16.calls k _ _ l0_0 _ _ l0_1 true _ ?side1 ?side2 ?side3 ?side4 A5.out).mono ?_); (case side1 => repeat (first | exact (cD_ HR0_0.out HB.out) | (with_reducible first | refine cA_ ?_ _ | refine cB_ ?_ _ | refine cC_ ?_))); (case side2 => exact HC0_0.out); (case side3 => repeat (first | exact (cD_ HR0_1.out HB.out) | (with_reducible first | refine cA_ ?_ _ | refine cB_ ?_ _ | refine cC_ ?_))); (case side4 => exact HC0_1.out); rintro e w10 ⟨rfl, hb⟩; have n0_ := A_ (kE_ (g := gb389) (by (with_reducible repeat (first | refine kA_ ?_ _ | refine kB_ ?_ | refine kC_ ?_ _)); exact BK389.out) hb); have n1_ := A_ (bE_ (by repeat (first | (with_reducible first | exact HB.out | apply bA_ | apply bB_ | apply bC_ | refine bD_ ?_ GE389.out) | exact HB.out)) hb); clear BK389; clear HB; have BK389 := n0_; have HB := n1_; clear n0_ n1_; (try clear hb); (try clear hb2); (try clear hk); (try clear hi)) | (go_at_call 98; (with_reducible refine (Z37.calls k _ _ l1 true _ ?side1 ?side2 A7.out).mono ?_); (case side1 => repeat (first | exact (cD_ HR1.out HB.out) | (with_reducible first | refine cA_ ?_ _ | refine cB_ ?_ _ | refine cC_ ?_))); (case side2 => exact HC1.out); rintro e w11 ⟨rfl, hb⟩; have n0_ := A_ (kE_ (g := gb389) (by (with_reducible repeat (first | refine kA_ ?_ _ | refine kB_ ?_ | refine kC_ ?_ _)); exact BK389.out) hb); have n1_ := A_ (bE_ (by repeat (first | (with_reducible first | exact HB.out | apply bA_ | apply bB_ | apply bC_ | refine bD_ ?_ GE389.out) | exact HB.out)) hb); clear BK389; clear HB; have BK389 := n0_; have HB := n1_; clear n0_ n1_; (try clear hb); (try clear hb2); (try clear hk); (try clear hi); have hcz12_0 := cz0_ BK389.out; have hcz12_1 := cz1_ BK389.out; have hfz12_0 := kD_ BK389.out 0; have hfz12_1 := kD_ BK389.out 1)))
    go_meet
    case rel => exact ⟨_, (((l1.length : Int) != (l0_0.length : Int))), (by first | rfl | (simp; done) | (simp [*]; done)), H', ⟨by first | omega | exact nA_ _⟩, ⟨by (with_reducible repeat (first | refine kA_ ?_ _ | refine kB_ ?_ | refine kC_ ?_ _)); exact BK389.out⟩, ⟨by repeat (first | (with_reducible first | exact HB.out | apply bA_ | apply bB_ | apply bC_ | refine bD_ ?_ GE389.out) | exact HB.out)⟩⟩
   ·replace c8 := Bool.eq_false_iff.mpr c8
    subst c8
    have H1 : (Z36.j0 k l1 true l0_0 l0_1) = some r := by rw [if_neg (show ¬ (false = true) by decide)] at H; exact H
    clear H
    have H := H1
    clear H1
    have H' := A_ H
    clear H
    have hcz13_0 := cz0_ BK389.out
    have hcz13_1 := cz1_ BK389.out
    have hfz13_0 := kD_ BK389.out 0
    have hfz13_1 := kD_ BK389.out 1
    go_wp2_with (first | (go_at_call 65; (with_reducible refine (Z16.calls k _ _ l0_0 _ _ l0_1 true _ ?side1 ?side2 ?side3 ?side4 A5.out).mono ?_); (case side1 => repeat (first | exact (cD_ HR0_0.out HB.out) | (with_reducible first | refine cA_ ?_ _ | refine cB_ ?_ _ | refine cC_ ?_))); (case side2 => exact HC0_0.out); (case side3 => repeat (first | exact (cD_ HR0_1.out HB.out) | (with_reducible first | refine cA_ ?_ _ | refine cB_ ?_ _ | refine cC_ ?_))); (case side4 => exact HC0_1.out); rintro e w14 ⟨rfl, hb⟩; have n0_ := A_ (kE_ (g := gb389) (by (with_reducible repeat (first | refine kA_ ?_ _ | refine kB_ ?_ | refine kC_ ?_ _)); exact BK389.out) hb); have n1_ := A_ (bE_ (by repeat (first | (with_reducible first | exact HB.out | apply bA_ | apply bB_ | apply bC_ | refine bD_ ?_ GE389.out) | exact HB.out)) hb); clear BK389; clear HB; have BK389 := n0_; have HB := n1_; clear n0_ n1_; (try clear hb); (try clear hb2); (try clear hk); (try clear hi)) | (go_at_call 98; (with_reducible refine (Z37.calls k _ _ l1 false _ ?side1 ?side2 A7.out).mono ?_); (case side1 => repeat (first | exact (cD_ HR1.out HB.out) | (with_reducible first | refine cA_ ?_ _ | refine cB_ ?_ _ | refine cC_ ?_))); (case side2 => exact HC1.out); rintro e w15 ⟨rfl, hb⟩; have n0_ := A_ (kE_ (g := gb389) (by (with_reducible repeat (first | refine kA_ ?_ _ | refine kB_ ?_ | refine kC_ ?_ _)); exact BK389.out) hb); have n1_ := A_ (bE_ (by repeat (first | (with_reducible first | exact HB.out | apply bA_ | apply bB_ | apply bC_ | refine bD_ ?_ GE389.out) | exact HB.out)) hb); clear BK389; clear HB; have BK389 := n0_; have HB := n1_; clear n0_ n1_; (try clear hb); (try clear hb2); (try clear hk); (try clear hi)))
    repeat (go_quiet (first | (go_at_call 65; (with_reducible refine (Z16.calls k _ _ l0_0 _ _ l0_1 true _ ?side1 ?side2 ?side3 ?side4 A5.out).mono ?_); (case side1 => repeat (first | exact (cD_ HR0_0.out HB.out) | (with_reducible first | refine cA_ ?_ _ | refine cB_ ?_ _ | refine cC_ ?_))); (case side2 => exact HC0_0.out); (case side3 => repeat (first | exact (cD_ HR0_1.out HB.out) | (with_reducible first | refine cA_ ?_ _ | refine cB_ ?_ _ | refine cC_ ?_))); (case side4 => exact HC0_1.out); rintro e w14 ⟨rfl, hb⟩; have n0_ := A_ (kE_ (g := gb389) (by (with_reducible repeat (first | refine kA_ ?_ _ | refine kB_ ?_ | refine kC_ ?_ _)); exact BK389.out) hb); have n1_ := A_ (bE_ (by repeat (first | (with_reducible first | exact HB.out | apply bA_ | apply bB_ | apply bC_ | refine bD_ ?_ GE389.out) | exact HB.out)) hb); clear BK389; clear HB; have BK389 := n0_; have HB := n1_; clear n0_ n1_; (try clear hb); (try clear hb2); (try clear hk); (try clear hi)) | (go_at_call 98; (with_reducible refine (Z37.calls k _ _ l1 false _ ?side1 ?side2 A7.out).mono ?_); (case side1 => repeat (first | exact (cD_ HR1.out HB.out) | (with_reducible first | refine cA_ ?_ _ | refine cB_ ?_ _ | refine cC_ ?_))); (case side2 => exact HC1.out); rintro e w15 ⟨rfl, hb⟩; have n0_ := A_ (kE_ (g := gb389) (by (with_reducible repeat (first | refine kA_ ?_ _ | refine kB_ ?_ | refine kC_ ?_ _)); exact BK389.out) hb); have n1_ := A_ (bE_ (by repeat (first | (with_reducible first | exact HB.out | apply bA_ | apply bB_ | apply bC_ | refine bD_ ?_ GE389.out) | exact HB.out)) hb); clear BK389; clear HB; have BK389 := n0_; have HB := n1_; clear n0_ n1_; (try clear hb); (try clear hb2); (try clear hk); (try clear hi))); try go_wp2_with (first | (go_at_call 65; (with_reducible refine (Z16.calls k _ _ l0_0 _ _ l0_1 true _ ?side1 ?side2 ?side3 ?side4 A5.out).mono ?_); (case side1 => repeat (first | exact (cD_ HR0_0.out HB.out) | (with_reducible first | refine cA_ ?_ _ | refine cB_ ?_ _ | refine cC_ ?_))); (case side2 => exact HC0_0.out); (case side3 => repeat (first | exact (cD_ HR0_1.out HB.out) | (with_reducible first | refine cA_ ?_ _ | refine cB_ ?_ _ | refine cC_ ?_))); (case side4 => exact HC0_1.out); rintro e w14 ⟨rfl, hb⟩; have n0_ := A_ (kE_ (g := gb389) (by (with_reducible repeat (first | refine kA_ ?_ _ | refine kB_ ?_ | refine kC_ ?_ _)); exact BK389.out) hb); have n1_ := A_ (bE_ (by repeat (first | (with_reducible first | exact HB.out | apply bA_ | apply bB_ | apply bC_ | refine bD_ ?_ GE389.out) | exact HB.out)) hb); clear BK389; clear HB; have BK389 := n0_; have HB := n1_; clear n0_ n1_; (try clear hb); (try clear hb2); (try clear hk); (try clear hi)) | (go_at_call 98; (with_reducible refine (Z37.calls k _ _ l1 false _ ?side1 ?side2 A7.out).mono ?_); (case side1 => repeat (first | exact (cD_ HR1.out HB.out) | (with_reducible first | refine cA_ ?_ _ | refine cB_ ?_ _ | refine cC_ ?_))); (case side2 => exact HC1.out); rintro e w15 ⟨rfl, hb⟩; have n0_ := A_ (kE_ (g := gb389) (by (with_reducible repeat (first | refine kA_ ?_ _ | refine kB_ ?_ | refine kC_ ?_ _)); exact BK389.out) hb); have n1_ := A_ (bE_ (by repeat (first | (with_reducible first | exact HB.out | apply bA_ | apply bB_ | apply bC_ | refine bD_ ?_ GE389.out) | exact HB.out)) hb); clear BK389; clear HB; have BK389 := n0_; have HB := n1_; clear n0_ n1_; (try clear hb); (try clear hb2); (try clear hk); (try clear hi))))
    go_meet
    case rel => exact ⟨_, (true), (by first | rfl | (simp; done) | (simp [*]; done)), H', ⟨by first | omega | exact nA_ _⟩, ⟨by (with_reducible repeat (first | refine kA_ ?_ _ | refine kB_ ?_ | refine kC_ ?_ _)); exact BK389.out⟩, ⟨by repeat (first | (with_reducible first | exact HB.out | apply bA_ | apply bB_ | apply bC_ | refine bD_ ?_ GE389.out) | exact HB.out)⟩⟩
  ·replace c6 := Bool.eq_false_iff.mpr c6
   subst c6
   have H1 : (Z36.j0 k l1 true l0_0 l0_1) = some r := by rw [if_neg (show ¬ (false = true) by decide)] at H; exact H
   clear H
   have H := H1
   clear H1
   have H' := A_ H
   clear H
   have hcz16_0 := cz0_ BK389.out
   have hcz16_1 := cz1_ BK389.out
   have hfz16_0 := kD_ BK389.out 0
   have hfz16_1 := kD_ BK389.out 1
   go_wp2_with (first | (go_at_call 65; (with_reducible refine (Z16.calls k _ _ l0_0 _ _ l0_1 false _ ?side1 ?side2 ?side3 ?side4 A5.out).mono ?_); (case side1 => repeat (first | exact (cD_ HR0_0.out HB.out) | (with_reducible first | refine cA_ ?_ _ | refine cB_ ?_ _ | refine cC_ ?_))); (case side2 => exact HC0_0.out); (case side3 => repeat (first | exact (cD_ HR0_1.out HB.out) | (with_reducible first | refine cA_ ?_ _ | refine cB_ ?_ _ | refine cC_ ?_))); (case side4 => exact HC0_1.out); rintro e w17 ⟨rfl, hb⟩; have n0_ := A_ (kE_ (g := gb389) (by (with_reducible repeat (first | refine kA_ ?_ _ | refine kB_ ?_ | refine kC_ ?_ _)); exact BK389.out) hb); have n1_ := A_ (bE_ (by repeat (first | (with_reducible first | exact HB.out | apply bA_ | apply bB_ | apply bC_ | refine bD_ ?_ GE389.out) | exact HB.out)) hb); clear BK389; clear HB; have BK389 := n0_; have HB := n1_; clear n0_ n1_; (try clear hb); (try clear hb2); (try clear hk); (try clear hi)))
   repeat (go_quiet (first | (go_at_call 65; (with_reducible refine (Z16.calls k _ _ l0_0 _ _ l0_1 false _ ?side1 ?side2 ?side3 ?side4 A5.out).mono ?_); (case side1 => repeat (first | exact (cD_ HR0_0.out HB.out) | (with_reducible first | refine cA_ ?_ _ | refine cB_ ?_ _ | refine cC_ ?_))); (case side2 => exact HC0_0.out); (case side3 => repeat (first | exact (cD_ HR0_1.out HB.out) | (with_reducible first | refine cA_ ?_ _ | refine cB_ ?_ _ | refine cC_ ?_))); (case side4 => exact HC0_1.out); rintro e w17 ⟨rfl, hb⟩; have n0_ := A_ (kE_ (g := gb389) (by (with_reducible repeat (first | refine kA_ ?_ _ | refine kB_ ?_ | refine kC_ ?_ _)); exact BK389.out) hb); have n1_ := A_ (bE_ (by repeat (first | (with_reducible first | exact HB.out | apply bA_ | apply bB_ | apply bC_ | refine bD_ ?_ GE389.out) | exact HB.out)) hb); clear BK389; clear HB; have BK389 := n0_; have HB := n1_; clear n0_ n1_; (try clear hb); (try clear hb2); (try clear hk); (try clear hi))); try go_wp2_with (first | (go_at_call 65; (with_reducible refine (Z16.calls k _ _ l0_0 _ _ l0_1 false _ ?side1 ?side2 ?side3 ?side4 A5.out).mono ?_); (case side1 => repeat (first | exact (cD_ HR0_0.out HB.out) | (with_reducible first | refine cA_ ?_ _ | refine cB_ ?_ _ | refine cC_ ?_))); (case side2 => exact HC0_0.out); (case side3 => repeat (first | exact (cD_ HR0_1.out HB.out) | (with_reducible first | refine cA_ ?_ _ | refine cB_ ?_ _ | refine cC_ ?_))); (case side4 => exact HC0_1.out); rintro e w17 ⟨rfl, hb⟩; have n0_ := A_ (kE_ (g := gb389) (by (with_reducible repeat (first | refine kA_ ?_ _ | refine kB_ ?_ | refine kC_ ?_ _)); exact BK389.out) hb); have n1_ := A_ (bE_ (by repeat (first | (with_reducible first | exact HB.out | apply bA_ | apply bB_ | apply bC_ | refine bD_ ?_ GE389.out) | exact HB.out)) hb); clear BK389; clear HB; have BK389 := n0_; have HB := n1_; clear n0_ n1_; (try clear hb); (try clear hb2); (try clear hk); (try clear hi))))
   go_meet
   case rel => exact ⟨_, (true), (by first | rfl | (simp; done) | (simp [*]; done)), H', ⟨by first | omega | exact nA_ _⟩, ⟨by (with_reducible repeat (first | refine kA_ ?_ _ | refine kB_ ?_ | refine kC_ ?_ _)); exact BK389.out⟩, ⟨by repeat (first | (with_reducible first | exact HB.out | apply bA_ | apply bB_ | apply bC_ | refine bD_ ?_ GE389.out) | exact HB.out)⟩⟩
 case rest =>
  clear HC3
  (try clear c1); (try clear p2); (try clear c6); (try clear c8); (try clear c10); (try clear hcz12_0); (try clear hcz12_1); (try clear hcz13_0); (try clear hcz13_1); (try clear hcz16_0); (try clear hcz16_1); (try clear hcz9_0); (try clear hcz9_1); (try clear hfz12_0); (try clear hfz12_1); (try clear hfz13_0); (try clear hfz13_1); (try clear hfz16_0); (try clear hfz16_1); (try clear hfz9_0); (try clear hfz9_1)
  obtain ⟨kq, x23_2, rfl, HA, HJ2, BK389, HB⟩ := hcut
  cases kq with
  | zero => exact absurd HA.out (by simp [Z36.j0])
  | succ kj2 =>
   have H := HA.out
   clear HA
   simp only [Z36.j0] at H
   by_cases c18 : x23_2 = true
   ·subst c18
    have H1 : (some false) = some r := by rw [if_pos rfl] at H; exact H
    clear H
    have H := H1
    clear H1
    obtain rfl := Option.some.inj H
    go_wp2
    repeat (go_quiet (fail); try go_wp2)
    go_ret
    exact ⟨by first | rfl | (simp [errW_none, errW_some] <;> rfl) | (simp [*, errW_none, errW_some] <;> rfl), by repeat (first | (with_reducible first | exact HB.out | apply bA_ | apply bB_ | apply bC_ | refine bD_ ?_ GE389.out) | exact HB.out)⟩
   ·replace c18 := Bool.eq_false_iff.mpr c18
    subst c18
    have H1 : ((Z9.f kj2 l0_0).bind fun t392 => ((Z9.f kj2 l0_1).bind fun t395 => (Z36.l0 kj2 l1 t392 t395 (l1.length : Int) 0 l0_0 l0_1))) = some r := by rw [if_neg (show ¬ (false = true) by decide)] at H; exact H
    clear H
    have H := H1
    clear H1
    replace H := Option.bind_eq_some_iff.mp H
    obtain ⟨t392, A190, H⟩ := H
    replace H : ((Z9.f kj2 l0_1).bind fun t395 => (Z36.l0 kj2 l1 t392 t395 (l1.length : Int) 0 l0_0 l0_1)) = some r := H
    have A19 := A_ A190
    clear A190
    replace H := Option.bind_eq_some_iff.mp H
    obtain ⟨t395, A200, H⟩ := H
    replace H : (Z36.l0 kj2 l1 t392 t395 (l1.length : Int) 0 l0_0 l0_1) = some r := H
    have A20 := A_ A200
    clear A200
    have H' := A_ H
    clear H
    have hcz21_0 := cz0_ BK389.out
    have hcz21_1 := cz1_ BK389.out
    have hfz21_0 := kD_ BK389.out 0
    have hfz21_1 := kD_ BK389.out 1
    go_wp2_with (first | (go_at_call 119; (with_reducible refine (Z9.calls kj2 _ _ l0_0 t392 _ ?side1 ?side2 A19.out).mono ?_); (case side1 => repeat (first | exact (cD_ HR0_0.out HB.out) | (with_reducible first | refine cA_ ?_ _ | refine cB_ ?_ _ | refine cC_ ?_))); (case side2 => exact HC0_0.out); rintro e w22 ⟨v393, rfl, ho0, hb⟩; have n0_ := A_ (rE_ ho0 (bF_ (by repeat (first | (with_reducible first | exact HB.out | apply bA_ | apply bB_ | apply bC_ | refine bD_ ?_ GE389.out) | exact HB.out)))); have n1_ := A_ (kE_ (g := gb389) (by (with_reducible repeat (first | refine kA_ ?_ _ | refine kB_ ?_ | refine kC_ ?_ _)); exact BK389.out) hb); have n2_ := A_ (bE_ (by repeat (first | (with_reducible first | exact HB.out | apply bA_ | apply bB_ | apply bC_ | refine bD_ ?_ GE389.out) | exact HB.out)) hb); clear BK389; clear HB; have HO394 := n0_; have BK389 := n1_; have HB := n2_; clear n0_ n1_ n2_; (try clear hb); (try clear hb2); (try clear hk); (try clear hi); (try clear ho0); have hcz23_0 := cz0_ BK389.out; have hcz23_1 := cz1_ BK389.out; have hfz23_0 := kD_ BK389.out 0; have hfz23_1 := kD_ BK389.out 1) | (go_at_call 119; (with_reducible refine (Z9.calls kj2 _ _ l0_1 t395 _ ?side1 ?side2 A20.out).mono ?_); (case side1 => repeat (first | exact (cD_ HR0_1.out HB.out) | (with_reducible first | refine cA_ ?_ _ | refine cB_ ?_ _ | refine cC_ ?_))); (case side2 => exact HC0_1.out); rintro e w24 ⟨v396, rfl, ho0, hb⟩; have n0_ := A_ (Kd.R_elder' (by (with_reducible repeat (first | apply rA_ | apply rB_ | apply rC_)); exact HO394.out) (Kd.R_base ho0) hb); have n1_ := A_ (rE_ (Kd.R_new' ho0 (Kd.R_lt (by (with_reducible repeat (first | apply rA_ | apply rB_ | apply rC_)); exact HO394.out))) (bF_ (by repeat (first | (with_reducible first | exact HB.out | apply bA_ | apply bB_ | apply bC_ | refine bD_ ?_ GE389.out) | exact HB.out)))); have n2_ := A_ (kE_ (g := gb389) (by (with_reducible repeat (first | refine kA_ ?_ _ | refine kB_ ?_ | refine kC_ ?_ _)); exact BK389.out) hb); have n3_ := A_ (bE_ (by repeat (first | (with_reducible first | exact HB.out | apply bA_ | apply bB_ | apply bC_ | refine bD_ ?_ GE389.out) | exact HB.out)) hb); clear HO394; clear BK389; clear HB; have HO394 := n0_; have HO397 := n1_; have BK389 := n2_; have HB := n3_; clear n0_ n1_ n2_ n3_; (try clear hb); (try clear hb2); (try clear hk); (try clear hi); (try clear ho0)))
    repeat (go_quiet (first | (go_at_call 119; (with_reducible refine (Z9.calls kj2 _ _ l0_0 t392 _ ?side1 ?side2 A19.out).mono ?_); (case side1 => repeat (first | exact (cD_ HR0_0.out HB.out) | (with_reducible first | refine cA_ ?_ _ | refine cB_ ?_ _ | refine cC_ ?_))); (case side2 => exact HC0_0.out); rintro e w22 ⟨v393, rfl, ho0, hb⟩; have n0_ := A_ (rE_ ho0 (bF_ (by repeat (first | (with_reducible first | exact HB.out | apply bA_ | apply bB_ | apply bC_ | refine bD_ ?_ GE389.out) | exact HB.out)))); have n1_ := A_ (kE_ (g := gb389) (by (with_reducible repeat (first | refine kA_ ?_ _ | refine kB_ ?_ | refine kC_ ?_ _)); exact BK389.out) hb); have n2_ := A_ (bE_ (by repeat (first | (with_reducible first | exact HB.out | apply bA_ | apply bB_ | apply bC_ | refine bD_ ?_ GE389.out) | exact HB.out)) hb); clear BK389; clear HB; have HO394 := n0_; have BK389 := n1_; have HB := n2_; clear n0_ n1_ n2_; (try clear hb); (try clear hb2); (try clear hk); (try clear hi); (try clear ho0); have hcz23_0 := cz0_ BK389.out; have hcz23_1 := cz1_ BK389.out; have hfz23_0 := kD_ BK389.out 0; have hfz23_1 := kD_ BK389.out 1) | (go_at_call 119; (with_reducible refine (Z9.calls kj2 _ _ l0_1 t395 _ ?side1 ?side2 A20.out).mono ?_); (case side1 => repeat (first | exact (cD_ HR0_1.out HB.out) | (with_reducible first | refine cA_ ?_ _ | refine cB_ ?_ _ | refine cC_ ?_))); (case side2 => exact HC0_1.out); rintro e w24 ⟨v396, rfl, ho0, hb⟩; have n0_ := A_ (Kd.R_elder' (by (with_reducible repeat (first | apply rA_ | apply rB_ | apply rC_)); exact HO394.out) (Kd.R_base ho0) hb); have n1_ := A_ (rE_ (Kd.R_new' ho0 (Kd.R_lt (by (with_reducible repeat (first | apply rA_ | apply rB_ | apply rC_)); exact HO394.out))) (bF_ (by repeat (first | (with_reducible first | exact HB.out | apply bA_ | apply bB_ | apply bC_ | refine bD_ ?_ GE389.out) | exact HB.out)))); have n2_ := A_ (kE_ (g := gb389) (by (with_reducible repeat (first | refine kA_ ?_ _ | refine kB_ ?_ | refine kC_ ?_ _)); exact BK389.out) hb); have n3_ := A_ (bE_ (by repeat (first | (with_reducible first | exact HB.out | apply bA_ | apply bB_ | apply bC_ | refine bD_ ?_ GE389.out) | exact HB.out)) hb); clear HO394; clear BK389; clear HB; have HO394 := n0_; have HO397 := n1_; have BK389 := n2_; have HB := n3_; clear n0_ n1_ n2_ n3_; (try clear hb); (try clear hb2); (try clear hk); (try clear hi); (try clear ho0))); try go_wp2_with (first | (go_at_call 119; (with_reducible refine (Z9.calls kj2 _ _ l0_0 t392 _ ?side1 ?side2 A19.out).mono ?_); (case side1 => repeat (first | exact (cD_ HR0_0.out HB.out) | (with_reducible first | refine cA_ ?_ _ | refine cB_ ?_ _ | refine cC_ ?_))); (case side2 => exact HC0_0.out); rintro e w22 ⟨v393, rfl, ho0, hb⟩; have n0_ := A_ (rE_ ho0 (bF_ (by repeat (first | (with_reducible first | exact HB.out | apply bA_ | apply bB_ | apply bC_ | refine bD_ ?_ GE389.out) | exact HB.out)))); have n1_ := A_ (kE_ (g := gb389) (by (with_reducible repeat (first | refine kA_ ?_ _ | refine kB_ ?_ | refine kC_ ?_ _)); exact BK389.out) hb); have n2_ := A_ (bE_ (by repeat (first | (with_reducible first | exact HB.out | apply bA_ | apply bB_ | apply bC_ | refine bD_ ?_ GE389.out) | exact HB.out)) hb); clear BK389; clear HB; have HO394 := n0_; have BK389 := n1_; have HB := n2_; clear n0_ n1_ n2_; (try clear hb); (try clear hb2); (try clear hk); (try clear hi); (try clear ho0); have hcz23_0 := cz0_ BK389.out; have hcz23_1 := cz1_ BK389.out; have hfz23_0 := kD_ BK389.out 0; have hfz23_1 := kD_ BK389.out 1) | (go_at_call 119; (with_reducible refine (Z9.calls kj2 _ _ l0_1 t395 _ ?side1 ?side2 A20.out).mono ?_); (case side1 => repeat (first | exact (cD_ HR0_1.out HB.out) | (with_reducible first | refine cA_ ?_ _ | refine cB_ ?_ _ | refine cC_ ?_))); (case side2 => exact HC0_1.out); rintro e w24 ⟨v396, rfl, ho0, hb⟩; have n0_ := A_ (Kd.R_elder' (by (with_reducible repeat (first | apply rA_ | apply rB_ | apply rC_)); exact HO394.out) (Kd.R_base ho0) hb); have n1_ := A_ (rE_ (Kd.R_new' ho0 (Kd.R_lt (by (with_reducible repeat (first | apply rA_ | apply rB_ | apply rC_)); exact HO394.out))) (bF_ (by repeat (first | (with_reducible first | exact HB.out | apply bA_ | apply bB_ | apply bC_ | refine bD_ ?_ GE389.out) | exact HB.out)))); have n2_ := A_ (kE_ (g := gb389) (by (with_reducible repeat (first | refine kA_ ?_ _ | refine kB_ ?_ | refine kC_ ?_ _)); exact BK389.out) hb); have n3_ := A_ (bE_ (by repeat (first | (with_reducible first | exact HB.out | apply bA_ | apply bB_ | apply bC_ | refine bD_ ?_ GE389.out) | exact HB.out)) hb); clear HO394; clear BK389; clear HB; have HO394 := n0_; have HO397 := n1_; have BK389 := n2_; have HB := n3_; clear n0_ n1_ n2_ n3_; (try clear hb); (try clear hb2); (try clear hk); (try clear hi); (try clear ho0))))
    go_loopg [32] kj2 (fun kq v32 w' => ∃ (x32_2 : Int), v32 = .int .i64 x32_2 ∧ Aside0 (Z36.l0 kq l1 t392 t395 (l1.length : Int) x32_2 l0_0 l0_1 = some r) ∧ Aside0 (kq ≤ kj2) ∧ Aside0 (Kd.R (Kd.int .i64) 3 w' w.heap.size (fun k_ => some k_ ≠ (v396 : Value).ownBlock) v393 t392) ∧ Aside0 (Kd.R (Kd.int .i64) 3 w' w.heap.size (fun k_ => some k_ ≠ (v393 : Value).ownBlock) v396 t395) ∧ Aside0 (w'.heap[gb389]? = some (.cells #[(.slice A0_0 l0_0.length c0_0), (.slice A0_1 l0_1.length c0_1)] 27 (0, 0))) ∧ Aside0 (Below w.heap.size w w'))
    case atStart => exact ⟨(0), (by first | rfl | (simp; done) | (simp [*]; done)), H', ⟨nA_ _⟩, ⟨by (with_reducible repeat (first | apply rA_ | apply rB_ | apply rC_)); exact Kd.R_mono HO394.out (fun _ hk => hk.2)⟩, ⟨by (with_reducible repeat (first | apply rA_ | apply rB_ | apply rC_)); exact Kd.R_mono HO397.out (fun _ hk => hk.2)⟩, ⟨by (with_reducible repeat (first | refine kA_ ?_ _ | refine kB_ ?_ | refine kC_ ?_ _)); exact BK389.out⟩, ⟨by repeat (first | (with_reducible first | exact HB.out | apply bA_ | apply bB_ | apply bC_ | refine bD_ ?_ GE389.out) | exact HB.out)⟩⟩
    case round =>
     clear H'
     (try clear c1); (try clear p2); (try clear c6); (try clear c8); (try clear c10); (try clear c18); (try clear hcz12_0); (try clear hcz12_1); (try clear hcz13_0); (try clear hcz13_1); (try clear hcz16_0); (try clear hcz16_1); (try clear hcz21_0); (try clear hcz21_1); (try clear hcz23_0); (try clear hcz23_1); (try clear hcz9_0); (try clear hcz9_1); (try clear hfz12_0); (try clear hfz12_1); (try clear hfz13_0); (try clear hfz13_1); (try clear hfz16_0); (try clear hfz16_1); (try clear hfz21_0); (try clear hfz21_1); (try clear hfz23_0); (try clear hfz23_1); (try clear hfz9_0); (try clear hfz9_1); (try clear p2)
     obtain ⟨x32_2, rfl, HA, HK2, HO_5, HO_6, BK389, HB⟩ := hrel
     cases gk with
     | zero => exact absurd HA.out (by simp [Z36.l0])
     | succ k2 =>
      have H := HA.out
      clear HA
      simp only [Z36.l0] at H
      by_cases c25 : x32_2 < (l1.length : Int)
      ·rw [if_pos c25] at H
       have c25b0 : decide (x32_2 < (l1.length : Int)) = true := oC_ c25
       clear c25
       by_cases c26 : 0 ≤ x32_2
       ·rw [if_pos c26] at H
        have c26b0 : decide (0 ≤ x32_2) = true := oC_ c26
        clear c26
        by_cases c27 : x32_2 < (l0_0.length : Int)
        ·rw [if_pos c27] at H
         have c27b0 : decide (x32_2 < (l0_0.length : Int)) = true := oC_ c27
         clear c27
         by_cases c28 : 0 ≤ (rd l0_0 x32_2)
         ·rw [if_pos c28] at H
          have c28b0 : decide (0 ≤ (rd l0_0 x32_2)) = true := oC_ c28
          clear c28
          by_cases c29 : (rd l0_0 x32_2) < (l1.length : Int)
          ·rw [if_pos c29] at H
           have c29b0 : decide ((rd l0_0 x32_2) < (l1.length : Int)) = true := oC_ c29
           clear c29
           by_cases c30 : x32_2 < (l1.length : Int)
           ·rw [if_pos c30] at H
            have c30b0 : decide (x32_2 < (l1.length : Int)) = true := oC_ c30
            clear c30
            by_cases c31 : 0 ≤ (rd l1 x32_2)
            ·rw [if_pos c31] at H
             have c31b0 : decide (0 ≤ (rd l1 x32_2)) = true := oC_ c31
             clear c31
             by_cases c32 : (rd l1 x32_2) < (t392.length : Int)
             ·rw [if_pos c32] at H
              have c32b0 : decide ((rd l1 x32_2) < (t392.length : Int)) = true := oC_ c32
              clear c32
              by_cases c33 : (rd l1 (rd l0_0 x32_2)) = (rd t392 (rd l1 x32_2))
              ·rw [if_pos c33] at H
               have c33b0 : ((rd l1 (rd l0_0 x32_2)) == (rd t392 (rd l1 x32_2))) = true := beq_iff_eq.mpr c33
               have c33b1 : ((rd l1 (rd l0_0 x32_2)) != (rd t392 (rd l1 x32_2))) = false := bne_eq_false_iff_eq.mpr c33
               clear c33
               by_cases c34 : x32_2 < (l0_1.length : Int)
               ·rw [if_pos c34] at H
                have c34b0 : decide (x32_2 < (l0_1.length : Int)) = true := oC_ c34
                clear c34
                by_cases c35 : 0 ≤ (rd l0_1 x32_2)
                ·rw [if_pos c35] at H
                 have c35b0 : decide (0 ≤ (rd l0_1 x32_2)) = true := oC_ c35
                 clear c35
                 by_cases c36 : (rd l0_1 x32_2) < (l1.length : Int)
                 ·rw [if_pos c36] at H
                  have c36b0 : decide ((rd l0_1 x32_2) < (l1.length : Int)) = true := oC_ c36
                  clear c36
                  by_cases c37 : (rd l1 x32_2) < (t395.length : Int)
                  ·rw [if_pos c37] at H
                   have c37b0 : decide ((rd l1 x32_2) < (t395.length : Int)) = true := oC_ c37
                   clear c37
                   by_cases c38 : (rd l1 (rd l0_1 x32_2)) = (rd t395 (rd l1 x32_2))
                   ·rw [if_pos c38] at H
                    have c38b0 : ((rd l1 (rd l0_1 x32_2)) == (rd t395 (rd l1 x32_2))) = true := beq_iff_eq.mpr c38
                    have c38b1 : ((rd l1 (rd l0_1 x32_2)) != (rd t395 (rd l1 x32_2))) = false := bne_eq_false_iff_eq.mpr c38
                    clear c38
                    have H' := A_ H
                    clear H
                    have hcz39_0 := cz0_ BK389.out
                    have hcz39_1 := cz1_ BK389.out
                    have hfz39_0 := kD_ BK389.out 0
                    have hfz39_1 := kD_ BK389.out 1
                    have p398 : 0 ≤ (x32_2 : Int) := oB_ (by first | (with_reducible assumption) | assumption)
                    have q398 : x32_2 < (l0_0.length : Int) := oB_ (by first | (with_reducible assumption) | assumption)
                    obtain ⟨ad398, e398, hx398_0⟩ := Kd.at_int HR0_0.out x32_2 p398 q398
                    cases e398
                    replace hx398_0 := (HB.out.cell (World.block_lt_of_cell? w _ hx398_0)).trans hx398_0
                    replace p398 := eq_true p398
                    replace q398 := eq_true q398
                    have p399 : 0 ≤ ((rd l0_0 x32_2) : Int) := oB_ (by first | (with_reducible assumption) | assumption)
                    have q399 : (rd l0_0 x32_2) < (l1.length : Int) := oB_ (by first | (with_reducible assumption) | assumption)
                    obtain ⟨ad399, e399, hx399_0⟩ := Kd.at_int HR1.out (rd l0_0 x32_2) p399 q399
                    cases e399
                    replace hx399_0 := (HB.out.cell (World.block_lt_of_cell? w _ hx399_0)).trans hx399_0
                    replace p399 := eq_true p399
                    replace q399 := eq_true q399
                    have p400 : 0 ≤ (x32_2 : Int) := oB_ (by first | (with_reducible assumption) | assumption)
                    have q400 : x32_2 < (l1.length : Int) := oB_ (by first | (with_reducible assumption) | assumption)
                    obtain ⟨ad400, e400, hx400_0⟩ := Kd.at_int HR1.out x32_2 p400 q400
                    obtain rfl : ad399 = ad400 := (by injection e400)
                    replace hx400_0 := (HB.out.cell (World.block_lt_of_cell? w _ hx400_0)).trans hx400_0
                    replace p400 := eq_true p400
                    replace q400 := eq_true q400
                    obtain ⟨Ao40, co40, eo40⟩ := Kd.R_slice HO_5.out
                    subst eo40
                    have p401 : 0 ≤ ((rd l1 x32_2) : Int) := oB_ (by first | (with_reducible assumption) | assumption)
                    have q401 : (rd l1 x32_2) < (t392.length : Int) := oB_ (by first | (with_reducible assumption) | assumption)
                    obtain ⟨ad401, e401, hx401_0⟩ := Kd.at_int (Kd.R_reads' HO_5.out).2.2 (rd l1 x32_2) p401 q401
                    cases e401
                    replace p401 := eq_true p401
                    replace q401 := eq_true q401
                    have p402 : 0 ≤ (x32_2 : Int) := oB_ (by first | (with_reducible assumption) | assumption)
                    have q402 : x32_2 < (l0_1.length : Int) := oB_ (by first | (with_reducible assumption) | assumption)
                    obtain ⟨ad402, e402, hx402_0⟩ := Kd.at_int HR0_1.out x32_2 p402 q402
                    cases e402
                    replace hx402_0 := (HB.out.cell (World.block_lt_of_cell? w _ hx402_0)).trans hx402_0
                    replace p402 := eq_true p402
                    replace q402 := eq_true q402
                    have p403 : 0 ≤ ((rd l0_1 x32_2) : Int) := oB_ (by first | (with_reducible assumption) | assumption)
                    have q403 : (rd l0_1 x32_2) < (l1.length : Int) := oB_ (by first | (with_reducible assumption) | assumption)
                    obtain ⟨ad403, e403, hx403_0⟩ := Kd.at_int HR1.out (rd l0_1 x32_2) p403 q403
                    obtain rfl : ad399 = ad403 := (by injection e403)
                    replace hx403_0 := (HB.out.cell (World.block_lt_of_cell? w _ hx403_0)).trans hx403_0
                    replace p403 := eq_true p403
                    replace q403 := eq_true q403
                    have p404 : 0 ≤ (x32_2 : Int) := oB_ (by first | (with_reducible assumption) | assumption)
                    have q404 : x32_2 < (l1.length : Int) := oB_ (by first | (with_reducible assumption) | assumption)
                    obtain ⟨ad404, e404, hx404_0⟩ := Kd.at_int HR1.out x32_2 p404 q404
                    obtain rfl : ad399 = ad404 := (by injection e404)
                    replace hx404_0 := (HB.out.cell (World.block_lt_of_cell? w _ hx404_0)).trans hx404_0
                    replace p404 := eq_true p404
                    replace q404 := eq_true q404
                    obtain ⟨Ao41, co41, eo41⟩ := Kd.R_slice HO_6.out
                    subst eo41
                    have p405 : 0 ≤ ((rd l1 x32_2) : Int) := oB_ (by first | (with_reducible assumption) | assumption)
                    have q405 : (rd l1 x32_2) < (t395.length : Int) := oB_ (by first | (with_reducible assumption) | assumption)
                    obtain ⟨ad405, e405, hx405_0⟩ := Kd.at_int (Kd.R_reads' HO_6.out).2.2 (rd l1 x32_2) p405 q405
                    cases e405
                    replace p405 := eq_true p405
                    replace q405 := eq_true q405
                    go_wp2
                    repeat (go_quiet (fail); try go_wp2)
                    go_roundg k2
                    case measure => have := HJ2.out; have := HK2.out; omega
                    case rel => exact ⟨(wrap64 (x32_2 + 1)), (by first | rfl | (simp; done) | (simp [*]; done)), H', ⟨by have := HJ2.out; have := HK2.out; omega⟩, ⟨by (with_reducible repeat (first | apply rA_ | apply rB_ | apply rC_)); exact HO_5.out⟩, ⟨by (with_reducible repeat (first | apply rA_ | apply rB_ | apply rC_)); exact HO_6.out⟩, ⟨by (with_reducible repeat (first | refine kA_ ?_ _ | refine kB_ ?_ | refine kC_ ?_ _)); exact BK389.out⟩, ⟨by repeat (first | (with_reducible first | exact HB.out | apply bA_ | apply bB_ | apply bC_ | refine bD_ ?_ GE389.out) | exact HB.out)⟩⟩
                   ·rw [if_neg c38] at H
                    have c38b0 : ((rd l1 (rd l0_1 x32_2)) == (rd t395 (rd l1 x32_2))) = false := beq_eq_false_iff_ne.mpr c38
                    have c38b1 : ((rd l1 (rd l0_1 x32_2)) != (rd t395 (rd l1 x32_2))) = true := bne_iff_ne.mpr c38
                    obtain rfl := Option.some.inj H
                    have hcz42_0 := cz0_ BK389.out
                    have hcz42_1 := cz1_ BK389.out
                    have hfz42_0 := kD_ BK389.out 0
                    have hfz42_1 := kD_ BK389.out 1
                    have p398 : 0 ≤ (x32_2 : Int) := oB_ (by first | (with_reducible assumption) | assumption)
                    have q398 : x32_2 < (l0_0.length : Int) := oB_ (by first | (with_reducible assumption) | assumption)
                    obtain ⟨ad398, e398, hx398_0⟩ := Kd.at_int HR0_0.out x32_2 p398 q398
                    cases e398
                    replace hx398_0 := (HB.out.cell (World.block_lt_of_cell? w _ hx398_0)).trans hx398_0
                    replace p398 := eq_true p398
                    replace q398 := eq_true q398
                    have p399 : 0 ≤ ((rd l0_0 x32_2) : Int) := oB_ (by first | (with_reducible assumption) | assumption)
                    have q399 : (rd l0_0 x32_2) < (l1.length : Int) := oB_ (by first | (with_reducible assumption) | assumption)
                    obtain ⟨ad399, e399, hx399_0⟩ := Kd.at_int HR1.out (rd l0_0 x32_2) p399 q399
                    cases e399
                    replace hx399_0 := (HB.out.cell (World.block_lt_of_cell? w _ hx399_0)).trans hx399_0
                    replace p399 := eq_true p399
                    replace q399 := eq_true q399
                    have p400 : 0 ≤ (x32_2 : Int) := oB_ (by first | (with_reducible assumption) | assumption)
                    have q400 : x32_2 < (l1.length : Int) := oB_ (by first | (with_reducible assumption) | assumption)
                    obtain ⟨ad400, e400, hx400_0⟩ := Kd.at_int HR1.out x32_2 p400 q400
                    obtain rfl : ad399 = ad400 := (by injection e400)
                    replace hx400_0 := (HB.out.cell (World.block_lt_of_cell? w _ hx400_0)).trans hx400_0
                    replace p400 := eq_true p400
                    replace q400 := eq_true q400
                    obtain ⟨Ao43, co43, eo43⟩ := Kd.R_slice HO_5.out
                    subst eo43
                    have p401 : 0 ≤ ((rd l1 x32_2) : Int) := oB_ (by first | (with_reducible assumption) | assumption)
                    have q401 : (rd l1 x32_2) < (t392.length : Int) := oB_ (by first | (with_reducible assumption) | assumption)
                    obtain ⟨ad401, e401, hx401_0⟩ := Kd.at_int (Kd.R_reads' HO_5.out).2.2 (rd l1 x32_2) p401 q401
                    cases e401
                    replace p401 := eq_true p401
                    replace q401 := eq_true q401
                    have p402 : 0 ≤ (x32_2 : Int) := oB_ (by first | (with_reducible assumption) | assumption)
                    have q402 : x32_2 < (l0_1.length : Int) := oB_ (by first | (with_reducible assumption) | assumption)
                    obtain ⟨ad402, e402, hx402_0⟩ := Kd.at_int HR0_1.out x32_2 p402 q402
                    cases e402
                    replace hx402_0 := (HB.out.cell (World.block_lt_of_cell? w _ hx402_0)).trans hx402_0
                    replace p402 := eq_true p402
                    replace q402 := eq_true q402
                    have p403 : 0 ≤ ((rd l0_1 x32_2) : Int) := oB_ (by first | (with_reducible assumption) | assumption)
                    have q403 : (rd l0_1 x32_2) < (l1.length : Int) := oB_ (by first | (with_reducible assumption) | assumption)
                    obtain ⟨ad403, e403, hx403_0⟩ := Kd.at_int HR1.out (rd l0_1 x32_2) p403 q403
                    obtain rfl : ad399 = ad403 := (by injection e403)
                    replace hx403_0 := (HB.out.cell (World.block_lt_of_cell? w _ hx403_0)).trans hx403_0
                    replace p403 := eq_true p403
                    replace q403 := eq_true q403
                    have p404 : 0 ≤ (x32_2 : Int) := oB_ (by first | (with_reducible assumption) | assumption)
                    have q404 : x32_2 < (l1.length : Int) := oB_ (by first | (with_reducible assumption) | assumption)
                    obtain ⟨ad404, e404, hx404_0⟩ := Kd.at_int HR1.out x32_2 p404 q404
                    obtain rfl : ad399 = ad404 := (by injection e404)
                    replace hx404_0 := (HB.out.cell (World.block_lt_of_cell? w _ hx404_0)).trans hx404_0
                    replace p404 := eq_true p404
                    replace q404 := eq_true q404
                    obtain ⟨Ao44, co44, eo44⟩ := Kd.R_slice HO_6.out
                    subst eo44
                    have p405 : 0 ≤ ((rd l1 x32_2) : Int) := oB_ (by first | (with_reducible assumption) | assumption)
                    have q405 : (rd l1 x32_2) < (t395.length : Int) := oB_ (by first | (with_reducible assumption) | assumption)
                    obtain ⟨ad405, e405, hx405_0⟩ := Kd.at_int (Kd.R_reads' HO_6.out).2.2 (rd l1 x32_2) p405 q405
                    cases e405
                    replace p405 := eq_true p405
                    replace q405 := eq_true q405
                    go_wp2
                    repeat (go_quiet (fail); try go_wp2)
                    go_ret
                    exact ⟨by first | rfl | (simp [errW_none, errW_some] <;> rfl) | (simp [*, errW_none, errW_some] <;> rfl), by repeat (first | (with_reducible first | exact HB.out | apply bA_ | apply bB_ | apply bC_ | refine bD_ ?_ GE389.out) | exact HB.out)⟩
                  ·rw [if_neg c37] at H
                   exact absurd H (by simp)
                 ·rw [if_neg c36] at H
                  exact absurd H (by simp)
                ·rw [if_neg c35] at H
                 exact absurd H (by simp)
               ·rw [if_neg c34] at H
                exact absurd H (by simp)
              ·rw [if_neg c33] at H
               have c33b0 : ((rd l1 (rd l0_0 x32_2)) == (rd t392 (rd l1 x32_2))) = false := beq_eq_false_iff_ne.mpr c33
               have c33b1 : ((rd l1 (rd l0_0 x32_2)) != (rd t392 (rd l1 x32_2))) = true := bne_iff_ne.mpr c33
               obtain rfl := Option.some.inj H
               have hcz45_0 := cz0_ BK389.out
               have hcz45_1 := cz1_ BK389.out
               have hfz45_0 := kD_ BK389.out 0
               have hfz45_1 := kD_ BK389.out 1
               have p398 : 0 ≤ (x32_2 : Int) := oB_ (by first | (with_reducible assumption) | assumption)
               have q398 : x32_2 < (l0_0.length : Int) := oB_ (by first | (with_reducible assumption) | assumption)
               obtain ⟨ad398, e398, hx398_0⟩ := Kd.at_int HR0_0.out x32_2 p398 q398
               cases e398
               replace hx398_0 := (HB.out.cell (World.block_lt_of_cell? w _ hx398_0)).trans hx398_0
               replace p398 := eq_true p398
               replace q398 := eq_true q398
               have p399 : 0 ≤ ((rd l0_0 x32_2) : Int) := oB_ (by first | (with_reducible assumption) | assumption)
               have q399 : (rd l0_0 x32_2) < (l1.length : Int) := oB_ (by first | (with_reducible assumption) | assumption)
               obtain ⟨ad399, e399, hx399_0⟩ := Kd.at_int HR1.out (rd l0_0 x32_2) p399 q399
               cases e399
               replace hx399_0 := (HB.out.cell (World.block_lt_of_cell? w _ hx399_0)).trans hx399_0
               replace p399 := eq_true p399
               replace q399 := eq_true q399
               have p400 : 0 ≤ (x32_2 : Int) := oB_ (by first | (with_reducible assumption) | assumption)
               have q400 : x32_2 < (l1.length : Int) := oB_ (by first | (with_reducible assumption) | assumption)
               obtain ⟨ad400, e400, hx400_0⟩ := Kd.at_int HR1.out x32_2 p400 q400
               obtain rfl : ad399 = ad400 := (by injection e400)
               replace hx400_0 := (HB.out.cell (World.block_lt_of_cell? w _ hx400_0)).trans hx400_0
               replace p400 := eq_true p400
               replace q400 := eq_true q400
               obtain ⟨Ao46, co46, eo46⟩ := Kd.R_slice HO_5.out
               subst eo46
               have p401 : 0 ≤ ((rd l1 x32_2) : Int) := oB_ (by first | (with_reducible assumption) | assumption)
               have q401 : (rd l1 x32_2) < (t392.length : Int) := oB_ (by first | (with_reducible assumption) | assumption)
               obtain ⟨ad401, e401, hx401_0⟩ := Kd.at_int (Kd.R_reads' HO_5.out).2.2 (rd l1 x32_2) p401 q401
               cases e401
               replace p401 := eq_true p401
               replace q401 := eq_true q401
               go_wp2
               repeat (go_quiet (fail); try go_wp2)
               go_ret
               exact ⟨by first | rfl | (simp [errW_none, errW_some] <;> rfl) | (simp [*, errW_none, errW_some] <;> rfl), by repeat (first | (with_reducible first | exact HB.out | apply bA_ | apply bB_ | apply bC_ | refine bD_ ?_ GE389.out) | exact HB.out)⟩
             ·rw [if_neg c32] at H
              exact absurd H (by simp)
            ·rw [if_neg c31] at H
             exact absurd H (by simp)
           ·rw [if_neg c30] at H
            exact absurd H (by simp)
          ·rw [if_neg c29] at H
           exact absurd H (by simp)
         ·rw [if_neg c28] at H
          exact absurd H (by simp)
        ·rw [if_neg c27] at H
         exact absurd H (by simp)
       ·rw [if_neg c26] at H
        exact absurd H (by simp)
      ·rw [if_neg c25] at H
       have c25b0 : decide (x32_2 < (l1.length : Int)) = false := oD_ c25
       clear c25
       obtain rfl := Option.some.inj H
       go_wp2
       repeat (go_quiet (fail); try go_wp2)
       go_ret
       exact ⟨by first | rfl | (simp [errW_none, errW_some] <;> rfl) | (simp [*, errW_none, errW_some] <;> rfl), by repeat (first | (with_reducible first | exact HB.out | apply bA_ | apply bB_ | apply bC_ | refine bD_ ?_ GE389.out) | exact HB.out)⟩
end Go.Proofs.Ytbdnellgioimbaa.A
end
section
namespace Go.Proofs.Ytbdnellgioimbaa.A
open Go.RowKit Go.Proofs.YtbdnellgioimbaaW.PrintWords Go.Proofs.YtbdnellgioimbaaW.PrintLast Go.Proofs.YtbdnellgioimbaaW.PrintMore
attribute [local go_sem] max2_int min2_int max_two min_two max_three min_three max_four min_four
set_option linter.unusedVariables false
set_option linter.unusedSimpArgs false
def Z30.l0 : Nat → List (List Int) → Int → Int → List Int → List Int → Option ((List (List Int)))
 | 0, _, _, _, _, _ => none
 | k + 1, x3, x12, x13, x407000, x407001 => if x13 < x12 then ((Z38.f k x407000 x407001 x13).bind fun t411 => ((Z36.f k x407000 x407001 t411).bind fun t414 => (if t414 = true then (if x3.length < 5864062014805 then (Z30.l0 k (x3 ++ [t411]) x12 (wrap64 (x13 + 1)) x407000 x407001) else (none)) else (Z30.l0 k x3 x12 (wrap64 (x13 + 1)) x407000 x407001)))) else (some x3)
def Z30.f (k : Nat) (l0_0 : List Int) (l0_1 : List Int) : Option ((List (List Int))) := (Z16.f k l0_0 l0_1).bind fun t407 => (if t407 = true then (Z30.l0 k (([] : List (List Int))) (l0_0.length : Int) 0 l0_0 l0_1) else (some ([] : List (List Int))))
theorem Z30.mono_l : ∀ k, (∀ y0 y1 y2 y3 y4, LeO (Z30.l0 k y0 y1 y2 y3 y4) (Z30.l0 (k + 1) y0 y1 y2 y3 y4))
 | 0 => fun _ _ _ _ _ r h => by simp [Z30.l0] at h
 | k + 1 => by
  have ih0 := Z30.mono_l k
  ·intro y0 y1 y2 y3 y4
   unfold Z30.l0
   repeat' first
   | (with_reducible exact ih0 _ _ _ _ _)
   | (with_reducible exact Z36.mono _ _ _ _)
   | (with_reducible exact Z16.mono _ _ _)
   | (with_reducible exact Z38.mono _ _ _ _)
   | (with_reducible exact LeO.refl _)
   | (with_reducible exact LeO.none _)
   | (with_reducible refine LeO.ite ?_ ?_)
   | (with_reducible refine LeO.bind ?_ (fun _ => ?_))
   | exact ih0 _ _ _ _ _
   | exact Z36.mono _ _ _ _
   | exact Z16.mono _ _ _
   | exact Z38.mono _ _ _ _
   | exact LeO.none _
   | refine LeO.ite ?_ ?_
   | refine LeO.bind ?_ (fun _ => ?_)
theorem Z30.mono : ∀ a0 a1 k, LeO (Z30.f k a0 a1) (Z30.f (k + 1) a0 a1) := by
 intro a0 a1 k
 have ih0 := Z30.mono_l k
 unfold Z30.f
 repeat' first
   | (with_reducible exact ih0 _ _ _ _ _)
   | (with_reducible exact Z36.mono _ _ _ _)
   | (with_reducible exact Z16.mono _ _ _)
   | (with_reducible exact Z38.mono _ _ _ _)
   | (with_reducible exact LeO.refl _)
   | (with_reducible exact LeO.none _)
   | (with_reducible refine LeO.ite ?_ ?_)
   | (with_reducible refine LeO.bind ?_ (fun _ => ?_))
   | exact ih0 _ _ _ _ _
   | exact Z36.mono _ _ _ _
   | exact Z16.mono _ _ _
   | exact Z38.mono _ _ _ _
   | exact LeO.none _
   | refine LeO.ite ?_ ?_
   | refine LeO.bind ?_ (fun _ => ?_)
set_option maxHeartbeats 8000000 in
set_option maxRecDepth 100000 in
theorem Z30.calls (k : Nat) (A0_0 : Option Addr) (c0_0 : Nat) (l0_0 : List Int) (A0_1 : Option Addr) (c0_1 : Nat) (l0_1 : List Int) (r : List (List Int)) (w : World) (hr0_0 : Kd.C (Kd.int .i64) w A0_0 l0_0.length l0_0) (hc0_0 : l0_0.length ≤ c0_0) (hr0_1 : Kd.C (Kd.int .i64) w A0_1 l0_1.length l0_1) (hc0_1 : l0_1.length ≤ c0_1) (h : Z30.f k l0_0 l0_1 = some r) :
  Calls Try.prog 61 #[.agg #[.slice A0_0 l0_0.length c0_0, .slice A0_1 l0_1.length c0_1]] w fun e w' => ∃ v0_ : Value, e = .returned (v0_) ∧ Kd.S (Kd.slice 3 (Kd.int .i64)) 22 w' w.heap.size (fun _ => True) v0_ r ∧ Below w.heap.size w w' := by
 have hu27 := Try.underlying27
 have HR0_0 := A_ hr0_0
 have HC0_0 := A_ hc0_0
 clear hr0_0 hc0_0
 have HR0_1 := A_ hr0_1
 have HC0_1 := A_ hc0_1
 clear hr0_1 hc0_1
 have HB := A_ (Below.refl w.heap.size w)
 have H : ((Z16.f k l0_0 l0_1).bind fun t407 => (if t407 = true then (Z30.l0 k (([] : List (List Int))) (l0_0.length : Int) 0 l0_0 l0_1) else (some ([] : List (List Int))))) = some r := h
 clear h
 replace H := Option.bind_eq_some_iff.mp H
 obtain ⟨t407, A20, H⟩ := H
 replace H : (if t407 = true then (Z30.l0 k (([] : List (List Int))) (l0_0.length : Int) 0 l0_0 l0_1) else (some ([] : List (List Int)))) = some r := H
 have A2 := A_ A20
 clear A20
 by_cases c3 : t407 = true
 ·subst c3
  have H1 : (Z30.l0 k (([] : List (List Int))) (l0_0.length : Int) 0 l0_0 l0_1) = some r := by rw [if_pos rfl] at H; exact H
  clear H
  have H := H1
  clear H1
  obtain ⟨y408, hy408⟩ : ∃ y_ : List (List Int), y_ = (([] : List (List Int))) := ⟨_, rfl⟩
  replace H : (Z30.l0 k y408 (l0_0.length : Int) 0 l0_0 l0_1) = some r := by first | (rw [hy408]; with_reducible exact H) | (have H2_ := (oA_ _ _).symm.trans H; rw [hy408]; with_reducible exact H2_) | (have H2_ := (oA_ _ _).symm.trans H; with_reducible exact H2_) | with_reducible exact H | (rw [hy408]; exact H) | exact H
  have Ny408 := A_ hy408
  clear hy408
  have H' := A_ H
  clear H
  go_enter Try.func61, Try.ntmps61
  go_wp2_with (first | ((with_reducible refine gB_ (N := 1) rfl ?_); refine xA_ ?hg (N := 1) ?hd (cs := #[.slice A0_0 l0_0.length c0_0, .slice A0_1 l0_1.length c0_1]) (t := 27) ?hr ?_; (case hd => rfl); (case hg => rfl); (case hr => first | (go_simp; done) | (go_simp; rfl)); intro gb406 hg w4 hbox hb; have n0_ := A_ (bE_ (by repeat (first | (with_reducible first | exact HB.out | apply bA_ | apply bB_ | apply bC_) | exact HB.out)) hb); have n1_ := A_ (hbox); have n2_ := A_ ((by rw [hg]; exact (bF_ (by repeat (first | (with_reducible first | exact HB.out | apply bA_ | apply bB_ | apply bC_) | exact HB.out))) : w.heap.size ≤ gb406)); have n3_ := A_ ((by rw [hg]; exact (bF_ (by repeat (first | (with_reducible first | exact HB.out | apply bA_ | apply bB_ | apply bC_) | exact HB.out))) : w.heap.size ≤ gb406)); clear HB; have HB := n0_; have BK406 := n1_; have GW406 := n2_; have GE406 := n3_; clear n0_ n1_ n2_ n3_; clear hb hbox hg; have hcz5_0 := cz0_ BK406.out; have hcz5_1 := cz1_ BK406.out; have hfz5_0 := kD_ BK406.out 0; have hfz5_1 := kD_ BK406.out 1) | ((with_reducible refine gA_ (f := 65) rfl ?_); refine goesL_ (some 7) rfl rfl Try.func65 (by kernel_rfl) rfl #[.agg #[.slice A0_0 l0_0.length c0_0, .slice A0_1 l0_1.length c0_1]] rfl (by (try simp only [mA_, mB_, mC_]); first | done | rfl | (simp only [lA_, lB_]; rfl)) ?_; (with_reducible refine (Z16.calls k _ _ l0_0 _ _ l0_1 true _ ?side1 ?side2 ?side3 ?side4 A2.out).mono ?_); (case side1 => repeat (first | exact (cD_ HR0_0.out HB.out) | (with_reducible first | refine cA_ ?_ _ | refine cB_ ?_ _ | refine cC_ ?_))); (case side2 => exact HC0_0.out); (case side3 => repeat (first | exact (cD_ HR0_1.out HB.out) | (with_reducible first | refine cA_ ?_ _ | refine cB_ ?_ _ | refine cC_ ?_))); (case side4 => exact HC0_1.out); rintro e w6 ⟨rfl, hb⟩; refine ⟨_, rfl, ?_⟩; have n0_ := A_ (kE_ (g := gb406) (by (with_reducible repeat (first | refine kA_ ?_ _ | refine kB_ ?_ | refine kC_ ?_ _)); exact BK406.out) hb); have n1_ := A_ (bE_ (by repeat (first | (with_reducible first | exact HB.out | apply bA_ | apply bB_ | apply bC_ | refine bD_ ?_ GE406.out) | exact HB.out)) hb); clear BK406; clear HB; have BK406 := n0_; have HB := n1_; clear n0_ n1_; (try clear hb); (try clear hb2); (try clear hk); (try clear hi)) | ((with_reducible refine gB_ (N := 9) rfl ?_); refine Kd.S_lit (Kd.slice 3 (Kd.int .i64)) _ 22 ?hg (N := 9) ?hd (xs := ([] : List (List Int))) (inner := []) (ok := fun _ => True) (okp := fun _ => True) ?hr ?hp (fun _ hk => hk) trivial (Below.refl _ _) (nA_ _) (by simp) ?_; (case hd => rfl); (case hg => rfl); (case hr => first | (go_simp; done) | (go_simp; rfl)); (case hp => exact (Reps.none _ _)); intro v409 w7 ho8 hb hg_ hnew_; clear hg_ hnew_; (first | rw [← Ny408.out] at ho8 | (simp only [Int.reduceToNat] at ho8; rw [← Ny408.out] at ho8)); have n0_ := A_ (Kd.S_lower ho8 (bF_ (by repeat (first | (with_reducible first | exact HB.out | apply bA_ | apply bB_ | apply bC_ | refine bD_ ?_ GE406.out) | exact HB.out)))); have n1_ := A_ (kE_ (g := gb406) (by (with_reducible repeat (first | refine kA_ ?_ _ | refine kB_ ?_ | refine kC_ ?_ _)); exact BK406.out) hb); have n2_ := A_ (bE_ (by repeat (first | (with_reducible first | exact HB.out | apply bA_ | apply bB_ | apply bC_ | refine bD_ ?_ GE406.out) | exact HB.out)) hb); clear BK406; clear HB; have HO410 := n0_; have BK406 := n1_; have HB := n2_; clear n0_ n1_ n2_; clear hb ho8; have hcz9_0 := cz0_ BK406.out; have hcz9_1 := cz1_ BK406.out; have hfz9_0 := kD_ BK406.out 0; have hfz9_1 := kD_ BK406.out 1))
  go_loopg [3, 13] k (fun kq v3 v13 w' => ∃ (x3_1 : List (List Int)) (x13_1 : Int), v13 = .int .i64 x13_1 ∧ Aside0 (Z30.l0 kq x3_1 (l0_0.length : Int) x13_1 l0_0 l0_1 = some r) ∧ Aside0 (kq ≤ k) ∧ Aside0 (Kd.S (Kd.slice 3 (Kd.int .i64)) 22 w' w.heap.size (fun _ => True) v3 x3_1) ∧ Aside0 (w'.heap[gb406]? = some (.cells #[(.slice A0_0 l0_0.length c0_0), (.slice A0_1 l0_1.length c0_1)] 27 (0, 0))) ∧ Aside0 (Below w.heap.size w w'))
  case atStart => exact ⟨(y408), (0), (by first | rfl | (simp; done) | (simp [*]; done)), H', ⟨nA_ _⟩, ⟨by (with_reducible repeat (first | apply Kd.S_alloc | apply Kd.S_drewN | apply Kd.S_drew)); exact HO410.out⟩, ⟨by (with_reducible repeat (first | refine kA_ ?_ _ | refine kB_ ?_ | refine kC_ ?_ _)); exact BK406.out⟩, ⟨by repeat (first | (with_reducible first | exact HB.out | apply bA_ | apply bB_ | apply bC_ | refine bD_ ?_ GE406.out) | exact HB.out)⟩⟩
  case round =>
   clear H'
   (try clear p2); (try clear c3); (try clear c6); (try clear hcz5_0); (try clear hcz5_1); (try clear hcz9_0); (try clear hcz9_1); (try clear hfz5_0); (try clear hfz5_1); (try clear hfz9_0); (try clear hfz9_1)
   obtain ⟨x3_1, x13_1, rfl, HA, HK1, HO_3, BK406, HB⟩ := hrel
   cases gk with
   | zero => exact absurd HA.out (by simp [Z30.l0])
   | succ k1 =>
    have H := HA.out
    clear HA
    simp only [Z30.l0] at H
    by_cases c10 : x13_1 < (l0_0.length : Int)
    ·rw [if_pos c10] at H
     have c10b0 : decide (x13_1 < (l0_0.length : Int)) = true := oC_ c10
     clear c10
     replace H := Option.bind_eq_some_iff.mp H
     obtain ⟨t411, A110, H⟩ := H
     replace H : ((Z36.f k1 l0_0 l0_1 t411).bind fun t414 => (if t414 = true then (if x3_1.length < 5864062014805 then (Z30.l0 k1 (x3_1 ++ [t411]) (l0_0.length : Int) (wrap64 (x13_1 + 1)) l0_0 l0_1) else (none)) else (Z30.l0 k1 x3_1 (l0_0.length : Int) (wrap64 (x13_1 + 1)) l0_0 l0_1))) = some r := H
     have A11 := A_ A110
     clear A110
     replace H := Option.bind_eq_some_iff.mp H
     obtain ⟨t414, A120, H⟩ := H
     replace H : (if t414 = true then (if x3_1.length < 5864062014805 then (Z30.l0 k1 (x3_1 ++ [t411]) (l0_0.length : Int) (wrap64 (x13_1 + 1)) l0_0 l0_1) else (none)) else (Z30.l0 k1 x3_1 (l0_0.length : Int) (wrap64 (x13_1 + 1)) l0_0 l0_1)) = some r := H
     have A12 := A_ A120
     clear A120
     by_cases c13 : t414 = true
     ·subst c13
      have H1 : (if x3_1.length < 5864062014805 then (Z30.l0 k1 (x3_1 ++ [t411]) (l0_0.length : Int) (wrap64 (x13_1 + 1)) l0_0 l0_1) else (none)) = some r := by rw [if_pos rfl] at H; exact H
      clear H
      have H := H1
      clear H1
      by_cases c14 : x3_1.length < 5864062014805
      ·rw [if_pos c14] at H
       have LMc14 := A_ c14
       clear c14
       obtain ⟨y415, hy415⟩ : ∃ y_ : List (List Int), y_ = (x3_1 ++ [t411]) := ⟨_, rfl⟩
       replace H : (Z30.l0 k1 y415 (l0_0.length : Int) (wrap64 (x13_1 + 1)) l0_0 l0_1) = some r := by first | (rw [hy415]; with_reducible exact H) | (have H2_ := (oA_ _ _).symm.trans H; rw [hy415]; with_reducible exact H2_) | (have H2_ := (oA_ _ _).symm.trans H; with_reducible exact H2_) | with_reducible exact H | (rw [hy415]; exact H) | exact H
       have Ny415 := A_ hy415
       clear hy415
       have H' := A_ H
       clear H
       have hcz15_0 := cz0_ BK406.out
       have hcz15_1 := cz1_ BK406.out
       have hfz15_0 := kD_ BK406.out 0
       have hfz15_1 := kD_ BK406.out 1
       go_wp2_with (first | ((with_reducible refine gA_ (f := 106) rfl ?_); refine goesL_ (some 18) rfl rfl Try.func106 (by kernel_rfl) rfl #[.agg #[.slice A0_0 l0_0.length c0_0, .slice A0_1 l0_1.length c0_1], .int .i64 x13_1] rfl (by (try simp only [mA_, mB_, mC_]); first | done | rfl | (simp only [lA_, lB_]; rfl)) ?_; (with_reducible refine (Z38.calls k1 _ _ l0_0 _ _ l0_1 x13_1 t411 _ ?side1 ?side2 ?side3 ?side4 A11.out).mono ?_); (case side1 => repeat (first | exact (cD_ HR0_0.out HB.out) | (with_reducible first | refine cA_ ?_ _ | refine cB_ ?_ _ | refine cC_ ?_))); (case side2 => exact HC0_0.out); (case side3 => repeat (first | exact (cD_ HR0_1.out HB.out) | (with_reducible first | refine cA_ ?_ _ | refine cB_ ?_ _ | refine cC_ ?_))); (case side4 => exact HC0_1.out); rintro e w16 ⟨v412, rfl, ho0, hb⟩; refine ⟨_, rfl, ?_⟩; have n0_ := A_ (Kd.S_elder' (by (with_reducible repeat (first | apply Kd.S_alloc | apply Kd.S_drewN | apply Kd.S_drew)); exact HO_3.out) (Kd.R_base ho0) hb); have n1_ := A_ (rE_ ho0 (bF_ (by repeat (first | (with_reducible first | exact HB.out | apply bA_ | apply bB_ | apply bC_ | refine bD_ ?_ GE406.out) | exact HB.out)))); have n2_ := A_ (kE_ (g := gb406) (by (with_reducible repeat (first | refine kA_ ?_ _ | refine kB_ ?_ | refine kC_ ?_ _)); exact BK406.out) hb); have n3_ := A_ (bE_ (by repeat (first | (with_reducible first | exact HB.out | apply bA_ | apply bB_ | apply bC_ | refine bD_ ?_ GE406.out) | exact HB.out)) hb); clear HO_3; clear BK406; clear HB; have HO_3 := n0_; have HO413 := n1_; have BK406 := n2_; have HB := n3_; clear n0_ n1_ n2_ n3_; (try clear hb); (try clear hb2); (try clear hk); (try clear hi); (try clear ho0); have hcz17_0 := cz0_ BK406.out; have hcz17_1 := cz1_ BK406.out; have hfz17_0 := kD_ BK406.out 0; have hfz17_1 := kD_ BK406.out 1; obtain ⟨Ao18, co18, eo18⟩ := Kd.R_slice HO413.out; subst eo18) | ((with_reducible refine gA_ (f := 107) rfl ?_); refine goesL_ (some 21) rfl rfl Try.func107 (by kernel_rfl) rfl #[.agg #[.slice A0_0 l0_0.length c0_0, .slice A0_1 l0_1.length c0_1], .slice Ao18 t411.length co18] rfl (by (try simp only [mA_, mB_, mC_]); first | done | rfl | (simp only [lA_, lB_]; rfl)) ?_; (with_reducible refine (Z36.calls k1 _ _ l0_0 _ _ l0_1 _ _ t411 true _ ?side1 ?side2 ?side3 ?side4 ?side5 ?side6 A12.out).mono ?_); (case side1 => repeat (first | exact (cD_ HR0_0.out HB.out) | (with_reducible first | refine cA_ ?_ _ | refine cB_ ?_ _ | refine cC_ ?_))); (case side2 => exact HC0_0.out); (case side3 => repeat (first | exact (cD_ HR0_1.out HB.out) | (with_reducible first | refine cA_ ?_ _ | refine cB_ ?_ _ | refine cC_ ?_))); (case side4 => exact HC0_1.out); (case side5 => repeat (first | exact (Kd.R_reads' HO413.out).2.2 | (with_reducible first | refine cA_ ?_ _ | refine cB_ ?_ _ | refine cC_ ?_))); (case side6 => exact (Kd.R_reads' HO413.out).2.1); rintro e w19 ⟨rfl, hb⟩; refine ⟨_, rfl, ?_⟩; have n0_ := A_ (Kd.S_below (by (with_reducible repeat (first | apply Kd.S_alloc | apply Kd.S_drewN | apply Kd.S_drew)); exact HO_3.out) hb); have n1_ := A_ (rD_ (by (with_reducible repeat (first | apply rA_ | apply rB_ | apply rC_)); exact HO413.out) hb); have n2_ := A_ (kE_ (g := gb406) (by (with_reducible repeat (first | refine kA_ ?_ _ | refine kB_ ?_ | refine kC_ ?_ _)); exact BK406.out) hb); have n3_ := A_ (bE_ (by repeat (first | (with_reducible first | exact HB.out | apply bA_ | apply bB_ | apply bC_ | refine bD_ ?_ GE406.out) | exact HB.out)) hb); clear HO_3; clear HO413; clear BK406; clear HB; have HO_3 := n0_; have HO413 := n1_; have BK406 := n2_; have HB := n3_; clear n0_ n1_ n2_ n3_; (try clear hb); (try clear hb2); (try clear hk); (try clear hi)) | ((with_reducible refine gate_builtin (b := .append) (xs := #[.tmp 22, .tmp 24]) rfl ?_); at_builtin; refine Kd.S_append (Kd.slice 3 (Kd.int .i64)) (w0 := w) w.heap.size rfl (.tmp 22) (.tmp 24) 40 22 (.slice none 0 0) 24 rfl Try.underlying40 info22 rfl (by decide) (by omega) u3 x3_1 t411 [.slice Ao18 t411.length co18] (fun _ => True) (fun k_ => some k_ = (.slice Ao18 t411.length co18 : Value).ownBlock) rfl rfl ?aP (fun k_ hk_ => ((Kd.R_mono (ok' := fun k_ => ((fun _ => True)) k_ ∧ some k_ ≠ (u3 : Value).ownBlock) (Kd.R_apart' (HO413.out) (Kd.S_typed HO_3.out) (by decide)) (fun k_ hk => ⟨trivial, hk.2⟩))).1 k_ hk_.symm) ?aF ?aO ?aB ?aS ?aL ?_; (case aP => exact Kd.M_row (Kd.R_mono (Kd.R_tight rfl (Kd.R_mono (ok' := fun k_ => ((fun _ => True)) k_ ∧ some k_ ≠ (u3 : Value).ownBlock) (Kd.R_apart' (HO413.out) (Kd.S_typed HO_3.out) (by decide)) (fun k_ hk => ⟨trivial, hk.2⟩))) (fun _ h_ => h_))); (case aB => exact (by repeat (first | (with_reducible first | exact HB.out | apply bA_ | apply bB_ | apply bC_ | refine bD_ ?_ GE406.out) | exact HB.out))); (case aF => exact (fun _ _ => trivial)); (case aO => exact (by (with_reducible repeat (first | apply Kd.S_alloc | apply Kd.S_drewN | apply Kd.S_drew)); exact Kd.S_mono HO_3.out (fun k_ hk => ⟨trivial, fun e_ => hk.2 e_⟩))); (case aS => exact (bF_ (by repeat (first | (with_reducible first | exact HB.out | apply bA_ | apply bB_ | apply bC_ | refine bD_ ?_ GE406.out) | exact HB.out)))); (case aL => have := LMc14.out; omega); intro v416 w20 ho hb hg hat; rw [← Ny415.out] at ho; have n0_ := A_ (blk_grown (g := gb406) (o := .cells #[.slice A0_0 l0_0.length c0_0, .slice A0_1 l0_1.length c0_1] 27 (0, 0)) (by (with_reducible repeat (first | refine kA_ ?_ _ | refine kB_ ?_ | refine kC_ ?_ _)); exact BK406.out) hg (Kd.S_ne HO_3.out BK406.out (by decide))); have n1_ := A_ (hb); have n2_ := A_ (ho); clear BK406; clear HB; clear HO_3; clear HO413; have BK406 := n0_; have HB := n1_; have HO417 := n2_; clear n0_ n1_ n2_; clear ho hb hg hat))
       go_roundg k1
       case measure => have := HK1.out; omega
       case rel => exact ⟨(y415), (wrap64 (x13_1 + 1)), (by first | rfl | (simp; done) | (simp [*]; done)), H', ⟨by have := HK1.out; omega⟩, ⟨by (with_reducible repeat (first | apply Kd.S_alloc | apply Kd.S_drewN | apply Kd.S_drew)); exact HO417.out⟩, ⟨by (with_reducible repeat (first | refine kA_ ?_ _ | refine kB_ ?_ | refine kC_ ?_ _)); exact BK406.out⟩, ⟨by repeat (first | (with_reducible first | exact HB.out | apply bA_ | apply bB_ | apply bC_ | refine bD_ ?_ GE406.out) | exact HB.out)⟩⟩
      ·rw [if_neg c14] at H
       exact absurd H (by simp)
     ·replace c13 := Bool.eq_false_iff.mpr c13
      subst c13
      have H1 : (Z30.l0 k1 x3_1 (l0_0.length : Int) (wrap64 (x13_1 + 1)) l0_0 l0_1) = some r := by rw [if_neg (show ¬ (false = true) by decide)] at H; exact H
      clear H
      have H := H1
      clear H1
      have H' := A_ H
      clear H
      have hcz21_0 := cz0_ BK406.out
      have hcz21_1 := cz1_ BK406.out
      have hfz21_0 := kD_ BK406.out 0
      have hfz21_1 := kD_ BK406.out 1
      go_wp2_with (first | ((with_reducible refine gA_ (f := 106) rfl ?_); refine goesL_ (some 18) rfl rfl Try.func106 (by kernel_rfl) rfl #[.agg #[.slice A0_0 l0_0.length c0_0, .slice A0_1 l0_1.length c0_1], .int .i64 x13_1] rfl (by (try simp only [mA_, mB_, mC_]); first | done | rfl | (simp only [lA_, lB_]; rfl)) ?_; (with_reducible refine (Z38.calls k1 _ _ l0_0 _ _ l0_1 x13_1 t411 _ ?side1 ?side2 ?side3 ?side4 A11.out).mono ?_); (case side1 => repeat (first | exact (cD_ HR0_0.out HB.out) | (with_reducible first | refine cA_ ?_ _ | refine cB_ ?_ _ | refine cC_ ?_))); (case side2 => exact HC0_0.out); (case side3 => repeat (first | exact (cD_ HR0_1.out HB.out) | (with_reducible first | refine cA_ ?_ _ | refine cB_ ?_ _ | refine cC_ ?_))); (case side4 => exact HC0_1.out); rintro e w22 ⟨v412, rfl, ho0, hb⟩; refine ⟨_, rfl, ?_⟩; have n0_ := A_ (Kd.S_elder' (by (with_reducible repeat (first | apply Kd.S_alloc | apply Kd.S_drewN | apply Kd.S_drew)); exact HO_3.out) (Kd.R_base ho0) hb); have n1_ := A_ (rE_ ho0 (bF_ (by repeat (first | (with_reducible first | exact HB.out | apply bA_ | apply bB_ | apply bC_ | refine bD_ ?_ GE406.out) | exact HB.out)))); have n2_ := A_ (kE_ (g := gb406) (by (with_reducible repeat (first | refine kA_ ?_ _ | refine kB_ ?_ | refine kC_ ?_ _)); exact BK406.out) hb); have n3_ := A_ (bE_ (by repeat (first | (with_reducible first | exact HB.out | apply bA_ | apply bB_ | apply bC_ | refine bD_ ?_ GE406.out) | exact HB.out)) hb); clear HO_3; clear BK406; clear HB; have HO_3 := n0_; have HO413 := n1_; have BK406 := n2_; have HB := n3_; clear n0_ n1_ n2_ n3_; (try clear hb); (try clear hb2); (try clear hk); (try clear hi); (try clear ho0); have hcz23_0 := cz0_ BK406.out; have hcz23_1 := cz1_ BK406.out; have hfz23_0 := kD_ BK406.out 0; have hfz23_1 := kD_ BK406.out 1; obtain ⟨Ao24, co24, eo24⟩ := Kd.R_slice HO413.out; subst eo24) | ((with_reducible refine gA_ (f := 107) rfl ?_); refine goesL_ (some 21) rfl rfl Try.func107 (by kernel_rfl) rfl #[.agg #[.slice A0_0 l0_0.length c0_0, .slice A0_1 l0_1.length c0_1], .slice Ao24 t411.length co24] rfl (by (try simp only [mA_, mB_, mC_]); first | done | rfl | (simp only [lA_, lB_]; rfl)) ?_; (with_reducible refine (Z36.calls k1 _ _ l0_0 _ _ l0_1 _ _ t411 false _ ?side1 ?side2 ?side3 ?side4 ?side5 ?side6 A12.out).mono ?_); (case side1 => repeat (first | exact (cD_ HR0_0.out HB.out) | (with_reducible first | refine cA_ ?_ _ | refine cB_ ?_ _ | refine cC_ ?_))); (case side2 => exact HC0_0.out); (case side3 => repeat (first | exact (cD_ HR0_1.out HB.out) | (with_reducible first | refine cA_ ?_ _ | refine cB_ ?_ _ | refine cC_ ?_))); (case side4 => exact HC0_1.out); (case side5 => repeat (first | exact (Kd.R_reads' HO413.out).2.2 | (with_reducible first | refine cA_ ?_ _ | refine cB_ ?_ _ | refine cC_ ?_))); (case side6 => exact (Kd.R_reads' HO413.out).2.1); rintro e w25 ⟨rfl, hb⟩; refine ⟨_, rfl, ?_⟩; have n0_ := A_ (Kd.S_below (by (with_reducible repeat (first | apply Kd.S_alloc | apply Kd.S_drewN | apply Kd.S_drew)); exact HO_3.out) hb); have n1_ := A_ (rD_ (by (with_reducible repeat (first | apply rA_ | apply rB_ | apply rC_)); exact HO413.out) hb); have n2_ := A_ (kE_ (g := gb406) (by (with_reducible repeat (first | refine kA_ ?_ _ | refine kB_ ?_ | refine kC_ ?_ _)); exact BK406.out) hb); have n3_ := A_ (bE_ (by repeat (first | (with_reducible first | exact HB.out | apply bA_ | apply bB_ | apply bC_ | refine bD_ ?_ GE406.out) | exact HB.out)) hb); clear HO_3; clear HO413; clear BK406; clear HB; have HO_3 := n0_; have HO413 := n1_; have BK406 := n2_; have HB := n3_; clear n0_ n1_ n2_ n3_; (try clear hb); (try clear hb2); (try clear hk); (try clear hi)))
      go_roundg k1
      case measure => have := HK1.out; omega
      case rel => exact ⟨(x3_1), (wrap64 (x13_1 + 1)), (by first | rfl | (simp; done) | (simp [*]; done)), H', ⟨by have := HK1.out; omega⟩, ⟨by (with_reducible repeat (first | apply Kd.S_alloc | apply Kd.S_drewN | apply Kd.S_drew)); exact Kd.S_mono HO_3.out (fun _ hk => trivial)⟩, ⟨by (with_reducible repeat (first | refine kA_ ?_ _ | refine kB_ ?_ | refine kC_ ?_ _)); exact BK406.out⟩, ⟨by repeat (first | (with_reducible first | exact HB.out | apply bA_ | apply bB_ | apply bC_ | refine bD_ ?_ GE406.out) | exact HB.out)⟩⟩
    ·rw [if_neg c10] at H
     have c10b0 : decide (x13_1 < (l0_0.length : Int)) = false := oD_ c10
     clear c10
     obtain rfl := Option.some.inj H
     go_wp2
     go_ret
     exact ⟨_, by first | rfl | (simp [errW_none, errW_some] <;> rfl) | (simp [*, errW_none, errW_some] <;> rfl), by (with_reducible repeat (first | apply Kd.S_alloc | apply Kd.S_drewN | apply Kd.S_drew)); exact HO_3.out, by repeat (first | (with_reducible first | exact HB.out | apply bA_ | apply bB_ | apply bC_ | refine bD_ ?_ GE406.out) | exact HB.out)⟩
 ·replace c3 := Bool.eq_false_iff.mpr c3
  subst c3
  have H1 : (some ([] : List (List Int))) = some r := by rw [if_neg (show ¬ (false = true) by decide)] at H; exact H
  clear H
  have H := H1
  clear H1
  obtain rfl := Option.some.inj H
  go_enter Try.func61, Try.ntmps61
  go_wp2_with (first | ((with_reducible refine gB_ (N := 1) rfl ?_); refine xA_ ?hg (N := 1) ?hd (cs := #[.slice A0_0 l0_0.length c0_0, .slice A0_1 l0_1.length c0_1]) (t := 27) ?hr ?_; (case hd => rfl); (case hg => rfl); (case hr => first | (go_simp; done) | (go_simp; rfl)); intro gb406 hg w26 hbox hb; have n0_ := A_ (bE_ (by repeat (first | (with_reducible first | exact HB.out | apply bA_ | apply bB_ | apply bC_) | exact HB.out)) hb); have n1_ := A_ (hbox); have n2_ := A_ ((by rw [hg]; exact (bF_ (by repeat (first | (with_reducible first | exact HB.out | apply bA_ | apply bB_ | apply bC_) | exact HB.out))) : w.heap.size ≤ gb406)); have n3_ := A_ ((by rw [hg]; exact (bF_ (by repeat (first | (with_reducible first | exact HB.out | apply bA_ | apply bB_ | apply bC_) | exact HB.out))) : w.heap.size ≤ gb406)); clear HB; have HB := n0_; have BK406 := n1_; have GW406 := n2_; have GE406 := n3_; clear n0_ n1_ n2_ n3_; clear hb hbox hg; have hcz27_0 := cz0_ BK406.out; have hcz27_1 := cz1_ BK406.out; have hfz27_0 := kD_ BK406.out 0; have hfz27_1 := kD_ BK406.out 1) | ((with_reducible refine gA_ (f := 65) rfl ?_); refine goesL_ (some 7) rfl rfl Try.func65 (by kernel_rfl) rfl #[.agg #[.slice A0_0 l0_0.length c0_0, .slice A0_1 l0_1.length c0_1]] rfl (by (try simp only [mA_, mB_, mC_]); first | done | rfl | (simp only [lA_, lB_]; rfl)) ?_; (with_reducible refine (Z16.calls k _ _ l0_0 _ _ l0_1 false _ ?side1 ?side2 ?side3 ?side4 A2.out).mono ?_); (case side1 => repeat (first | exact (cD_ HR0_0.out HB.out) | (with_reducible first | refine cA_ ?_ _ | refine cB_ ?_ _ | refine cC_ ?_))); (case side2 => exact HC0_0.out); (case side3 => repeat (first | exact (cD_ HR0_1.out HB.out) | (with_reducible first | refine cA_ ?_ _ | refine cB_ ?_ _ | refine cC_ ?_))); (case side4 => exact HC0_1.out); rintro e w28 ⟨rfl, hb⟩; refine ⟨_, rfl, ?_⟩; have n0_ := A_ (kE_ (g := gb406) (by (with_reducible repeat (first | refine kA_ ?_ _ | refine kB_ ?_ | refine kC_ ?_ _)); exact BK406.out) hb); have n1_ := A_ (bE_ (by repeat (first | (with_reducible first | exact HB.out | apply bA_ | apply bB_ | apply bC_ | refine bD_ ?_ GE406.out) | exact HB.out)) hb); clear BK406; clear HB; have BK406 := n0_; have HB := n1_; clear n0_ n1_; (try clear hb); (try clear hb2); (try clear hk); (try clear hi)))
  go_ret
  exact ⟨_, by first | rfl | (simp [errW_none, errW_some] <;> rfl) | (simp [*, errW_none, errW_some] <;> rfl), by first | exact Kd.S_nil _ _ _ _ _ | exact Kd.N_nil _ _ _ _ _ | exact Kd.V_nil _ _ _ _ _ | exact Kd.Q_nil _ _ _ _ _ | exact Kd.R_nil _ _ _ _ _, by repeat (first | (with_reducible first | exact HB.out | apply bA_ | apply bB_ | apply bC_ | refine bD_ ?_ GE406.out) | exact HB.out)⟩
def Z5.f (k : Nat) (l0_0 : List Int) (l0_1 : List Int) : Option (Int) := (Z16.f k l0_0 l0_1).bind fun t419 => (if t419 = true then (some (l0_0.length : Int)) else (some 0))
theorem Z5.mono : ∀ a0 a1 k, LeO (Z5.f k a0 a1) (Z5.f (k + 1) a0 a1) := by
 intro a0 a1 k
 unfold Z5.f
 repeat' first
   | (with_reducible exact Z16.mono _ _ _)
   | (with_reducible exact LeO.refl _)
   | (with_reducible exact LeO.none _)
   | (with_reducible refine LeO.ite ?_ ?_)
   | (with_reducible refine LeO.bind ?_ (fun _ => ?_))
   | exact Z16.mono _ _ _
   | exact LeO.none _
   | refine LeO.ite ?_ ?_
   | refine LeO.bind ?_ (fun _ => ?_)
set_option maxHeartbeats 8000000 in
set_option maxRecDepth 100000 in
theorem Z5.calls (k : Nat) (A0_0 : Option Addr) (c0_0 : Nat) (l0_0 : List Int) (A0_1 : Option Addr) (c0_1 : Nat) (l0_1 : List Int) (r : Int) (w : World) (hr0_0 : Kd.C (Kd.int .i64) w A0_0 l0_0.length l0_0) (hc0_0 : l0_0.length ≤ c0_0) (hr0_1 : Kd.C (Kd.int .i64) w A0_1 l0_1.length l0_1) (hc0_1 : l0_1.length ≤ c0_1) (h : Z5.f k l0_0 l0_1 = some r) :
  Calls Try.prog 86 #[.agg #[.slice A0_0 l0_0.length c0_0, .slice A0_1 l0_1.length c0_1]] w fun e w' => e = .returned (.int .i64 r) ∧ Below w.heap.size w w' := by
 have hu27 := Try.underlying27
 have HR0_0 := A_ hr0_0
 have HC0_0 := A_ hc0_0
 clear hr0_0 hc0_0
 have HR0_1 := A_ hr0_1
 have HC0_1 := A_ hc0_1
 clear hr0_1 hc0_1
 have HB := A_ (Below.refl w.heap.size w)
 have H : ((Z16.f k l0_0 l0_1).bind fun t419 => (if t419 = true then (some (l0_0.length : Int)) else (some 0))) = some r := h
 clear h
 replace H := Option.bind_eq_some_iff.mp H
 obtain ⟨t419, A20, H⟩ := H
 replace H : (if t419 = true then (some (l0_0.length : Int)) else (some 0)) = some r := H
 have A2 := A_ A20
 clear A20
 by_cases c3 : t419 = true
 ·subst c3
  have H1 : (some (l0_0.length : Int)) = some r := by rw [if_pos rfl] at H; exact H
  clear H
  have H := H1
  clear H1
  obtain rfl := Option.some.inj H
  go_enter Try.func86, Try.ntmps86
  go_wp2_with (first | ((with_reducible refine gB_ (N := 1) rfl ?_); refine xA_ ?hg (N := 1) ?hd (cs := #[.slice A0_0 l0_0.length c0_0, .slice A0_1 l0_1.length c0_1]) (t := 27) ?hr ?_; (case hd => rfl); (case hg => rfl); (case hr => first | (go_simp; done) | (go_simp; rfl)); intro gb418 hg w4 hbox hb; have n0_ := A_ (bE_ (by repeat (first | (with_reducible first | exact HB.out | apply bA_ | apply bB_ | apply bC_) | exact HB.out)) hb); have n1_ := A_ (hbox); have n2_ := A_ ((by rw [hg]; exact (bF_ (by repeat (first | (with_reducible first | exact HB.out | apply bA_ | apply bB_ | apply bC_) | exact HB.out))) : w.heap.size ≤ gb418)); have n3_ := A_ ((by rw [hg]; exact (bF_ (by repeat (first | (with_reducible first | exact HB.out | apply bA_ | apply bB_ | apply bC_) | exact HB.out))) : w.heap.size ≤ gb418)); clear HB; have HB := n0_; have BK418 := n1_; have GW418 := n2_; have GE418 := n3_; clear n0_ n1_ n2_ n3_; clear hb hbox hg; have hcz5_0 := cz0_ BK418.out; have hcz5_1 := cz1_ BK418.out; have hfz5_0 := kD_ BK418.out 0; have hfz5_1 := kD_ BK418.out 1) | ((with_reducible refine gA_ (f := 65) rfl ?_); refine goesL_ (some 4) rfl rfl Try.func65 (by kernel_rfl) rfl #[.agg #[.slice A0_0 l0_0.length c0_0, .slice A0_1 l0_1.length c0_1]] rfl (by (try simp only [mA_, mB_, mC_]); first | done | rfl | (simp only [lA_, lB_]; rfl)) ?_; (with_reducible refine (Z16.calls k _ _ l0_0 _ _ l0_1 true _ ?side1 ?side2 ?side3 ?side4 A2.out).mono ?_); (case side1 => repeat (first | exact (cD_ HR0_0.out HB.out) | (with_reducible first | refine cA_ ?_ _ | refine cB_ ?_ _ | refine cC_ ?_))); (case side2 => exact HC0_0.out); (case side3 => repeat (first | exact (cD_ HR0_1.out HB.out) | (with_reducible first | refine cA_ ?_ _ | refine cB_ ?_ _ | refine cC_ ?_))); (case side4 => exact HC0_1.out); rintro e w6 ⟨rfl, hb⟩; refine ⟨_, rfl, ?_⟩; have n0_ := A_ (kE_ (g := gb418) (by (with_reducible repeat (first | refine kA_ ?_ _ | refine kB_ ?_ | refine kC_ ?_ _)); exact BK418.out) hb); have n1_ := A_ (bE_ (by repeat (first | (with_reducible first | exact HB.out | apply bA_ | apply bB_ | apply bC_ | refine bD_ ?_ GE418.out) | exact HB.out)) hb); clear BK418; clear HB; have BK418 := n0_; have HB := n1_; clear n0_ n1_; (try clear hb); (try clear hb2); (try clear hk); (try clear hi); have hcz7_0 := cz0_ BK418.out; have hcz7_1 := cz1_ BK418.out; have hfz7_0 := kD_ BK418.out 0; have hfz7_1 := kD_ BK418.out 1))
  go_ret
  exact ⟨by first | rfl | (simp [errW_none, errW_some] <;> rfl) | (simp [*, errW_none, errW_some] <;> rfl), by repeat (first | (with_reducible first | exact HB.out | apply bA_ | apply bB_ | apply bC_ | refine bD_ ?_ GE418.out) | exact HB.out)⟩
 ·replace c3 := Bool.eq_false_iff.mpr c3
  subst c3
  have H1 : (some 0) = some r := by rw [if_neg (show ¬ (false = true) by decide)] at H; exact H
  clear H
  have H := H1
  clear H1
  obtain rfl := Option.some.inj H
  go_enter Try.func86, Try.ntmps86
  go_wp2_with (first | ((with_reducible refine gB_ (N := 1) rfl ?_); refine xA_ ?hg (N := 1) ?hd (cs := #[.slice A0_0 l0_0.length c0_0, .slice A0_1 l0_1.length c0_1]) (t := 27) ?hr ?_; (case hd => rfl); (case hg => rfl); (case hr => first | (go_simp; done) | (go_simp; rfl)); intro gb418 hg w8 hbox hb; have n0_ := A_ (bE_ (by repeat (first | (with_reducible first | exact HB.out | apply bA_ | apply bB_ | apply bC_) | exact HB.out)) hb); have n1_ := A_ (hbox); have n2_ := A_ ((by rw [hg]; exact (bF_ (by repeat (first | (with_reducible first | exact HB.out | apply bA_ | apply bB_ | apply bC_) | exact HB.out))) : w.heap.size ≤ gb418)); have n3_ := A_ ((by rw [hg]; exact (bF_ (by repeat (first | (with_reducible first | exact HB.out | apply bA_ | apply bB_ | apply bC_) | exact HB.out))) : w.heap.size ≤ gb418)); clear HB; have HB := n0_; have BK418 := n1_; have GW418 := n2_; have GE418 := n3_; clear n0_ n1_ n2_ n3_; clear hb hbox hg; have hcz9_0 := cz0_ BK418.out; have hcz9_1 := cz1_ BK418.out; have hfz9_0 := kD_ BK418.out 0; have hfz9_1 := kD_ BK418.out 1) | ((with_reducible refine gA_ (f := 65) rfl ?_); refine goesL_ (some 4) rfl rfl Try.func65 (by kernel_rfl) rfl #[.agg #[.slice A0_0 l0_0.length c0_0, .slice A0_1 l0_1.length c0_1]] rfl (by (try simp only [mA_, mB_, mC_]); first | done | rfl | (simp only [lA_, lB_]; rfl)) ?_; (with_reducible refine (Z16.calls k _ _ l0_0 _ _ l0_1 false _ ?side1 ?side2 ?side3 ?side4 A2.out).mono ?_); (case side1 => repeat (first | exact (cD_ HR0_0.out HB.out) | (with_reducible first | refine cA_ ?_ _ | refine cB_ ?_ _ | refine cC_ ?_))); (case side2 => exact HC0_0.out); (case side3 => repeat (first | exact (cD_ HR0_1.out HB.out) | (with_reducible first | refine cA_ ?_ _ | refine cB_ ?_ _ | refine cC_ ?_))); (case side4 => exact HC0_1.out); rintro e w10 ⟨rfl, hb⟩; refine ⟨_, rfl, ?_⟩; have n0_ := A_ (kE_ (g := gb418) (by (with_reducible repeat (first | refine kA_ ?_ _ | refine kB_ ?_ | refine kC_ ?_ _)); exact BK418.out) hb); have n1_ := A_ (bE_ (by repeat (first | (with_reducible first | exact HB.out | apply bA_ | apply bB_ | apply bC_ | refine bD_ ?_ GE418.out) | exact HB.out)) hb); clear BK418; clear HB; have BK418 := n0_; have HB := n1_; clear n0_ n1_; (try clear hb); (try clear hb2); (try clear hk); (try clear hi)))
  go_ret
  exact ⟨by first | rfl | (simp [errW_none, errW_some] <;> rfl) | (simp [*, errW_none, errW_some] <;> rfl), by repeat (first | (with_reducible first | exact HB.out | apply bA_ | apply bB_ | apply bC_ | refine bD_ ?_ GE418.out) | exact HB.out)⟩
end Go.Proofs.Ytbdnellgioimbaa.A
end
