/- Lemmas for the row FnExactIsHyperelliptic: the program's functions told as plain functions, and plain mathematics. No conditions. -/
import Derived.Test.YtbdnellgioimbaaQFnExactIsHyperelliptic3
section
namespace Go.Proofs.Ytbdnellgioimbaa.A
open Go.RowKit Go.Proofs.YtbdnellgioimbaaW.PrintWords Go.Proofs.YtbdnellgioimbaaW.PrintLast Go.Proofs.YtbdnellgioimbaaW.PrintMore
attribute [local go_sem] max2_int min2_int max_two min_two max_three min_three max_four min_four
set_option linter.unusedVariables false
set_option linter.unusedSimpArgs false
mutual
def Z24.l0 : Nat → List Int → List Bool → List (List Int) → Int → Int → Option ((List (List Int)))
 | 0, _, _, _, _, _ => none
 | k + 1, x0, x3, x4, x16, x17 => if x17 < x16 then (if 0 ≤ x17 then (if x17 < (x3.length : Int) then (if rdOf false x3 x17 = true then (Z24.l0 k x0 x3 x4 x16 (wrap64 (x17 + 1))) else (Z24.l1 k x0 x3 x4 (([] : List Int)) x17 x16 x17)) else (none)) else (none)) else (some x4)
def Z24.l1 : Nat → List Int → List Bool → List (List Int) → List Int → Int → Int → Int → Option ((List (List Int)))
 | 0, _, _, _, _, _, _, _ => none
 | k + 1, x0, x3, x4, x6, x7, x16, x17 => if 0 ≤ x7 then (if x7 < (x3.length : Int) then (if rdOf false x3 x7 = true then (if x4.length < 5864062014805 then (Z24.l0 k x0 x3 (x4 ++ [x6]) x16 (wrap64 (x17 + 1))) else (none)) else (if x6.length < 17592186044416 then (if x7 < (x0.length : Int) then (Z24.l1 k x0 (x3.set (x7 : Int).toNat true) x4 (x6 ++ [x7]) (rd x0 x7) x16 x17) else (none)) else (none))) else (none)) else (none)
end
def Z24.f (k : Nat) (l0 : List Int) : Option ((List (List Int))) := (Z37.f k l0).bind fun t420 => (if t420 = true then (if 0 ≤ (l0.length : Int) then (if ((l0.length : Int) : Int).toNat ≤ 281474976710656 then (Z24.l0 k l0 (List.replicate ((l0.length : Int) : Int).toNat false) (([] : List (List Int))) (l0.length : Int) 0) else (none)) else (none)) else (some ([] : List (List Int))))
theorem Z24.mono_l : ∀ k, (∀ y0 y1 y2 y3 y4, LeO (Z24.l0 k y0 y1 y2 y3 y4) (Z24.l0 (k + 1) y0 y1 y2 y3 y4)) ∧ (∀ y0 y1 y2 y3 y4 y5 y6, LeO (Z24.l1 k y0 y1 y2 y3 y4 y5 y6) (Z24.l1 (k + 1) y0 y1 y2 y3 y4 y5 y6))
 | 0 => ⟨fun _ _ _ _ _ r h => by simp [Z24.l0] at h, fun _ _ _ _ _ _ _ r h => by simp [Z24.l1] at h⟩
 | k + 1 => by
  obtain ⟨ih0, ih1⟩ := Z24.mono_l k
  refine ⟨?_, ?_⟩
  ·intro y0 y1 y2 y3 y4
   unfold Z24.l0
   repeat' first
   | (with_reducible exact ih0 _ _ _ _ _)
   | (with_reducible exact ih1 _ _ _ _ _ _ _)
   | (with_reducible exact Z37.mono _ _)
   | (with_reducible exact LeO.refl _)
   | (with_reducible exact LeO.none _)
   | (with_reducible refine LeO.ite ?_ ?_)
   | (with_reducible refine LeO.bind ?_ (fun _ => ?_))
   | exact ih0 _ _ _ _ _
   | exact ih1 _ _ _ _ _ _ _
   | exact Z37.mono _ _
   | exact LeO.none _
   | refine LeO.ite ?_ ?_
   | refine LeO.bind ?_ (fun _ => ?_)
  ·intro y0 y1 y2 y3 y4 y5 y6
   unfold Z24.l1
   repeat' first
   | (with_reducible exact ih0 _ _ _ _ _)
   | (with_reducible exact ih1 _ _ _ _ _ _ _)
   | (with_reducible exact Z37.mono _ _)
   | (with_reducible exact LeO.refl _)
   | (with_reducible exact LeO.none _)
   | (with_reducible refine LeO.ite ?_ ?_)
   | (with_reducible refine LeO.bind ?_ (fun _ => ?_))
   | exact ih0 _ _ _ _ _
   | exact ih1 _ _ _ _ _ _ _
   | exact Z37.mono _ _
   | exact LeO.none _
   | refine LeO.ite ?_ ?_
   | refine LeO.bind ?_ (fun _ => ?_)
theorem Z24.mono : ∀ a0 k, LeO (Z24.f k a0) (Z24.f (k + 1) a0) := by
 intro a0 k
 obtain ⟨ih0, ih1⟩ := Z24.mono_l k
 unfold Z24.f
 repeat' first
   | (with_reducible exact ih0 _ _ _ _ _)
   | (with_reducible exact ih1 _ _ _ _ _ _ _)
   | (with_reducible exact Z37.mono _ _)
   | (with_reducible exact LeO.refl _)
   | (with_reducible exact LeO.none _)
   | (with_reducible refine LeO.ite ?_ ?_)
   | (with_reducible refine LeO.bind ?_ (fun _ => ?_))
   | exact ih0 _ _ _ _ _
   | exact ih1 _ _ _ _ _ _ _
   | exact Z37.mono _ _
   | exact LeO.none _
   | refine LeO.ite ?_ ?_
   | refine LeO.bind ?_ (fun _ => ?_)
set_option maxHeartbeats 8000000 in
set_option maxRecDepth 100000 in
theorem Z24.calls (k : Nat) (A0 : Option Addr) (c0 : Nat) (l0 : List Int) (r : List (List Int)) (w : World) (hr0 : Kd.C (Kd.int .i64) w A0 l0.length l0) (hc0 : l0.length ≤ c0) (h : Z24.f k l0 = some r) :
  Calls Try.prog 56 #[.slice A0 l0.length c0] w fun e w' => ∃ v0_ : Value, e = .returned (v0_) ∧ Kd.S (Kd.slice 3 (Kd.int .i64)) 22 w' w.heap.size (fun _ => True) v0_ r ∧ Below w.heap.size w w' := by
 have HR0 := A_ hr0
 have HC0 := A_ hc0
 clear hr0 hc0
 have HB := A_ (Below.refl w.heap.size w)
 have H : ((Z37.f k l0).bind fun t420 => (if t420 = true then (if 0 ≤ (l0.length : Int) then (if ((l0.length : Int) : Int).toNat ≤ 281474976710656 then (Z24.l0 k l0 (List.replicate ((l0.length : Int) : Int).toNat false) (([] : List (List Int))) (l0.length : Int) 0) else (none)) else (none)) else (some ([] : List (List Int))))) = some r := h
 clear h
 replace H := Option.bind_eq_some_iff.mp H
 obtain ⟨t420, A20, H⟩ := H
 replace H : (if t420 = true then (if 0 ≤ (l0.length : Int) then (if ((l0.length : Int) : Int).toNat ≤ 281474976710656 then (Z24.l0 k l0 (List.replicate ((l0.length : Int) : Int).toNat false) (([] : List (List Int))) (l0.length : Int) 0) else (none)) else (none)) else (some ([] : List (List Int)))) = some r := H
 have A2 := A_ A20
 clear A20
 by_cases c3 : t420 = true
 ·subst c3
  have H1 : (if 0 ≤ (l0.length : Int) then (if ((l0.length : Int) : Int).toNat ≤ 281474976710656 then (Z24.l0 k l0 (List.replicate ((l0.length : Int) : Int).toNat false) (([] : List (List Int))) (l0.length : Int) 0) else (none)) else (none)) = some r := by rw [if_pos rfl] at H; exact H
  clear H
  have H := H1
  clear H1
  by_cases c4 : 0 ≤ (l0.length : Int)
  ·rw [if_pos c4] at H
   have c4b0 := eq_true c4
   have c4b1 : decide (0 ≤ (l0.length : Int)) = true := oC_ c4
   clear c4
   by_cases c5 : ((l0.length : Int) : Int).toNat ≤ 281474976710656
   ·rw [if_pos c5] at H
    have c5b0 := eq_true c5
    have c5b1 : decide (((l0.length : Int) : Int).toNat ≤ 281474976710656) = true := oC_ c5
    clear c5
    obtain ⟨y421, hy421⟩ : ∃ y_ : List Bool, y_ = (List.replicate ((l0.length : Int) : Int).toNat false) := ⟨_, rfl⟩
    replace H : (Z24.l0 k l0 y421 (([] : List (List Int))) (l0.length : Int) 0) = some r := by first | (rw [hy421]; with_reducible exact H) | (have H2_ := (oA_ _ _).symm.trans H; rw [hy421]; with_reducible exact H2_) | (have H2_ := (oA_ _ _).symm.trans H; with_reducible exact H2_) | with_reducible exact H | (rw [hy421]; exact H) | exact H
    have Ny421 := A_ hy421
    clear hy421
    obtain ⟨y424, hy424⟩ : ∃ y_ : List (List Int), y_ = (([] : List (List Int))) := ⟨_, rfl⟩
    replace H : (Z24.l0 k l0 y421 y424 (l0.length : Int) 0) = some r := by first | (rw [hy424]; with_reducible exact H) | (have H2_ := (oA_ _ _).symm.trans H; rw [hy424]; with_reducible exact H2_) | (have H2_ := (oA_ _ _).symm.trans H; with_reducible exact H2_) | with_reducible exact H | (rw [hy424]; exact H) | exact H
    have Ny424 := A_ hy424
    clear hy424
    have H' := A_ H
    clear H
    go_enter Try.func56, Try.ntmps56
    go_wp2_with (first | ((with_reducible refine gA_ (f := 98) rfl ?_); refine goesL_ (some 9) rfl rfl Try.func98 (by kernel_rfl) rfl #[.slice A0 l0.length c0] rfl (by (try simp only [mA_, mB_, mC_]); first | done | rfl | (simp only [lA_, lB_]; rfl)) ?_; (with_reducible refine (Z37.calls k _ _ l0 true _ ?side1 ?side2 A2.out).mono ?_); (case side1 => repeat (first | exact HR0.out | (with_reducible first | refine cA_ ?_ _ | refine cB_ ?_ _ | refine cC_ ?_))); (case side2 => exact HC0.out); rintro e w6 ⟨rfl, hb⟩; refine ⟨_, rfl, ?_⟩; have n0_ := A_ (bE_ (by repeat (first | (with_reducible first | exact HB.out | apply bA_ | apply bB_ | apply bC_) | exact HB.out)) hb); clear HB; have HB := n0_; clear n0_; (try clear hb); (try clear hb2); (try clear hk); (try clear hi)) | ((with_reducible refine gB_ (N := 13) rfl ?_); refine Kd.R_make Kd.bool _ 4 rfl (N := 13) rfl 98 _ _ rfl (l0.length : Int) rfl rfl Try.underlying98 (.bool false) 1 info4 rfl (by decide) (by omega) false (ok := fun _ => True) (okp := fun _ => True) rfl (fun _ hk => hk) trivial (oB_ (by first | (with_reducible assumption) | assumption)) (Nat.le_trans (Nat.mul_le_mul_right _ (oB_ (by first | (with_reducible assumption) | assumption) : (l0.length : Int).toNat ≤ 281474976710656)) (by omega)) (Below.refl _ _) (nA_ _) ?_; intro v422 w7 ho8 hb hg_ hnew_; clear hg_ hnew_; (first | rw [← Ny421.out] at ho8 | (simp only [Int.reduceToNat] at ho8; rw [← Ny421.out] at ho8)); have n0_ := A_ (rE_ ho8 (bF_ (by repeat (first | (with_reducible first | exact HB.out | apply bA_ | apply bB_ | apply bC_) | exact HB.out)))); have n1_ := A_ (bE_ (by repeat (first | (with_reducible first | exact HB.out | apply bA_ | apply bB_ | apply bC_) | exact HB.out)) hb); clear HB; have HO423 := n0_; have HB := n1_; clear n0_ n1_; clear hb ho8) | ((with_reducible refine gB_ (N := 14) rfl ?_); refine Kd.S_lit (Kd.slice 3 (Kd.int .i64)) _ 22 ?hg (N := 14) ?hd (xs := ([] : List (List Int))) (inner := []) (ok := fun _ => True) (okp := fun _ => True) ?hr ?hp (fun _ hk => hk) trivial (Below.refl _ _) (nA_ _) (by simp) ?_; (case hd => rfl); (case hg => rfl); (case hr => first | (go_simp; done) | (go_simp; rfl)); (case hp => exact (Reps.none _ _)); intro v425 w9 ho10 hb hg_ hnew_; clear hg_ hnew_; (first | rw [← Ny424.out] at ho10 | (simp only [Int.reduceToNat] at ho10; rw [← Ny424.out] at ho10)); have n0_ := A_ (rD_ (by (with_reducible repeat (first | apply rA_ | apply rB_ | apply rC_)); exact HO423.out) hb); have n1_ := A_ (Kd.S_lower ho10 (bF_ (by repeat (first | (with_reducible first | exact HB.out | apply bA_ | apply bB_ | apply bC_) | exact HB.out)))); have n2_ := A_ (bE_ (by repeat (first | (with_reducible first | exact HB.out | apply bA_ | apply bB_ | apply bC_) | exact HB.out)) hb); clear HO423; clear HB; have HO423 := n0_; have HO426 := n1_; have HB := n2_; clear n0_ n1_ n2_; clear hb ho10))
    go_loopg [4, 17] k (fun kq v4 v17 w' => ∃ (x3_1 : List Bool) (x4_1 : List (List Int)) (x17_1 : Int), v17 = .int .i64 x17_1 ∧ Aside0 (Z24.l0 kq l0 x3_1 x4_1 (l0.length : Int) x17_1 = some r) ∧ Aside0 (kq ≤ k) ∧ Aside0 (Kd.R Kd.bool 4 w' w.heap.size (fun _ => True) v422 x3_1) ∧ Aside0 (Kd.S (Kd.slice 3 (Kd.int .i64)) 22 w' w.heap.size (fun _ => True) v4 x4_1) ∧ Aside0 (Below w.heap.size w w'))
    case atStart => exact ⟨(y421), (y424), (0), (by first | rfl | (simp; done) | (simp [*]; done)), H', ⟨nA_ _⟩, ⟨by (with_reducible repeat (first | apply rA_ | apply rB_ | apply rC_)); exact HO423.out⟩, ⟨by (with_reducible repeat (first | apply Kd.S_alloc | apply Kd.S_drewN | apply Kd.S_drew)); exact HO426.out⟩, ⟨by repeat (first | (with_reducible first | exact HB.out | apply bA_ | apply bB_ | apply bC_) | exact HB.out)⟩⟩
    case round =>
     clear H'
     (try clear p2); (try clear c3); (try clear c4); (try clear c4b0); (try clear c4b1); (try clear c5); (try clear c5b0); (try clear c5b1); (try clear c9)
     obtain ⟨x3_1, x4_1, x17_1, rfl, HA, HK1, HO_3, HO_4, HB⟩ := hrel
     cases gk with
     | zero => exact absurd HA.out (by simp [Z24.l0])
     | succ k1 =>
      have H := HA.out
      clear HA
      simp only [Z24.l0] at H
      by_cases c11 : x17_1 < (l0.length : Int)
      ·rw [if_pos c11] at H
       have c11b0 : decide (x17_1 < (l0.length : Int)) = true := oC_ c11
       clear c11
       by_cases c12 : 0 ≤ x17_1
       ·rw [if_pos c12] at H
        have c12b0 : decide (0 ≤ x17_1) = true := oC_ c12
        clear c12
        by_cases c13 : x17_1 < (x3_1.length : Int)
        ·rw [if_pos c13] at H
         have c13b0 : decide (x17_1 < (x3_1.length : Int)) = true := oC_ c13
         clear c13
         obtain ⟨bq14, hbq14⟩ : ∃ b_ : Bool, b_ = (rdOf false x3_1 x17_1) := ⟨_, rfl⟩
         replace H : (if bq14 = true then (Z24.l0 k1 l0 x3_1 x4_1 (l0.length : Int) (wrap64 (x17_1 + 1))) else (Z24.l1 k1 l0 x3_1 x4_1 (([] : List Int)) x17_1 (l0.length : Int) x17_1)) = some r := by rw [← hbq14] at H; exact H
         have Nbq14 := A_ hbq14
         clear hbq14
         by_cases c15 : bq14 = true
         ·subst c15
          have H1 : (Z24.l0 k1 l0 x3_1 x4_1 (l0.length : Int) (wrap64 (x17_1 + 1))) = some r := by rw [if_pos rfl] at H; exact H
          clear H
          have H := H1
          clear H1
          have H' := A_ H
          clear H
          obtain ⟨Ao16, co16, eo16⟩ := Kd.R_slice HO_3.out
          subst eo16
          have p427 : 0 ≤ (x17_1 : Int) := oB_ (by first | (with_reducible assumption) | assumption)
          have q427 : x17_1 < (x3_1.length : Int) := oB_ (by first | (with_reducible assumption) | assumption)
          obtain ⟨ad427, e427, hx427_0⟩ := Kd.at_bool (Kd.R_reads' HO_3.out).2.2 x17_1 p427 q427
          (try rw [← Nbq14.out] at hx427_0)
          cases e427
          replace p427 := eq_true p427
          replace q427 := eq_true q427
          go_wp2
          go_roundg k1
          case measure => have := HK1.out; omega
          case rel => exact ⟨(x3_1), (x4_1), (wrap64 (x17_1 + 1)), (by first | rfl | (simp; done) | (simp [*]; done)), H', ⟨by have := HK1.out; omega⟩, ⟨by (with_reducible repeat (first | apply rA_ | apply rB_ | apply rC_)); exact HO_3.out⟩, ⟨by (with_reducible repeat (first | apply Kd.S_alloc | apply Kd.S_drewN | apply Kd.S_drew)); exact HO_4.out⟩, ⟨by repeat (first | (with_reducible first | exact HB.out | apply bA_ | apply bB_ | apply bC_) | exact HB.out)⟩⟩
         ·replace c15 := Bool.eq_false_iff.mpr c15
          subst c15
          have H1 : (Z24.l1 k1 l0 x3_1 x4_1 (([] : List Int)) x17_1 (l0.length : Int) x17_1) = some r := by rw [if_neg (show ¬ (false = true) by decide)] at H; exact H
          clear H
          have H := H1
          clear H1
          obtain ⟨y428, hy428⟩ : ∃ y_ : List Int, y_ = (([] : List Int)) := ⟨_, rfl⟩
          replace H : (Z24.l1 k1 l0 x3_1 x4_1 y428 x17_1 (l0.length : Int) x17_1) = some r := by first | (rw [hy428]; with_reducible exact H) | (have H2_ := (oA_ _ _).symm.trans H; rw [hy428]; with_reducible exact H2_) | (have H2_ := (oA_ _ _).symm.trans H; with_reducible exact H2_) | with_reducible exact H | (rw [hy428]; exact H) | exact H
          have Ny428 := A_ hy428
          clear hy428
          have H' := A_ H
          clear H
          obtain ⟨Ao17, co17, eo17⟩ := Kd.R_slice HO_3.out
          subst eo17
          have p427 : 0 ≤ (x17_1 : Int) := oB_ (by first | (with_reducible assumption) | assumption)
          have q427 : x17_1 < (x3_1.length : Int) := oB_ (by first | (with_reducible assumption) | assumption)
          obtain ⟨ad427, e427, hx427_0⟩ := Kd.at_bool (Kd.R_reads' HO_3.out).2.2 x17_1 p427 q427
          (try rw [← Nbq14.out] at hx427_0)
          cases e427
          obtain ⟨g427, rfl⟩ : ∃ g_, ad427 = (⟨g_, 0, none⟩ : Addr) := Kd.R_head HO_3.out
          (try simp only [add_plain] at hx427_0)
          replace p427 := eq_true p427
          replace q427 := eq_true q427
          go_wp2_with (first | ((with_reducible refine gB_ (N := 24) rfl ?_); refine Kd.R_lit (Kd.int .i64) _ 3 ?hg (N := 24) ?hd (xs := ([] : List Int)) (inner := []) (ok := fun _ => True) (okp := fun _ => True) ?hr ?hp (fun _ hk => hk) trivial (Below.refl _ _) (nA_ _) (by simp) ?_; (case hd => rfl); (case hg => rfl); (case hr => first | (go_simp; done) | (go_simp; rfl)); (case hp => exact (Reps.none _ _)); intro v429 w18 ho19 hb hg_ hnew_; clear hg_ hnew_; (first | rw [← Ny428.out] at ho19 | (simp only [Int.reduceToNat] at ho19; rw [← Ny428.out] at ho19)); have n0_ := A_ (rD_ (by (with_reducible repeat (first | apply rA_ | apply rB_ | apply rC_)); exact HO_3.out) hb); have n1_ := A_ (Kd.S_elder' (by (with_reducible repeat (first | apply Kd.S_alloc | apply Kd.S_drewN | apply Kd.S_drew)); exact HO_4.out) (Kd.R_base ho19) hb); have n2_ := A_ (rE_ ho19 (bF_ (by repeat (first | (with_reducible first | exact HB.out | apply bA_ | apply bB_ | apply bC_) | exact HB.out)))); have n3_ := A_ (bE_ (by repeat (first | (with_reducible first | exact HB.out | apply bA_ | apply bB_ | apply bC_) | exact HB.out)) hb); clear HO_3; clear HO_4; clear HB; have HO_3 := n0_; have HO_4 := n1_; have HO430 := n2_; have HB := n3_; clear n0_ n1_ n2_ n3_; clear hb ho19))
          go_loopg [6, 7] k1 (fun kq v6 v7 w' => ∃ (x3_2 : List Bool) (x6_2 : List Int) (x7_2 : Int), v7 = .int .i64 x7_2 ∧ Aside0 (Z24.l1 kq l0 x3_2 x4_1 x6_2 x7_2 (l0.length : Int) x17_1 = some r) ∧ Aside0 (kq ≤ k1) ∧ Aside0 (Kd.R Kd.bool 4 w' w.heap.size (fun _ => True) (.slice (some (⟨g427, 0, none⟩ : Addr)) x3_1.length co17) x3_2) ∧ Aside0 (Kd.S (Kd.slice 3 (Kd.int .i64)) 22 w' w.heap.size (fun k_ => some k_ ≠ (v6 : Value).ownBlock) u4 x4_1) ∧ Aside0 (Kd.R (Kd.int .i64) 3 w' w.heap.size (fun _ => True) v6 x6_2) ∧ Aside0 (Below w.heap.size w w'))
          case atStart => exact ⟨(x3_1), (y428), (x17_1), (by first | rfl | (simp; done) | (simp [*]; done)), H', ⟨nA_ _⟩, ⟨by (with_reducible repeat (first | apply rA_ | apply rB_ | apply rC_)); exact HO_3.out⟩, ⟨by (with_reducible repeat (first | apply Kd.S_alloc | apply Kd.S_drewN | apply Kd.S_drew)); exact Kd.S_mono HO_4.out (fun _ hk => hk.2)⟩, ⟨by (with_reducible repeat (first | apply rA_ | apply rB_ | apply rC_)); exact HO430.out⟩, ⟨by repeat (first | (with_reducible first | exact HB.out | apply bA_ | apply bB_ | apply bC_) | exact HB.out)⟩⟩
          case round =>
           clear H'
           (try clear c1); (try clear q1); (try clear p2); (try clear c3); (try clear c4); (try clear c4b0); (try clear c4b1); (try clear p4); (try clear q4); (try clear hx4); (try clear c5); (try clear c5b0); (try clear c5b1); (try clear p6); (try clear c9); (try clear c11); (try clear c11b0); (try clear c12); (try clear c12b0); (try clear c13); (try clear c13b0); (try clear q14); (try clear c15); (try clear hx427_0); (try clear p2); (try clear p427); (try clear q427)
           obtain ⟨x3_2, x6_2, x7_2, rfl, HA, HK2, HO_3, HO_4, HO_6, HB⟩ := hrel
           have hl3_2 := (Kd.R_reads' HO_3.out).1
           rw [hl3_2] at HO_3
           (try simp only [hl3_2])
           (try simp only [hl3_2] at HO_4)
           (try simp only [hl3_2] at HO_6)
           cases gk with
           | zero => exact absurd HA.out (by simp [Z24.l1])
           | succ k2 =>
            have H := HA.out
            clear HA
            simp only [Z24.l1] at H
            by_cases c20 : 0 ≤ x7_2
            ·rw [if_pos c20] at H
             have c20b0 : decide (0 ≤ x7_2) = true := oC_ c20
             clear c20
             by_cases c21 : x7_2 < (x3_2.length : Int)
             ·rw [if_pos c21] at H
              have c21b0 : decide (x7_2 < (x3_2.length : Int)) = true := oC_ c21
              clear c21
              obtain ⟨bq22, hbq22⟩ : ∃ b_ : Bool, b_ = (rdOf false x3_2 x7_2) := ⟨_, rfl⟩
              replace H : (if bq22 = true then (if x4_1.length < 5864062014805 then (Z24.l0 k2 l0 x3_2 (x4_1 ++ [x6_2]) (l0.length : Int) (wrap64 (x17_1 + 1))) else (none)) else (if x6_2.length < 17592186044416 then (if x7_2 < (l0.length : Int) then (Z24.l1 k2 l0 (x3_2.set (x7_2 : Int).toNat true) x4_1 (x6_2 ++ [x7_2]) (rd l0 x7_2) (l0.length : Int) x17_1) else (none)) else (none))) = some r := by rw [← hbq22] at H; exact H
              have Nbq22 := A_ hbq22
              clear hbq22
              by_cases c23 : bq22 = true
              ·subst c23
               have H1 : (if x4_1.length < 5864062014805 then (Z24.l0 k2 l0 x3_2 (x4_1 ++ [x6_2]) (l0.length : Int) (wrap64 (x17_1 + 1))) else (none)) = some r := by rw [if_pos rfl] at H; exact H
               clear H
               have H := H1
               clear H1
               by_cases c24 : x4_1.length < 5864062014805
               ·rw [if_pos c24] at H
                have LMc24 := A_ c24
                clear c24
                obtain ⟨y432, hy432⟩ : ∃ y_ : List (List Int), y_ = (x4_1 ++ [x6_2]) := ⟨_, rfl⟩
                replace H : (Z24.l0 k2 l0 x3_2 y432 (l0.length : Int) (wrap64 (x17_1 + 1))) = some r := by first | (rw [hy432]; with_reducible exact H) | (have H2_ := (oA_ _ _).symm.trans H; rw [hy432]; with_reducible exact H2_) | (have H2_ := (oA_ _ _).symm.trans H; with_reducible exact H2_) | with_reducible exact H | (rw [hy432]; exact H) | exact H
                have Ny432 := A_ hy432
                clear hy432
                have H' := A_ H
                clear H
                have p431 : 0 ≤ (x7_2 : Int) := oB_ (by first | (with_reducible assumption) | assumption)
                have q431 : x7_2 < (x3_2.length : Int) := oB_ (by first | (with_reducible assumption) | assumption)
                obtain ⟨ad431, e431, hx431_0⟩ := Kd.at_bool (Kd.R_reads' HO_3.out).2.2 x7_2 p431 q431
                (try rw [← Nbq14.out] at hx431_0)
                (try rw [← Nbq22.out] at hx431_0)
                obtain rfl : (⟨g427, 0, none⟩ : Addr) = ad431 := (by injection e431)
                (try simp only [add_plain] at hx431_0)
                replace p431 := eq_true p431
                replace q431 := eq_true q431
                obtain ⟨Ao26, co26, eo26⟩ := Kd.R_slice HO_6.out
                subst eo26
                go_wp2_with (first | ((with_reducible refine gate_builtin (b := .append) (xs := #[.tmp 42, .tmp 44]) rfl ?_); at_builtin; refine Kd.S_append (Kd.slice 3 (Kd.int .i64)) (w0 := w) w.heap.size rfl (.tmp 42) (.tmp 44) 40 22 (.slice none 0 0) 24 rfl Try.underlying40 info22 rfl (by decide) (by omega) u4 x4_1 x6_2 [.slice Ao26 x6_2.length co26] (fun _ => True) (fun k_ => some k_ = (.slice Ao26 x6_2.length co26 : Value).ownBlock) rfl rfl ?aP (fun k_ hk_ => ((Kd.R_mono (ok' := fun k_ => ((fun _ => True)) k_ ∧ some k_ ≠ (u4 : Value).ownBlock) (Kd.R_apart' (HO_6.out) (Kd.S_typed HO_4.out) (by decide)) (fun k_ hk => ⟨trivial, hk.2⟩))).1 k_ hk_.symm) ?aF ?aO ?aB ?aS ?aL ?_; (case aP => exact Kd.M_row (Kd.R_mono (Kd.R_tight rfl (Kd.R_mono (ok' := fun k_ => ((fun _ => True)) k_ ∧ some k_ ≠ (u4 : Value).ownBlock) (Kd.R_apart' (HO_6.out) (Kd.S_typed HO_4.out) (by decide)) (fun k_ hk => ⟨trivial, hk.2⟩))) (fun _ h_ => h_))); (case aB => exact (by repeat (first | (with_reducible first | exact HB.out | apply bA_ | apply bB_ | apply bC_) | exact HB.out))); (case aF => exact (fun _ _ => trivial)); (case aO => exact (by (with_reducible repeat (first | apply Kd.S_alloc | apply Kd.S_drewN | apply Kd.S_drew)); exact Kd.S_mono HO_4.out (fun k_ hk => ⟨trivial, fun e_ => hk e_⟩))); (case aS => exact (bF_ (by repeat (first | (with_reducible first | exact HB.out | apply bA_ | apply bB_ | apply bC_) | exact HB.out)))); (case aL => have := LMc24.out; omega); intro v433 w25 ho hb hg hat; rw [← Ny432.out] at ho; have n0_ := A_ (Kd.R_over' (by (with_reducible repeat (first | apply rA_ | apply rB_ | apply rC_)); exact HO_3.out) (Kd.S_typed (by (with_reducible repeat (first | apply Kd.S_alloc | apply Kd.S_drewN | apply Kd.S_drew)); exact HO_4.out)) (by decide) hg); have n1_ := A_ (hb); have n2_ := A_ (ho); clear HO_3; clear HB; clear HO_4; clear HO_6; have HO_3 := n0_; have HB := n1_; have HO434 := n2_; clear n0_ n1_ n2_; clear ho hb hg hat))
                (try simp only [← hl3_2])
                go_roundg k2
                case measure => have := HK1.out; have := HK2.out; omega
                case rel => exact ⟨(x3_2), (y432), (wrap64 (x17_1 + 1)), (by first | rfl | (simp; done) | (simp [*]; done)), H', ⟨by have := HK1.out; have := HK2.out; omega⟩, ⟨by (try simp only [hl3_2]); (with_reducible repeat (first | apply rA_ | apply rB_ | apply rC_)); exact HO_3.out⟩, ⟨by (try simp only [hl3_2]); (with_reducible repeat (first | apply Kd.S_alloc | apply Kd.S_drewN | apply Kd.S_drew)); exact HO434.out⟩, ⟨by repeat (first | (with_reducible first | exact HB.out | apply bA_ | apply bB_ | apply bC_) | exact HB.out)⟩⟩
               ·rw [if_neg c24] at H
                exact absurd H (by simp)
              ·replace c23 := Bool.eq_false_iff.mpr c23
               subst c23
               have H1 : (if x6_2.length < 17592186044416 then (if x7_2 < (l0.length : Int) then (Z24.l1 k2 l0 (x3_2.set (x7_2 : Int).toNat true) x4_1 (x6_2 ++ [x7_2]) (rd l0 x7_2) (l0.length : Int) x17_1) else (none)) else (none)) = some r := by rw [if_neg (show ¬ (false = true) by decide)] at H; exact H
               clear H
               have H := H1
               clear H1
               obtain ⟨y435, hy435⟩ : ∃ y_ : List Bool, y_ = (x3_2.set (x7_2 : Int).toNat true) := ⟨_, rfl⟩
               replace H : (if x6_2.length < 17592186044416 then (if x7_2 < (l0.length : Int) then (Z24.l1 k2 l0 y435 x4_1 (x6_2 ++ [x7_2]) (rd l0 x7_2) (l0.length : Int) x17_1) else (none)) else (none)) = some r := by first | (rw [hy435]; with_reducible exact H) | (have H2_ := (oA_ _ _).symm.trans H; rw [hy435]; with_reducible exact H2_) | (have H2_ := (oA_ _ _).symm.trans H; with_reducible exact H2_) | with_reducible exact H | (rw [hy435]; exact H) | exact H
               have Ny435 := A_ hy435
               clear hy435
               by_cases c28 : x6_2.length < 17592186044416
               ·rw [if_pos c28] at H
                have LMc28 := A_ c28
                clear c28
                obtain ⟨y436, hy436⟩ : ∃ y_ : List Int, y_ = (x6_2 ++ [x7_2]) := ⟨_, rfl⟩
                replace H : (if x7_2 < (l0.length : Int) then (Z24.l1 k2 l0 y435 x4_1 y436 (rd l0 x7_2) (l0.length : Int) x17_1) else (none)) = some r := by first | (rw [hy436]; with_reducible exact H) | (have H2_ := (oA_ _ _).symm.trans H; rw [hy436]; with_reducible exact H2_) | (have H2_ := (oA_ _ _).symm.trans H; with_reducible exact H2_) | with_reducible exact H | (rw [hy436]; exact H) | exact H
                have Ny436 := A_ hy436
                clear hy436
                by_cases c29 : x7_2 < (l0.length : Int)
                ·rw [if_pos c29] at H
                 have c29b0 : decide (x7_2 < (l0.length : Int)) = true := oC_ c29
                 clear c29
                 have H' := A_ H
                 clear H
                 have p431 : 0 ≤ (x7_2 : Int) := oB_ (by first | (with_reducible assumption) | assumption)
                 have q431 : x7_2 < (x3_2.length : Int) := oB_ (by first | (with_reducible assumption) | assumption)
                 obtain ⟨ad431, e431, hx431_0⟩ := Kd.at_bool (Kd.R_reads' HO_3.out).2.2 x7_2 p431 q431
                 (try rw [← Nbq14.out] at hx431_0)
                 (try rw [← Nbq22.out] at hx431_0)
                 obtain rfl : (⟨g427, 0, none⟩ : Addr) = ad431 := (by injection e431)
                 (try simp only [add_plain] at hx431_0)
                 replace p431 := eq_true p431
                 replace q431 := eq_true q431
                 have p27 : 0 ≤ (x7_2 : Int) := oB_ (by first | (with_reducible assumption) | assumption)
                 have q27 : (x7_2 : Int) < ((x3_2.length : Int) : Int) := oB_ (by first | (with_reducible assumption) | assumption)
                 obtain ⟨go27, co27, eo27, gb27, gl27, cl27, HG27⟩ := Kd.R_form HO_3.out (by omega)
                 (first | cases eo27 | (injection eo27 with ea_ en_ ec_; (first | subst ea_ | (injection ea_ with ea_; subst ea_)); subst ec_; clear en_))
                 have GB27 := A_ gb27
                 have GG27 := A_ HG27
                 clear gb27 gl27 HG27
                 (first | simp only [add_plain] at hx427_0 | skip)
                 (first | simp only [add_plain] at hx431_0 | skip)
                 obtain ⟨hx27_0, hf27_0⟩ := Kd.R_celln false HO_3.out (x7_2 : Int) p27 q27
                 replace p27 := eq_true p27
                 replace q27 := eq_true q27
                 have HP30 := Kd.R_putg HO_3.out (x7_2 : Int) true
                 go_wp2_with (first | ((with_reducible refine gate_store (t := 4) (p := 37) rfl ?_); refine store_event (t := 4) (p := 37) (v := ?vo_w31) (w1 := (wr.setCell ⟨g427, (x7_2 : Int).toNat, none⟩ (.bool true))) ?hg ?ho ?hn ?hr ?_; (case ho => rfl); (case hg => rfl); (case hn => rfl); (case hr => first | (go_simp; done) | (go_simp; rfl)); intro w31 hw; have hg : wr.grownBy w31 (some g427) := (by rw [hw]; exact HP30.2); have hp_ : Kd.R Kd.bool 4 w31 w.heap.size (fun _ => True) (.slice (some ⟨g427, 0, none⟩) x3_2.length co17) y435 := (by rw [hw, Ny435.out]; exact HP30.1); clear HP30; have n0_ := A_ (hp_); have n1_ := A_ (Kd.S_over' (v := (.slice (some ⟨g427, 0, none⟩) x3_2.length co17)) (by (with_reducible repeat (first | apply Kd.S_alloc | apply Kd.S_drewN | apply Kd.S_drew)); exact HO_4.out) (Kd.R_typed HO_3.out) (by decide) hg); have n2_ := A_ (Kd.R_over' (v := (.slice (some ⟨g427, 0, none⟩) x3_2.length co17)) (by (with_reducible repeat (first | apply rA_ | apply rB_ | apply rC_)); exact HO_6.out) (Kd.R_typed HO_3.out) (by decide) hg); have n3_ := A_ ((by rw [hw]; exact bD_ (HB.out) GB27.out : Below w.heap.size w w31)); clear HO_3; clear HO_4; clear HO_6; clear HB; have HO_3 := n0_; have HO_4 := n1_; have HO_6 := n2_; have HB := n3_; clear n0_ n1_ n2_ n3_; clear hg hw hp_) | ((with_reducible refine gate_builtin (b := .append) (xs := #[.tmp 38, .tmp 40]) rfl ?_); at_builtin; refine Kd.R_append (Kd.int .i64) (w0 := w) w.heap.size rfl (.tmp 38) (.tmp 40) 22 3 (.int .i64 0) 8 rfl Try.underlying22 info3 rfl (by decide) (by omega) u6 x6_2 x7_2 [.int .i64 x7_2] (fun _ => True) (fun _ => False) rfl rfl ?aP (fun _ hk => hk.elim) ?aF ?aO ?aB ?aS ?aL ?_; (case aP => exact rfl); (case aB => exact (by repeat (first | (with_reducible first | exact HB.out | apply bA_ | apply bB_ | apply bC_) | exact HB.out))); (case aF => exact (fun _ _ => trivial)); (case aO => exact (by (with_reducible repeat (first | apply rA_ | apply rB_ | apply rC_)); exact HO_6.out)); (case aS => exact (bF_ (by repeat (first | (with_reducible first | exact HB.out | apply bA_ | apply bB_ | apply bC_) | exact HB.out)))); (case aL => have := LMc28.out; omega); intro v437 w32 ho hb hg hat; rw [← Ny436.out] at ho; have n0_ := A_ (Kd.R_over' (by (with_reducible repeat (first | apply rA_ | apply rB_ | apply rC_)); exact HO_3.out) (Kd.R_typed (by (with_reducible repeat (first | apply rA_ | apply rB_ | apply rC_)); exact HO_6.out)) (by decide) hg); have n1_ := A_ (Kd.S_after (ok := (fun _ => True)) (by (with_reducible repeat (first | apply Kd.S_alloc | apply Kd.S_drewN | apply Kd.S_drew)); exact Kd.S_mono HO_4.out (fun _ hk => ⟨trivial, hk⟩)) hg hat); have n2_ := A_ (hb); have n3_ := A_ (ho); clear HO_3; clear HO_4; clear HB; clear HO_6; have HO_3 := n0_; have HO_4 := n1_; have HB := n2_; have HO438 := n3_; clear n0_ n1_ n2_ n3_; clear ho hb hg hat; have p439 : 0 ≤ (x7_2 : Int) := oB_ (by first | (with_reducible assumption) | assumption); have q439 : x7_2 < (l0.length : Int) := oB_ (by first | (with_reducible assumption) | assumption); obtain ⟨ad439, e439, hx439_0⟩ := Kd.at_int HR0.out x7_2 p439 q439; cases e439; replace hx439_0 := (HB.out.cell (World.block_lt_of_cell? w _ hx439_0)).trans hx439_0; replace p439 := eq_true p439; replace q439 := eq_true q439))
                 (try simp only [← hl3_2])
                 go_roundg k2
                 case measure => have := HK1.out; have := HK2.out; omega
                 case rel => exact ⟨(y435), (y436), (rd l0 x7_2), (by first | rfl | (simp; done) | (simp [*]; done)), H', ⟨by have := HK1.out; have := HK2.out; omega⟩, ⟨by (try simp only [hl3_2]); (with_reducible repeat (first | apply rA_ | apply rB_ | apply rC_)); exact HO_3.out⟩, ⟨by (try simp only [hl3_2]); (with_reducible repeat (first | apply Kd.S_alloc | apply Kd.S_drewN | apply Kd.S_drew)); exact Kd.S_mono HO_4.out (fun _ hk => hk.2)⟩, ⟨by (try simp only [hl3_2]); (with_reducible repeat (first | apply rA_ | apply rB_ | apply rC_)); exact HO438.out⟩, ⟨by repeat (first | (with_reducible first | exact HB.out | apply bA_ | apply bB_ | apply bC_) | exact HB.out)⟩⟩
                ·rw [if_neg c29] at H
                 exact absurd H (by simp)
               ·rw [if_neg c28] at H
                exact absurd H (by simp)
             ·rw [if_neg c21] at H
              exact absurd H (by simp)
            ·rw [if_neg c20] at H
             exact absurd H (by simp)
        ·rw [if_neg c13] at H
         exact absurd H (by simp)
       ·rw [if_neg c12] at H
        exact absurd H (by simp)
      ·rw [if_neg c11] at H
       have c11b0 : decide (x17_1 < (l0.length : Int)) = false := oD_ c11
       clear c11
       obtain rfl := Option.some.inj H
       go_wp2
       go_ret
       exact ⟨_, by first | rfl | (simp [errW_none, errW_some] <;> rfl) | (simp [*, errW_none, errW_some] <;> rfl), by (with_reducible repeat (first | apply Kd.S_alloc | apply Kd.S_drewN | apply Kd.S_drew)); exact HO_4.out, by repeat (first | (with_reducible first | exact HB.out | apply bA_ | apply bB_ | apply bC_) | exact HB.out)⟩
   ·rw [if_neg c5] at H
    exact absurd H (by simp)
  ·rw [if_neg c4] at H
   exact absurd H (by simp)
 ·replace c3 := Bool.eq_false_iff.mpr c3
  subst c3
  have H1 : (some ([] : List (List Int))) = some r := by rw [if_neg (show ¬ (false = true) by decide)] at H; exact H
  clear H
  have H := H1
  clear H1
  obtain rfl := Option.some.inj H
  go_enter Try.func56, Try.ntmps56
  go_wp2_with (first | ((with_reducible refine gA_ (f := 98) rfl ?_); refine goesL_ (some 9) rfl rfl Try.func98 (by kernel_rfl) rfl #[.slice A0 l0.length c0] rfl (by (try simp only [mA_, mB_, mC_]); first | done | rfl | (simp only [lA_, lB_]; rfl)) ?_; (with_reducible refine (Z37.calls k _ _ l0 false _ ?side1 ?side2 A2.out).mono ?_); (case side1 => repeat (first | exact HR0.out | (with_reducible first | refine cA_ ?_ _ | refine cB_ ?_ _ | refine cC_ ?_))); (case side2 => exact HC0.out); rintro e w33 ⟨rfl, hb⟩; refine ⟨_, rfl, ?_⟩; have n0_ := A_ (bE_ (by repeat (first | (with_reducible first | exact HB.out | apply bA_ | apply bB_ | apply bC_) | exact HB.out)) hb); clear HB; have HB := n0_; clear n0_; (try clear hb); (try clear hb2); (try clear hk); (try clear hi)))
  go_ret
  exact ⟨_, by first | rfl | (simp [errW_none, errW_some] <;> rfl) | (simp [*, errW_none, errW_some] <;> rfl), by first | exact Kd.S_nil _ _ _ _ _ | exact Kd.N_nil _ _ _ _ _ | exact Kd.V_nil _ _ _ _ _ | exact Kd.Q_nil _ _ _ _ _ | exact Kd.R_nil _ _ _ _ _, by repeat (first | (with_reducible first | exact HB.out | apply bA_ | apply bB_ | apply bC_) | exact HB.out)⟩
end Go.Proofs.Ytbdnellgioimbaa.A
end
section
namespace Go.Proofs.Ytbdnellgioimbaa.A
open Go.RowKit Go.Proofs.YtbdnellgioimbaaW.PrintWords Go.Proofs.YtbdnellgioimbaaW.PrintLast Go.Proofs.YtbdnellgioimbaaW.PrintMore
attribute [local go_sem] max2_int min2_int max_two min_two max_three min_three max_four min_four
set_option linter.unusedVariables false
set_option linter.unusedSimpArgs false
mutual
def Z25.j0 : Nat → List Int → List Int → Bool → Option (List Int)
 | 0, _, _, _ => none
 | k + 1, x0, x1, x22 => if x22 = true then (some ([] : List Int)) else (if 0 ≤ (x0.length : Int) then (if ((x0.length : Int) : Int).toNat ≤ 35184372088832 then (Z25.l0 k x1 (List.replicate ((x0.length : Int) : Int).toNat 0) x0 (x0.length : Int) 0) else (none)) else (none))
def Z25.l0 : Nat → List Int → List Int → List Int → Int → Int → Option (List Int)
 | 0, _, _, _, _, _ => none
 | k + 1, x1, x5, x26, x27, x28 => if x28 < x27 then (if 0 ≤ x28 then (if x28 < (x26.length : Int) then (if 0 ≤ (rd x26 x28) then (if (rd x26 x28) < (x1.length : Int) then (if x28 < (x5.length : Int) then (Z25.l0 k x1 (x5.set (x28 : Int).toNat (rd x1 (rd x26 x28))) x26 x27 (wrap64 (x28 + 1))) else (none)) else (none)) else (none)) else (none)) else (none)) else (some x5)
end
def Z25.f (k : Nat) (l0 : List Int) (l1 : List Int) : Option (List Int) := (Z37.f k l0).bind fun t440 => (if t440 = true then ((Z37.f k l1).bind fun t441 => (if t441 = true then (Z25.j0 k l0 l1 ((l0.length : Int) != (l1.length : Int))) else (Z25.j0 k l0 l1 true))) else (Z25.j0 k l0 l1 true))
theorem Z25.mono_l : ∀ k, (∀ y0 y1 y2, LeO (Z25.j0 k y0 y1 y2) (Z25.j0 (k + 1) y0 y1 y2)) ∧ (∀ y0 y1 y2 y3 y4, LeO (Z25.l0 k y0 y1 y2 y3 y4) (Z25.l0 (k + 1) y0 y1 y2 y3 y4))
 | 0 => ⟨fun _ _ _ r h => by simp [Z25.j0] at h, fun _ _ _ _ _ r h => by simp [Z25.l0] at h⟩
 | k + 1 => by
  obtain ⟨ih0, ih1⟩ := Z25.mono_l k
  refine ⟨?_, ?_⟩
  ·intro y0 y1 y2
   unfold Z25.j0
   repeat' first
   | (with_reducible exact ih0 _ _ _)
   | (with_reducible exact ih1 _ _ _ _ _)
   | (with_reducible exact Z37.mono _ _)
   | (with_reducible exact LeO.refl _)
   | (with_reducible exact LeO.none _)
   | (with_reducible refine LeO.ite ?_ ?_)
   | (with_reducible refine LeO.bind ?_ (fun _ => ?_))
   | exact ih0 _ _ _
   | exact ih1 _ _ _ _ _
   | exact Z37.mono _ _
   | exact LeO.none _
   | refine LeO.ite ?_ ?_
   | refine LeO.bind ?_ (fun _ => ?_)
  ·intro y0 y1 y2 y3 y4
   unfold Z25.l0
   repeat' first
   | (with_reducible exact ih0 _ _ _)
   | (with_reducible exact ih1 _ _ _ _ _)
   | (with_reducible exact Z37.mono _ _)
   | (with_reducible exact LeO.refl _)
   | (with_reducible exact LeO.none _)
   | (with_reducible refine LeO.ite ?_ ?_)
   | (with_reducible refine LeO.bind ?_ (fun _ => ?_))
   | exact ih0 _ _ _
   | exact ih1 _ _ _ _ _
   | exact Z37.mono _ _
   | exact LeO.none _
   | refine LeO.ite ?_ ?_
   | refine LeO.bind ?_ (fun _ => ?_)
theorem Z25.mono : ∀ a0 a1 k, LeO (Z25.f k a0 a1) (Z25.f (k + 1) a0 a1) := by
 intro a0 a1 k
 obtain ⟨ih0, ih1⟩ := Z25.mono_l k
 unfold Z25.f
 repeat' first
   | (with_reducible exact ih0 _ _ _)
   | (with_reducible exact ih1 _ _ _ _ _)
   | (with_reducible exact Z37.mono _ _)
   | (with_reducible exact LeO.refl _)
   | (with_reducible exact LeO.none _)
   | (with_reducible refine LeO.ite ?_ ?_)
   | (with_reducible refine LeO.bind ?_ (fun _ => ?_))
   | exact ih0 _ _ _
   | exact ih1 _ _ _ _ _
   | exact Z37.mono _ _
   | exact LeO.none _
   | refine LeO.ite ?_ ?_
   | refine LeO.bind ?_ (fun _ => ?_)
set_option maxHeartbeats 8000000 in
set_option maxRecDepth 100000 in
theorem Z25.calls (k : Nat) (A0 : Option Addr) (c0 : Nat) (l0 : List Int) (A1 : Option Addr) (c1 : Nat) (l1 : List Int) (r : List Int) (w : World) (hr0 : Kd.C (Kd.int .i64) w A0 l0.length l0) (hc0 : l0.length ≤ c0) (hr1 : Kd.C (Kd.int .i64) w A1 l1.length l1) (hc1 : l1.length ≤ c1) (h : Z25.f k l0 l1 = some r) :
  Calls Try.prog 118 #[.slice A0 l0.length c0, .slice A1 l1.length c1] w fun e w' => ∃ v0_ : Value, e = .returned (v0_) ∧ Kd.R (Kd.int .i64) 3 w' w.heap.size (fun _ => True) v0_ r ∧ Below w.heap.size w w' := by
 have HR0 := A_ hr0
 have HC0 := A_ hc0
 clear hr0 hc0
 have HR1 := A_ hr1
 have HC1 := A_ hc1
 clear hr1 hc1
 have HB := A_ (Below.refl w.heap.size w)
 have H : ((Z37.f k l0).bind fun t440 => (if t440 = true then ((Z37.f k l1).bind fun t441 => (if t441 = true then (Z25.j0 k l0 l1 ((l0.length : Int) != (l1.length : Int))) else (Z25.j0 k l0 l1 true))) else (Z25.j0 k l0 l1 true))) = some r := h
 clear h
 have HC3 := A_ H
 clear H
 go_enter Try.func118, Try.ntmps118
 go_upto_region 1 with (fail)
 go_cut [22] (fun v22 wc => ∃ (kq : Nat) (x22_2 : Bool), v22 = .bool x22_2 ∧ Aside0 (Z25.j0 kq l0 l1 x22_2 = some r) ∧ Aside0 (kq ≤ k) ∧ Aside0 (Below w.heap.size w wc))
 case first =>
  have H := HC3.out
  clear HC3
  replace H := Option.bind_eq_some_iff.mp H
  obtain ⟨t440, A40, H⟩ := H
  replace H : (if t440 = true then ((Z37.f k l1).bind fun t441 => (if t441 = true then (Z25.j0 k l0 l1 ((l0.length : Int) != (l1.length : Int))) else (Z25.j0 k l0 l1 true))) else (Z25.j0 k l0 l1 true)) = some r := H
  have A4 := A_ A40
  clear A40
  by_cases c5 : t440 = true
  ·subst c5
   have H1 : ((Z37.f k l1).bind fun t441 => (if t441 = true then (Z25.j0 k l0 l1 ((l0.length : Int) != (l1.length : Int))) else (Z25.j0 k l0 l1 true))) = some r := by rw [if_pos rfl] at H; exact H
   clear H
   have H := H1
   clear H1
   replace H := Option.bind_eq_some_iff.mp H
   obtain ⟨t441, A60, H⟩ := H
   replace H : (if t441 = true then (Z25.j0 k l0 l1 ((l0.length : Int) != (l1.length : Int))) else (Z25.j0 k l0 l1 true)) = some r := H
   have A6 := A_ A60
   clear A60
   by_cases c7 : t441 = true
   ·subst c7
    have H1 : (Z25.j0 k l0 l1 ((l0.length : Int) != (l1.length : Int))) = some r := by rw [if_pos rfl] at H; exact H
    clear H
    have H := H1
    clear H1
    have H' := A_ H
    clear H
    go_wp2_with (first | ((with_reducible refine gA_ (f := 98) rfl ?_); refine goesL_ (some 9) rfl rfl Try.func98 (by kernel_rfl) rfl #[.slice A0 l0.length c0] rfl (by (try simp only [mA_, mB_, mC_]); first | done | rfl | (simp only [lA_, lB_]; rfl)) ?_; (with_reducible refine (Z37.calls k _ _ l0 true _ ?side1 ?side2 A4.out).mono ?_); (case side1 => repeat (first | exact (cD_ HR0.out HB.out) | (with_reducible first | refine cA_ ?_ _ | refine cB_ ?_ _ | refine cC_ ?_))); (case side2 => exact HC0.out); rintro e w8 ⟨rfl, hb⟩; refine ⟨_, rfl, ?_⟩; have n0_ := A_ (bE_ (by repeat (first | (with_reducible first | exact HB.out | apply bA_ | apply bB_ | apply bC_) | exact HB.out)) hb); clear HB; have HB := n0_; clear n0_; (try clear hb); (try clear hb2); (try clear hk); (try clear hi)) | (go_at_call 98; (with_reducible refine (Z37.calls k _ _ l1 true _ ?side1 ?side2 A6.out).mono ?_); (case side1 => repeat (first | exact (cD_ HR1.out HB.out) | (with_reducible first | refine cA_ ?_ _ | refine cB_ ?_ _ | refine cC_ ?_))); (case side2 => exact HC1.out); rintro e w9 ⟨rfl, hb⟩; have n0_ := A_ (bE_ (by repeat (first | (with_reducible first | exact HB.out | apply bA_ | apply bB_ | apply bC_) | exact HB.out)) hb); clear HB; have HB := n0_; clear n0_; (try clear hb); (try clear hb2); (try clear hk); (try clear hi)))
    go_meet
    case rel => exact ⟨_, (((l0.length : Int) != (l1.length : Int))), (by first | rfl | (simp; done) | (simp [*]; done)), H', ⟨by first | omega | exact nA_ _⟩, ⟨by repeat (first | (with_reducible first | exact HB.out | apply bA_ | apply bB_ | apply bC_) | exact HB.out)⟩⟩
   ·replace c7 := Bool.eq_false_iff.mpr c7
    subst c7
    have H1 : (Z25.j0 k l0 l1 true) = some r := by rw [if_neg (show ¬ (false = true) by decide)] at H; exact H
    clear H
    have H := H1
    clear H1
    have H' := A_ H
    clear H
    go_wp2_with (first | ((with_reducible refine gA_ (f := 98) rfl ?_); refine goesL_ (some 9) rfl rfl Try.func98 (by kernel_rfl) rfl #[.slice A0 l0.length c0] rfl (by (try simp only [mA_, mB_, mC_]); first | done | rfl | (simp only [lA_, lB_]; rfl)) ?_; (with_reducible refine (Z37.calls k _ _ l0 true _ ?side1 ?side2 A4.out).mono ?_); (case side1 => repeat (first | exact (cD_ HR0.out HB.out) | (with_reducible first | refine cA_ ?_ _ | refine cB_ ?_ _ | refine cC_ ?_))); (case side2 => exact HC0.out); rintro e w10 ⟨rfl, hb⟩; refine ⟨_, rfl, ?_⟩; have n0_ := A_ (bE_ (by repeat (first | (with_reducible first | exact HB.out | apply bA_ | apply bB_ | apply bC_) | exact HB.out)) hb); clear HB; have HB := n0_; clear n0_; (try clear hb); (try clear hb2); (try clear hk); (try clear hi)) | (go_at_call 98; (with_reducible refine (Z37.calls k _ _ l1 false _ ?side1 ?side2 A6.out).mono ?_); (case side1 => repeat (first | exact (cD_ HR1.out HB.out) | (with_reducible first | refine cA_ ?_ _ | refine cB_ ?_ _ | refine cC_ ?_))); (case side2 => exact HC1.out); rintro e w11 ⟨rfl, hb⟩; have n0_ := A_ (bE_ (by repeat (first | (with_reducible first | exact HB.out | apply bA_ | apply bB_ | apply bC_) | exact HB.out)) hb); clear HB; have HB := n0_; clear n0_; (try clear hb); (try clear hb2); (try clear hk); (try clear hi)))
    go_meet
    case rel => exact ⟨_, (true), (by first | rfl | (simp; done) | (simp [*]; done)), H', ⟨by first | omega | exact nA_ _⟩, ⟨by repeat (first | (with_reducible first | exact HB.out | apply bA_ | apply bB_ | apply bC_) | exact HB.out)⟩⟩
  ·replace c5 := Bool.eq_false_iff.mpr c5
   subst c5
   have H1 : (Z25.j0 k l0 l1 true) = some r := by rw [if_neg (show ¬ (false = true) by decide)] at H; exact H
   clear H
   have H := H1
   clear H1
   have H' := A_ H
   clear H
   go_wp2_with (first | ((with_reducible refine gA_ (f := 98) rfl ?_); refine goesL_ (some 9) rfl rfl Try.func98 (by kernel_rfl) rfl #[.slice A0 l0.length c0] rfl (by (try simp only [mA_, mB_, mC_]); first | done | rfl | (simp only [lA_, lB_]; rfl)) ?_; (with_reducible refine (Z37.calls k _ _ l0 false _ ?side1 ?side2 A4.out).mono ?_); (case side1 => repeat (first | exact (cD_ HR0.out HB.out) | (with_reducible first | refine cA_ ?_ _ | refine cB_ ?_ _ | refine cC_ ?_))); (case side2 => exact HC0.out); rintro e w12 ⟨rfl, hb⟩; refine ⟨_, rfl, ?_⟩; have n0_ := A_ (bE_ (by repeat (first | (with_reducible first | exact HB.out | apply bA_ | apply bB_ | apply bC_) | exact HB.out)) hb); clear HB; have HB := n0_; clear n0_; (try clear hb); (try clear hb2); (try clear hk); (try clear hi)))
   go_meet
   case rel => exact ⟨_, (true), (by first | rfl | (simp; done) | (simp [*]; done)), H', ⟨by first | omega | exact nA_ _⟩, ⟨by repeat (first | (with_reducible first | exact HB.out | apply bA_ | apply bB_ | apply bC_) | exact HB.out)⟩⟩
 case rest =>
  clear HC3
  (try clear c1); (try clear p2); (try clear c5); (try clear c7); (try clear c9); (try clear c11)
  obtain ⟨kq, x22_2, rfl, HA, HJ2, HB⟩ := hcut
  cases kq with
  | zero => exact absurd HA.out (by simp [Z25.j0])
  | succ kj2 =>
   have H := HA.out
   clear HA
   simp only [Z25.j0] at H
   by_cases c13 : x22_2 = true
   ·subst c13
    have H1 : (some ([] : List Int)) = some r := by rw [if_pos rfl] at H; exact H
    clear H
    have H := H1
    clear H1
    obtain rfl := Option.some.inj H
    go_wp2
    go_ret
    exact ⟨_, by first | rfl | (simp [errW_none, errW_some] <;> rfl) | (simp [*, errW_none, errW_some] <;> rfl), by first | exact Kd.R_nil _ _ _ _ _ | exact Kd.N_nil _ _ _ _ _ | exact Kd.V_nil _ _ _ _ _ | exact Kd.Q_nil _ _ _ _ _ | exact Kd.S_nil _ _ _ _ _, by repeat (first | (with_reducible first | exact HB.out | apply bA_ | apply bB_ | apply bC_) | exact HB.out)⟩
   ·replace c13 := Bool.eq_false_iff.mpr c13
    subst c13
    have H1 : (if 0 ≤ (l0.length : Int) then (if ((l0.length : Int) : Int).toNat ≤ 35184372088832 then (Z25.l0 kj2 l1 (List.replicate ((l0.length : Int) : Int).toNat 0) l0 (l0.length : Int) 0) else (none)) else (none)) = some r := by rw [if_neg (show ¬ (false = true) by decide)] at H; exact H
    clear H
    have H := H1
    clear H1
    by_cases c14 : 0 ≤ (l0.length : Int)
    ·rw [if_pos c14] at H
     have c14b0 := eq_true c14
     have c14b1 : decide (0 ≤ (l0.length : Int)) = true := oC_ c14
     clear c14
     by_cases c15 : ((l0.length : Int) : Int).toNat ≤ 35184372088832
     ·rw [if_pos c15] at H
      have c15b0 := eq_true c15
      have c15b1 : decide (((l0.length : Int) : Int).toNat ≤ 35184372088832) = true := oC_ c15
      clear c15
      obtain ⟨y442, hy442⟩ : ∃ y_ : List Int, y_ = (List.replicate ((l0.length : Int) : Int).toNat 0) := ⟨_, rfl⟩
      replace H : (Z25.l0 kj2 l1 y442 l0 (l0.length : Int) 0) = some r := by first | (rw [hy442]; with_reducible exact H) | (have H2_ := (oA_ _ _).symm.trans H; rw [hy442]; with_reducible exact H2_) | (have H2_ := (oA_ _ _).symm.trans H; with_reducible exact H2_) | with_reducible exact H | (rw [hy442]; exact H) | exact H
      have Ny442 := A_ hy442
      clear hy442
      have H' := A_ H
      clear H
      go_wp2_with (first | ((with_reducible refine gB_ (N := 25) rfl ?_); (try (refine gate_guard (by rfl) ?_; dsimp only)); refine Kd.R_make (Kd.int .i64) _ 3 rfl (N := 25) rfl 22 _ _ rfl (l0.length : Int) rfl rfl Try.underlying22 (.int .i64 0) 8 info3 rfl (by decide) (by omega) 0 (ok := fun _ => True) (okp := fun _ => True) rfl (fun _ hk => hk) trivial (oB_ (by first | (with_reducible assumption) | assumption)) (Nat.le_trans (Nat.mul_le_mul_right _ (oB_ (by first | (with_reducible assumption) | assumption) : (l0.length : Int).toNat ≤ 35184372088832)) (by omega)) (Below.refl _ _) (nA_ _) ?_; intro v443 w16 ho17 hb hg_ hnew_; clear hg_ hnew_; (first | rw [← Ny442.out] at ho17 | (simp only [Int.reduceToNat] at ho17; rw [← Ny442.out] at ho17)); have n0_ := A_ (rE_ ho17 (bF_ (by repeat (first | (with_reducible first | exact HB.out | apply bA_ | apply bB_ | apply bC_) | exact HB.out)))); have n1_ := A_ (bE_ (by repeat (first | (with_reducible first | exact HB.out | apply bA_ | apply bB_ | apply bC_) | exact HB.out)) hb); clear HB; have HO444 := n0_; have HB := n1_; clear n0_ n1_; clear hb ho17))
      go_loopg [28] kj2 (fun kq v28 w' => ∃ (x5_2 : List Int) (x28_2 : Int), v28 = .int .i64 x28_2 ∧ Aside0 (Z25.l0 kq l1 x5_2 l0 (l0.length : Int) x28_2 = some r) ∧ Aside0 (kq ≤ kj2) ∧ Aside0 (Kd.R (Kd.int .i64) 3 w' w.heap.size (fun _ => True) v443 x5_2) ∧ Aside0 (Below w.heap.size w w'))
      case atStart => exact ⟨(y442), (0), (by first | rfl | (simp; done) | (simp [*]; done)), H', ⟨nA_ _⟩, ⟨by (with_reducible repeat (first | apply rA_ | apply rB_ | apply rC_)); exact HO444.out⟩, ⟨by repeat (first | (with_reducible first | exact HB.out | apply bA_ | apply bB_ | apply bC_) | exact HB.out)⟩⟩
      case round =>
       clear H'
       (try clear c1); (try clear p2); (try clear c5); (try clear c7); (try clear c9); (try clear c11); (try clear c13); (try clear c14); (try clear c14b0); (try clear c14b1); (try clear c15); (try clear c15b0); (try clear c15b1); (try clear p2)
       obtain ⟨x5_2, x28_2, rfl, HA, HK2, HO_5, HB⟩ := hrel
       cases gk with
       | zero => exact absurd HA.out (by simp [Z25.l0])
       | succ k2 =>
        have H := HA.out
        clear HA
        simp only [Z25.l0] at H
        by_cases c18 : x28_2 < (l0.length : Int)
        ·rw [if_pos c18] at H
         have c18b0 : decide (x28_2 < (l0.length : Int)) = true := oC_ c18
         clear c18
         by_cases c19 : 0 ≤ x28_2
         ·rw [if_pos c19] at H
          have c19b0 : decide (0 ≤ x28_2) = true := oC_ c19
          clear c19
          by_cases c20 : x28_2 < (l0.length : Int)
          ·rw [if_pos c20] at H
           have c20b0 : decide (x28_2 < (l0.length : Int)) = true := oC_ c20
           clear c20
           by_cases c21 : 0 ≤ (rd l0 x28_2)
           ·rw [if_pos c21] at H
            have c21b0 : decide (0 ≤ (rd l0 x28_2)) = true := oC_ c21
            clear c21
            by_cases c22 : (rd l0 x28_2) < (l1.length : Int)
            ·rw [if_pos c22] at H
             have c22b0 : decide ((rd l0 x28_2) < (l1.length : Int)) = true := oC_ c22
             clear c22
             by_cases c23 : x28_2 < (x5_2.length : Int)
             ·rw [if_pos c23] at H
              have c23b0 : decide (x28_2 < (x5_2.length : Int)) = true := oC_ c23
              clear c23
              obtain ⟨y447, hy447⟩ : ∃ y_ : List Int, y_ = (x5_2.set (x28_2 : Int).toNat (rd l1 (rd l0 x28_2))) := ⟨_, rfl⟩
              replace H : (Z25.l0 k2 l1 y447 l0 (l0.length : Int) (wrap64 (x28_2 + 1))) = some r := by first | (rw [hy447]; with_reducible exact H) | (have H2_ := (oA_ _ _).symm.trans H; rw [hy447]; with_reducible exact H2_) | (have H2_ := (oA_ _ _).symm.trans H; with_reducible exact H2_) | with_reducible exact H | (rw [hy447]; exact H) | exact H
              have Ny447 := A_ hy447
              clear hy447
              have H' := A_ H
              clear H
              have p445 : 0 ≤ (x28_2 : Int) := oB_ (by first | (with_reducible assumption) | assumption)
              have q445 : x28_2 < (l0.length : Int) := oB_ (by first | (with_reducible assumption) | assumption)
              obtain ⟨ad445, e445, hx445_0⟩ := Kd.at_int HR0.out x28_2 p445 q445
              cases e445
              replace hx445_0 := (HB.out.cell (World.block_lt_of_cell? w _ hx445_0)).trans hx445_0
              replace p445 := eq_true p445
              replace q445 := eq_true q445
              have p446 : 0 ≤ ((rd l0 x28_2) : Int) := oB_ (by first | (with_reducible assumption) | assumption)
              have q446 : (rd l0 x28_2) < (l1.length : Int) := oB_ (by first | (with_reducible assumption) | assumption)
              obtain ⟨ad446, e446, hx446_0⟩ := Kd.at_int HR1.out (rd l0 x28_2) p446 q446
              cases e446
              replace hx446_0 := (HB.out.cell (World.block_lt_of_cell? w _ hx446_0)).trans hx446_0
              replace p446 := eq_true p446
              replace q446 := eq_true q446
              have p24 : 0 ≤ (x28_2 : Int) := oB_ (by first | (with_reducible assumption) | assumption)
              have q24 : (x28_2 : Int) < ((x5_2.length : Int) : Int) := oB_ (by first | (with_reducible assumption) | assumption)
              obtain ⟨go24, co24, eo24, gb24, gl24, cl24, HG24⟩ := Kd.R_form HO_5.out (by omega)
              (first | cases eo24 | (injection eo24 with ea_ en_ ec_; (first | subst ea_ | (injection ea_ with ea_; subst ea_)); subst ec_; clear en_))
              have GB24 := A_ gb24
              have GG24 := A_ HG24
              clear gb24 gl24 HG24
              obtain ⟨hx24_0, hf24_0⟩ := Kd.R_celln 0 HO_5.out (x28_2 : Int) p24 q24
              replace p24 := eq_true p24
              replace q24 := eq_true q24
              have HP25 := Kd.R_putg HO_5.out (x28_2 : Int) (rd l1 (rd l0 x28_2))
              go_wp2_with (first | ((with_reducible refine gate_store (t := 3) (p := 39) rfl ?_); refine store_event (t := 3) (p := 39) (v := ?vo_w26) (w1 := (wr.setCell ⟨go24, (x28_2 : Int).toNat, none⟩ (.int .i64 (rd l1 (rd l0 x28_2))))) ?hg ?ho ?hn ?hr ?_; (case ho => rfl); (case hg => rfl); (case hn => rfl); (case hr => first | (go_simp; done) | (go_simp; rfl)); intro w26 hw; have hg : wr.grownBy w26 (some go24) := (by rw [hw]; exact HP25.2); have hp_ : Kd.R (Kd.int .i64) 3 w26 w.heap.size (fun _ => True) (.slice (some ⟨go24, 0, none⟩) x5_2.length co24) y447 := (by rw [hw, Ny447.out]; exact HP25.1); clear HP25; have n0_ := A_ (hp_); have n1_ := A_ ((by rw [hw]; exact bD_ (HB.out) GB24.out : Below w.heap.size w w26)); clear HO_5; clear HB; have HO_5 := n0_; have HB := n1_; clear n0_ n1_; clear hg hw hp_))
              go_roundg k2
              case measure => have := HJ2.out; have := HK2.out; omega
              case rel => exact ⟨(y447), (wrap64 (x28_2 + 1)), (by first | rfl | (simp; done) | (simp [*]; done)), H', ⟨by have := HJ2.out; have := HK2.out; omega⟩, ⟨by (with_reducible repeat (first | apply rA_ | apply rB_ | apply rC_)); exact HO_5.out⟩, ⟨by repeat (first | (with_reducible first | exact HB.out | apply bA_ | apply bB_ | apply bC_) | exact HB.out)⟩⟩
             ·rw [if_neg c23] at H
              exact absurd H (by simp)
            ·rw [if_neg c22] at H
             exact absurd H (by simp)
           ·rw [if_neg c21] at H
            exact absurd H (by simp)
          ·rw [if_neg c20] at H
           exact absurd H (by simp)
         ·rw [if_neg c19] at H
          exact absurd H (by simp)
        ·rw [if_neg c18] at H
         have c18b0 : decide (x28_2 < (l0.length : Int)) = false := oD_ c18
         clear c18
         obtain rfl := Option.some.inj H
         go_wp2
         go_ret
         exact ⟨_, by first | rfl | (simp [errW_none, errW_some] <;> rfl) | (simp [*, errW_none, errW_some] <;> rfl), by (with_reducible repeat (first | apply rA_ | apply rB_ | apply rC_)); exact HO_5.out, by repeat (first | (with_reducible first | exact HB.out | apply bA_ | apply bB_ | apply bC_) | exact HB.out)⟩
     ·rw [if_neg c15] at H
      exact absurd H (by simp)
    ·rw [if_neg c14] at H
     exact absurd H (by simp)
end Go.Proofs.Ytbdnellgioimbaa.A
end
section
namespace Go.Proofs.Ytbdnellgioimbaa.A
open Go.RowKit Go.Proofs.YtbdnellgioimbaaW.PrintWords Go.Proofs.YtbdnellgioimbaaW.PrintLast Go.Proofs.YtbdnellgioimbaaW.PrintMore
attribute [local go_sem] max2_int min2_int max_two min_two max_three min_three max_four min_four
set_option linter.unusedVariables false
set_option linter.unusedSimpArgs false
def Z23.f (k : Nat) (l0_0 : List Int) (l0_1 : List Int) : Option (List Int) := (Z16.f k l0_0 l0_1).bind fun t449 => (if t449 = true then ((Z25.f k l0_0 l0_1).bind fun t450 => ((Z9.f k l0_0).bind fun t453 => ((Z9.f k l0_1).bind fun t456 => ((Z25.f k t453 t456).bind fun t459 => ((Z25.f k t450 t459).bind fun t462 => (some t462)))))) else (some ([] : List Int)))
theorem Z23.mono : ∀ a0 a1 k, LeO (Z23.f k a0 a1) (Z23.f (k + 1) a0 a1) := by
 intro a0 a1 k
 unfold Z23.f
 repeat' first
   | (with_reducible exact Z9.mono _ _)
   | (with_reducible exact Z16.mono _ _ _)
   | (with_reducible exact Z25.mono _ _ _)
   | (with_reducible exact LeO.refl _)
   | (with_reducible exact LeO.none _)
   | (with_reducible refine LeO.ite ?_ ?_)
   | (with_reducible refine LeO.bind ?_ (fun _ => ?_))
   | exact Z9.mono _ _
   | exact Z16.mono _ _ _
   | exact Z25.mono _ _ _
   | exact LeO.none _
   | refine LeO.ite ?_ ?_
   | refine LeO.bind ?_ (fun _ => ?_)
def Z23.T3 : Bool × List (List Nat × List Nat) := (true, [([], []), ([0], [0]), ([], []), ([2], [2]), ([1, 3], [1, 3]), ([], []), ([5], [5]), ([6, 4], [6]), ([], []), ([8], [8]), ([9, 7], [9]), ([7, 10, 10], [7, 10]), ([4, 11, 11], [4, 11]), ([12, 12, 0, 1, 2, 3, 4, 5, 6, 7, 8, 9, 10, 11, 12], [12])])
def Z23.B3 : List Nat := [0, 1, 0, 4, 15, 0, 32, 127, 0, 256, 1023, 2047, 4095, 8191]
theorem Z23.tab3 : rtab .any (opsOf Try.f77 3) = Z23.T3 := by kernel_rfl
theorem Z23.bits3 : waitsOk Z23.T3.2 Z23.B3 = true := by kernel_rfl
set_option maxHeartbeats 8000000 in
set_option maxRecDepth 100000 in
theorem Z23.calls (k : Nat) (A0_0 : Option Addr) (c0_0 : Nat) (l0_0 : List Int) (A0_1 : Option Addr) (c0_1 : Nat) (l0_1 : List Int) (r : List Int) (w : World) (hr0_0 : Kd.C (Kd.int .i64) w A0_0 l0_0.length l0_0) (hc0_0 : l0_0.length ≤ c0_0) (hr0_1 : Kd.C (Kd.int .i64) w A0_1 l0_1.length l0_1) (hc0_1 : l0_1.length ≤ c0_1) (h : Z23.f k l0_0 l0_1 = some r) :
  Calls Try.prog 77 #[.agg #[.slice A0_0 l0_0.length c0_0, .slice A0_1 l0_1.length c0_1]] w fun e w' => ∃ v0_ : Value, e = .returned (v0_) ∧ Kd.R (Kd.int .i64) 3 w' w.heap.size (fun _ => True) v0_ r ∧ Below w.heap.size w w' := by
 have hu27 := Try.underlying27
 have HR0_0 := A_ hr0_0
 have HC0_0 := A_ hc0_0
 clear hr0_0 hc0_0
 have HR0_1 := A_ hr0_1
 have HC0_1 := A_ hc0_1
 clear hr0_1 hc0_1
 have HB := A_ (Below.refl w.heap.size w)
 have H : ((Z16.f k l0_0 l0_1).bind fun t449 => (if t449 = true then ((Z25.f k l0_0 l0_1).bind fun t450 => ((Z9.f k l0_0).bind fun t453 => ((Z9.f k l0_1).bind fun t456 => ((Z25.f k t453 t456).bind fun t459 => ((Z25.f k t450 t459).bind fun t462 => (some t462)))))) else (some ([] : List Int)))) = some r := h
 clear h
 replace H := Option.bind_eq_some_iff.mp H
 obtain ⟨t449, A20, H⟩ := H
 replace H : (if t449 = true then ((Z25.f k l0_0 l0_1).bind fun t450 => ((Z9.f k l0_0).bind fun t453 => ((Z9.f k l0_1).bind fun t456 => ((Z25.f k t453 t456).bind fun t459 => ((Z25.f k t450 t459).bind fun t462 => (some t462)))))) else (some ([] : List Int))) = some r := H
 have A2 := A_ A20
 clear A20
 by_cases c3 : t449 = true
 ·subst c3
  have H1 : ((Z25.f k l0_0 l0_1).bind fun t450 => ((Z9.f k l0_0).bind fun t453 => ((Z9.f k l0_1).bind fun t456 => ((Z25.f k t453 t456).bind fun t459 => ((Z25.f k t450 t459).bind fun t462 => (some t462)))))) = some r := by rw [if_pos rfl] at H; exact H
  clear H
  have H := H1
  clear H1
  replace H := Option.bind_eq_some_iff.mp H
  obtain ⟨t450, A40, H⟩ := H
  replace H : ((Z9.f k l0_0).bind fun t453 => ((Z9.f k l0_1).bind fun t456 => ((Z25.f k t453 t456).bind fun t459 => ((Z25.f k t450 t459).bind fun t462 => (some t462))))) = some r := H
  have A4 := A_ A40
  clear A40
  replace H := Option.bind_eq_some_iff.mp H
  obtain ⟨t453, A50, H⟩ := H
  replace H : ((Z9.f k l0_1).bind fun t456 => ((Z25.f k t453 t456).bind fun t459 => ((Z25.f k t450 t459).bind fun t462 => (some t462)))) = some r := H
  have A5 := A_ A50
  clear A50
  replace H := Option.bind_eq_some_iff.mp H
  obtain ⟨t456, A60, H⟩ := H
  replace H : ((Z25.f k t453 t456).bind fun t459 => ((Z25.f k t450 t459).bind fun t462 => (some t462))) = some r := H
  have A6 := A_ A60
  clear A60
  replace H := Option.bind_eq_some_iff.mp H
  obtain ⟨t459, A70, H⟩ := H
  replace H : ((Z25.f k t450 t459).bind fun t462 => (some t462)) = some r := H
  have A7 := A_ A70
  clear A70
  replace H := Option.bind_eq_some_iff.mp H
  obtain ⟨t462, A80, H⟩ := H
  replace H : (some t462) = some r := H
  have A8 := A_ A80
  clear A80
  obtain rfl := Option.some.inj H
  go_enter Try.func77, Try.ntmps77
  try go_wp2_with (first | ((with_reducible refine gB_ (N := 1) rfl ?_); refine xA_ ?hg (N := 1) ?hd (cs := #[.slice A0_0 l0_0.length c0_0, .slice A0_1 l0_1.length c0_1]) (t := 27) ?hr ?_; (case hd => rfl); (case hg => rfl); (case hr => first | (go_simp; done) | (go_simp; rfl)); intro gb448 hg w9 hbox hb; have n0_ := A_ (bE_ (by repeat (first | (with_reducible first | exact HB.out | apply bA_ | apply bB_ | apply bC_) | exact HB.out)) hb); have n1_ := A_ (hbox); have n2_ := A_ ((by rw [hg]; exact (bF_ (by repeat (first | (with_reducible first | exact HB.out | apply bA_ | apply bB_ | apply bC_) | exact HB.out))) : w.heap.size ≤ gb448)); have n3_ := A_ ((by rw [hg]; exact (bF_ (by repeat (first | (with_reducible first | exact HB.out | apply bA_ | apply bB_ | apply bC_) | exact HB.out))) : w.heap.size ≤ gb448)); clear HB; have HB := n0_; have BK448 := n1_; have GW448 := n2_; have GE448 := n3_; clear n0_ n1_ n2_ n3_; clear hb hbox hg; have hcz10_0 := cz0_ BK448.out; have hcz10_1 := cz1_ BK448.out; have hfz10_0 := kD_ BK448.out 0; have hfz10_1 := kD_ BK448.out 1) | ((with_reducible refine gA_ (f := 65) rfl ?_); refine goesL_ (some 4) rfl rfl Try.func65 (by kernel_rfl) rfl #[.agg #[.slice A0_0 l0_0.length c0_0, .slice A0_1 l0_1.length c0_1]] rfl (by (try simp only [mA_, mB_, mC_]); first | done | rfl | (simp only [lA_, lB_]; rfl)) ?_; (with_reducible refine (Z16.calls k _ _ l0_0 _ _ l0_1 true _ ?side1 ?side2 ?side3 ?side4 A2.out).mono ?_); (case side1 => repeat (first | exact (cD_ HR0_0.out HB.out) | (with_reducible first | refine cA_ ?_ _ | refine cB_ ?_ _ | refine cC_ ?_))); (case side2 => exact HC0_0.out); (case side3 => repeat (first | exact (cD_ HR0_1.out HB.out) | (with_reducible first | refine cA_ ?_ _ | refine cB_ ?_ _ | refine cC_ ?_))); (case side4 => exact HC0_1.out); rintro e w11 ⟨rfl, hb⟩; refine ⟨_, rfl, ?_⟩; have n0_ := A_ (kE_ (g := gb448) (by (with_reducible repeat (first | refine kA_ ?_ _ | refine kB_ ?_ | refine kC_ ?_ _)); exact BK448.out) hb); have n1_ := A_ (bE_ (by repeat (first | (with_reducible first | exact HB.out | apply bA_ | apply bB_ | apply bC_ | refine bD_ ?_ GE448.out) | exact HB.out)) hb); clear BK448; clear HB; have BK448 := n0_; have HB := n1_; clear n0_ n1_; (try clear hb); (try clear hb2); (try clear hk); (try clear hi)))
  have n0_ := A_ (kB_ BK448.out)
  have n1_ := A_ (bC_ HB.out)
  clear BK448
  clear HB
  have BK448 := n0_
  have HB := n1_
  clear n0_ n1_
  refine start_ (n := 14) (S := fun w' => w'.cell? ⟨gb448, 0, none⟩ = some (.slice A0_0 l0_0.length c0_0) ∧ w'.cell? ⟨gb448, 1, none⟩ = some (.slice A0_1 l0_1.length c0_1)) (ds := []) #[false, false, false, false, false, false, false, false, false, false, false, false, false, false] (by kernel_rfl) rfl rfl ⟨(blk_cell BK448.out 0).trans rfl, (blk_cell BK448.out 1).trans rfl⟩ (fun hHeld => ?_); refine with_tabW Z23.tab3 Z23.bits3 (fun HT_ HW_ => ?_)
  generalize w11.drew = w12 at BK448 HB hHeld ⊢
  refine pure_ (i := 0) (N := some 6) (v := ?_) (a' := ?_) #[true, false, false, false, false, false, false, false, false, false, false, false, false, false] rfl rfl (any_of HT_.out (by kernel_rfl)) (fun _ _ _ h => h) (Or.inl ⟨by rfl, ?_⟩) ?_ ?_
  rotate_left
  ·intro w'
   go_simp
   with_reducible rfl
  rotate_left
  ·simp only [Act.put, sA_, sB_, sC_, i64_w, i32_w]
   rfl
  refine pure_ (i := 2) (N := some 8) (v := ?_) (a' := ?_) #[true, false, true, false, false, false, false, false, false, false, false, false, false, false] rfl rfl (any_of HT_.out (by kernel_rfl)) (fun _ _ _ h => h) (Or.inl ⟨by rfl, ?_⟩) ?_ ?_
  rotate_left
  ·intro w'
   go_simp
   with_reducible rfl
  rotate_left
  ·simp only [Act.put, sA_, sB_, sC_, i64_w, i32_w]
   rfl
  refine pure_ (i := 5) (N := some 11) (v := ?_) (a' := ?_) #[true, false, true, false, false, true, false, false, false, false, false, false, false, false] rfl rfl (any_of HT_.out (by kernel_rfl)) (fun _ _ _ h => h) (Or.inl ⟨by rfl, ?_⟩) ?_ ?_
  rotate_left
  ·intro w'
   go_simp
   with_reducible rfl
  rotate_left
  ·simp only [Act.put, sA_, sB_, sC_, i64_w, i32_w]
   rfl
  refine pure_ (i := 8) (N := some 14) (v := ?_) (a' := ?_) #[true, false, true, false, false, true, false, false, true, false, false, false, false, false] rfl rfl (any_of HT_.out (by kernel_rfl)) (fun _ _ _ h => h) (Or.inl ⟨by rfl, ?_⟩) ?_ ?_
  rotate_left
  ·intro w'
   go_simp
   with_reducible rfl
  rotate_left
  ·simp only [Act.put, sA_, sB_, sC_, i64_w, i32_w]
   rfl
  refine take_ (i := 1) (N := some 7) (v := ?_) (a' := ?_) #[true, true, true, false, false, true, false, false, true, false, false, false, false, false] rfl rfl (take_ofW HT_.out HW_.out (by kernel_rfl)) (fun _ _ _ h => h) (Or.inl ⟨by rfl, ?_⟩) hHeld ?_ ?_
  rotate_left
  ·rintro w' ⟨s0, s1⟩
   go_simp
   with_reducible rfl
  rotate_left
  ·simp only [Act.put, sA_, sB_, sC_, i64_w, i32_w]
   rfl
  refine take_ (i := 3) (N := some 9) (v := ?_) (a' := ?_) #[true, true, true, true, false, true, false, false, true, false, false, false, false, false] rfl rfl (take_ofW HT_.out HW_.out (by kernel_rfl)) (fun _ _ _ h => h) (Or.inl ⟨by rfl, ?_⟩) hHeld ?_ ?_
  rotate_left
  ·rintro w' ⟨s0, s1⟩
   go_simp
   with_reducible rfl
  rotate_left
  ·simp only [Act.put, sA_, sB_, sC_, i64_w, i32_w]
   rfl
  refine take_ (i := 6) (N := some 12) (v := ?_) (a' := ?_) #[true, true, true, true, false, true, true, false, true, false, false, false, false, false] rfl rfl (take_ofW HT_.out HW_.out (by kernel_rfl)) (fun _ _ _ h => h) (Or.inl ⟨by rfl, ?_⟩) hHeld ?_ ?_
  rotate_left
  ·rintro w' ⟨s0, s1⟩
   go_simp
   with_reducible rfl
  rotate_left
  ·simp only [Act.put, sA_, sB_, sC_, i64_w, i32_w]
   rfl
  refine take_ (i := 9) (N := some 15) (v := ?_) (a' := ?_) #[true, true, true, true, false, true, true, false, true, true, false, false, false, false] rfl rfl (take_ofW HT_.out HW_.out (by kernel_rfl)) (fun _ _ _ h => h) (Or.inl ⟨by rfl, ?_⟩) hHeld ?_ ?_
  rotate_left
  ·rintro w' ⟨s0, s1⟩
   go_simp
   with_reducible rfl
  rotate_left
  ·simp only [Act.put, sA_, sB_, sC_, i64_w, i32_w]
   rfl
  refine one_ (i := 4) (N := some 10) #[true, true, true, true, true, true, true, false, true, true, false, false, false, false] rfl rfl (one_of HT_.out (by kernel_rfl)) (by decide) (fun K hK => ?_)
  refine goes_ Try.func118 (by kernel_rfl) rfl #[.slice A0_0 l0_0.length c0_0, .slice A0_1 l0_1.length c0_1] (by rfl) rfl rfl (by (try simp only [mA_, mB_, mC_]); first | done | rfl | (simp only [lA_, lB_]; rfl)) ?_
  with_reducible refine (Z25.calls k _ _ l0_0 _ _ l0_1 t450 _ ?side1 ?side2 ?side3 ?side4 A4.out).mono ?_
  (case side1 => repeat (first | exact (cD_ HR0_0.out HB.out) | (with_reducible first | refine cA_ ?_ _ | refine cB_ ?_ _ | refine cC_ ?_)))
  (case side2 => exact HC0_0.out)
  (case side3 => repeat (first | exact (cD_ HR0_1.out HB.out) | (with_reducible first | refine cA_ ?_ _ | refine cB_ ?_ _ | refine cC_ ?_)))
  (case side4 => exact HC0_1.out)
  rintro e w13 ⟨v451, rfl, ho0, hb⟩
  refine ⟨_, rfl, ?_⟩
  have n0_ := A_ (rE_ ho0 (bF_ (by repeat (first | (with_reducible first | exact HB.out | apply bA_ | apply bB_ | apply bC_ | refine bD_ ?_ GE448.out) | exact HB.out))))
  have n1_ := A_ (kE_ (g := gb448) (by (with_reducible repeat (first | refine kA_ ?_ _ | refine kB_ ?_ | refine kC_ ?_ _)); exact BK448.out) hb)
  have n2_ := A_ (bE_ (by repeat (first | (with_reducible first | exact HB.out | apply bA_ | apply bB_ | apply bC_ | refine bD_ ?_ GE448.out) | exact HB.out)) hb)
  clear BK448
  clear HB
  have HO452 := n0_
  have BK448 := n1_
  have HB := n2_
  clear n0_ n1_ n2_
  (try clear hb)
  (try clear hb2)
  (try clear hk)
  (try clear hi)
  (try clear ho0)
  refine hK.out _ _ ⟨(blk_cell BK448.out 0).trans rfl, (blk_cell BK448.out 1).trans rfl⟩ (fun hHeld => ?_)
  clear hK K
  refine norm_ (a' := ?_) ?_ ?_
  rotate_left
  ·show Act.put _ (some 10) _ = _
   simp only [Act.put, sA_, sB_, sC_, i64_w, i32_w]
   rfl
  refine one_ (i := 7) (N := some 13) #[true, true, true, true, true, true, true, true, true, true, false, false, false, false] rfl rfl (one_of HT_.out (by kernel_rfl)) (by decide) (fun K hK => ?_)
  refine goes_ Try.func119 (by kernel_rfl) rfl #[.slice A0_0 l0_0.length c0_0] (by rfl) rfl rfl (by (try simp only [mA_, mB_, mC_]); first | done | rfl | (simp only [lA_, lB_]; rfl)) ?_
  with_reducible refine (Z9.calls k _ _ l0_0 t453 _ ?side1 ?side2 A5.out).mono ?_
  (case side1 => repeat (first | exact (cD_ HR0_0.out HB.out) | (with_reducible first | refine cA_ ?_ _ | refine cB_ ?_ _ | refine cC_ ?_)))
  (case side2 => exact HC0_0.out)
  rintro e w14 ⟨v454, rfl, ho0, hb⟩
  refine ⟨_, rfl, ?_⟩
  have n0_ := A_ (Kd.R_elder' (by (with_reducible repeat (first | apply rA_ | apply rB_ | apply rC_)); exact HO452.out) (Kd.R_base ho0) hb)
  have n1_ := A_ (rE_ (Kd.R_new' ho0 (Kd.R_lt (by (with_reducible repeat (first | apply rA_ | apply rB_ | apply rC_)); exact HO452.out))) (bF_ (by repeat (first | (with_reducible first | exact HB.out | apply bA_ | apply bB_ | apply bC_ | refine bD_ ?_ GE448.out) | exact HB.out))))
  have n2_ := A_ (kE_ (g := gb448) (by (with_reducible repeat (first | refine kA_ ?_ _ | refine kB_ ?_ | refine kC_ ?_ _)); exact BK448.out) hb)
  have n3_ := A_ (bE_ (by repeat (first | (with_reducible first | exact HB.out | apply bA_ | apply bB_ | apply bC_ | refine bD_ ?_ GE448.out) | exact HB.out)) hb)
  clear HO452
  clear BK448
  clear HB
  have HO452 := n0_
  have HO455 := n1_
  have BK448 := n2_
  have HB := n3_
  clear n0_ n1_ n2_ n3_
  (try clear hb)
  (try clear hb2)
  (try clear hk)
  (try clear hi)
  (try clear ho0)
  refine hK.out _ _ ⟨(blk_cell BK448.out 0).trans rfl, (blk_cell BK448.out 1).trans rfl⟩ (fun hHeld => ?_)
  clear hK K
  refine norm_ (a' := ?_) ?_ ?_
  rotate_left
  ·show Act.put _ (some 13) _ = _
   simp only [Act.put, sA_, sB_, sC_, i64_w, i32_w]
   rfl
  refine one_ (i := 10) (N := some 16) #[true, true, true, true, true, true, true, true, true, true, true, false, false, false] rfl rfl (one_of HT_.out (by kernel_rfl)) (by decide) (fun K hK => ?_)
  refine goes_ Try.func119 (by kernel_rfl) rfl #[.slice A0_1 l0_1.length c0_1] (by rfl) rfl rfl (by (try simp only [mA_, mB_, mC_]); first | done | rfl | (simp only [lA_, lB_]; rfl)) ?_
  with_reducible refine (Z9.calls k _ _ l0_1 t456 _ ?side1 ?side2 A6.out).mono ?_
  (case side1 => repeat (first | exact (cD_ HR0_1.out HB.out) | (with_reducible first | refine cA_ ?_ _ | refine cB_ ?_ _ | refine cC_ ?_)))
  (case side2 => exact HC0_1.out)
  rintro e w15 ⟨v457, rfl, ho0, hb⟩
  refine ⟨_, rfl, ?_⟩
  have n0_ := A_ (Kd.R_elder' (by (with_reducible repeat (first | apply rA_ | apply rB_ | apply rC_)); exact HO452.out) (Kd.R_base ho0) hb)
  have n1_ := A_ (Kd.R_elder' (by (with_reducible repeat (first | apply rA_ | apply rB_ | apply rC_)); exact HO455.out) (Kd.R_base ho0) hb)
  have n2_ := A_ (rE_ (Kd.R_new' (Kd.R_new' ho0 (Kd.R_lt (by (with_reducible repeat (first | apply rA_ | apply rB_ | apply rC_)); exact HO452.out))) (Kd.R_lt (by (with_reducible repeat (first | apply rA_ | apply rB_ | apply rC_)); exact HO455.out))) (bF_ (by repeat (first | (with_reducible first | exact HB.out | apply bA_ | apply bB_ | apply bC_ | refine bD_ ?_ GE448.out) | exact HB.out))))
  have n3_ := A_ (kE_ (g := gb448) (by (with_reducible repeat (first | refine kA_ ?_ _ | refine kB_ ?_ | refine kC_ ?_ _)); exact BK448.out) hb)
  have n4_ := A_ (bE_ (by repeat (first | (with_reducible first | exact HB.out | apply bA_ | apply bB_ | apply bC_ | refine bD_ ?_ GE448.out) | exact HB.out)) hb)
  clear HO452
  clear HO455
  clear BK448
  clear HB
  have HO452 := n0_
  have HO455 := n1_
  have HO458 := n2_
  have BK448 := n3_
  have HB := n4_
  clear n0_ n1_ n2_ n3_ n4_
  (try clear hb)
  (try clear hb2)
  (try clear hk)
  (try clear hi)
  (try clear ho0)
  obtain ⟨Ao16, co16, eo16⟩ := Kd.R_slice HO455.out
  (first | subst eo16 | (injection eo16 with f1_ f2_ f3_; have f4_ := f1_.symm; have f5_ := f3_.symm; clear f1_ f2_ f3_; subst f4_; subst f5_))
  obtain ⟨Ao17, co17, eo17⟩ := Kd.R_slice HO458.out
  (first | subst eo17 | (injection eo17 with f1_ f2_ f3_; have f4_ := f1_.symm; have f5_ := f3_.symm; clear f1_ f2_ f3_; subst f4_; subst f5_))
  refine hK.out _ _ ⟨(blk_cell BK448.out 0).trans rfl, (blk_cell BK448.out 1).trans rfl⟩ (fun hHeld => ?_)
  clear hK K
  refine norm_ (a' := ?_) ?_ ?_
  rotate_left
  ·show Act.put _ (some 16) _ = _
   simp only [Act.put, sA_, sB_, sC_, i64_w, i32_w]
   rfl
  refine one_ (i := 11) (N := some 17) #[true, true, true, true, true, true, true, true, true, true, true, true, false, false] rfl rfl (one_of HT_.out (by kernel_rfl)) (by decide) (fun K hK => ?_)
  refine goes_ Try.func118 (by kernel_rfl) rfl #[.slice Ao16 t453.length co16, .slice Ao17 t456.length co17] (by rfl) rfl rfl (by (try simp only [mA_, mB_, mC_]); first | done | rfl | (simp only [lA_, lB_]; rfl)) ?_
  with_reducible refine (Z25.calls k _ _ t453 _ _ t456 t459 _ ?side1 ?side2 ?side3 ?side4 A7.out).mono ?_
  (case side1 => repeat (first | exact (Kd.R_reads' HO455.out).2.2 | (with_reducible first | refine cA_ ?_ _ | refine cB_ ?_ _ | refine cC_ ?_)))
  (case side2 => exact (Kd.R_reads' HO455.out).2.1)
  (case side3 => repeat (first | exact (Kd.R_reads' HO458.out).2.2 | (with_reducible first | refine cA_ ?_ _ | refine cB_ ?_ _ | refine cC_ ?_)))
  (case side4 => exact (Kd.R_reads' HO458.out).2.1)
  rintro e w18 ⟨v460, rfl, ho0, hb⟩
  refine ⟨_, rfl, ?_⟩
  have n0_ := A_ (Kd.R_elder' (by (with_reducible repeat (first | apply rA_ | apply rB_ | apply rC_)); exact HO452.out) (Kd.R_base ho0) hb)
  have n1_ := A_ (Kd.R_elder' (by (with_reducible repeat (first | apply rA_ | apply rB_ | apply rC_)); exact HO455.out) (Kd.R_base ho0) hb)
  have n2_ := A_ (Kd.R_elder' (by (with_reducible repeat (first | apply rA_ | apply rB_ | apply rC_)); exact HO458.out) (Kd.R_base ho0) hb)
  have n3_ := A_ (rE_ (Kd.R_new' (Kd.R_new' (Kd.R_new' ho0 (Kd.R_lt (by (with_reducible repeat (first | apply rA_ | apply rB_ | apply rC_)); exact HO452.out))) (Kd.R_lt (by (with_reducible repeat (first | apply rA_ | apply rB_ | apply rC_)); exact HO455.out))) (Kd.R_lt (by (with_reducible repeat (first | apply rA_ | apply rB_ | apply rC_)); exact HO458.out))) (bF_ (by repeat (first | (with_reducible first | exact HB.out | apply bA_ | apply bB_ | apply bC_ | refine bD_ ?_ GE448.out) | exact HB.out))))
  have n4_ := A_ (kE_ (g := gb448) (by (with_reducible repeat (first | refine kA_ ?_ _ | refine kB_ ?_ | refine kC_ ?_ _)); exact BK448.out) hb)
  have n5_ := A_ (bE_ (by repeat (first | (with_reducible first | exact HB.out | apply bA_ | apply bB_ | apply bC_ | refine bD_ ?_ GE448.out) | exact HB.out)) hb)
  clear HO452
  clear HO455
  clear HO458
  clear BK448
  clear HB
  have HO452 := n0_
  have HO455 := n1_
  have HO458 := n2_
  have HO461 := n3_
  have BK448 := n4_
  have HB := n5_
  clear n0_ n1_ n2_ n3_ n4_ n5_
  (try clear hb)
  (try clear hb2)
  (try clear hk)
  (try clear hi)
  (try clear ho0)
  obtain ⟨Ao19, co19, eo19⟩ := Kd.R_slice HO452.out
  (first | subst eo19 | (injection eo19 with f1_ f2_ f3_; have f4_ := f1_.symm; have f5_ := f3_.symm; clear f1_ f2_ f3_; subst f4_; subst f5_))
  obtain ⟨Ao20, co20, eo20⟩ := Kd.R_slice HO461.out
  (first | subst eo20 | (injection eo20 with f1_ f2_ f3_; have f4_ := f1_.symm; have f5_ := f3_.symm; clear f1_ f2_ f3_; subst f4_; subst f5_))
  refine hK.out _ _ ⟨(blk_cell BK448.out 0).trans rfl, (blk_cell BK448.out 1).trans rfl⟩ (fun hHeld => ?_)
  clear hK K
  refine norm_ (a' := ?_) ?_ ?_
  rotate_left
  ·show Act.put _ (some 17) _ = _
   simp only [Act.put, sA_, sB_, sC_, i64_w, i32_w]
   rfl
  refine one_ (i := 12) (N := some 18) #[true, true, true, true, true, true, true, true, true, true, true, true, true, false] rfl rfl (one_of HT_.out (by kernel_rfl)) (by decide) (fun K hK => ?_)
  refine goes_ Try.func118 (by kernel_rfl) rfl #[.slice Ao19 t450.length co19, .slice Ao20 t459.length co20] (by rfl) rfl rfl (by (try simp only [mA_, mB_, mC_]); first | done | rfl | (simp only [lA_, lB_]; rfl)) ?_
  with_reducible refine (Z25.calls k _ _ t450 _ _ t459 t462 _ ?side1 ?side2 ?side3 ?side4 A8.out).mono ?_
  (case side1 => repeat (first | exact (Kd.R_reads' HO452.out).2.2 | (with_reducible first | refine cA_ ?_ _ | refine cB_ ?_ _ | refine cC_ ?_)))
  (case side2 => exact (Kd.R_reads' HO452.out).2.1)
  (case side3 => repeat (first | exact (Kd.R_reads' HO461.out).2.2 | (with_reducible first | refine cA_ ?_ _ | refine cB_ ?_ _ | refine cC_ ?_)))
  (case side4 => exact (Kd.R_reads' HO461.out).2.1)
  rintro e w21 ⟨v463, rfl, ho0, hb⟩
  refine ⟨_, rfl, ?_⟩
  have n0_ := A_ (Kd.R_elder' (by (with_reducible repeat (first | apply rA_ | apply rB_ | apply rC_)); exact HO452.out) (Kd.R_base ho0) hb)
  have n1_ := A_ (Kd.R_elder' (by (with_reducible repeat (first | apply rA_ | apply rB_ | apply rC_)); exact HO455.out) (Kd.R_base ho0) hb)
  have n2_ := A_ (Kd.R_elder' (by (with_reducible repeat (first | apply rA_ | apply rB_ | apply rC_)); exact HO458.out) (Kd.R_base ho0) hb)
  have n3_ := A_ (Kd.R_elder' (by (with_reducible repeat (first | apply rA_ | apply rB_ | apply rC_)); exact HO461.out) (Kd.R_base ho0) hb)
  have n4_ := A_ (rE_ (Kd.R_new' (Kd.R_new' (Kd.R_new' (Kd.R_new' ho0 (Kd.R_lt (by (with_reducible repeat (first | apply rA_ | apply rB_ | apply rC_)); exact HO452.out))) (Kd.R_lt (by (with_reducible repeat (first | apply rA_ | apply rB_ | apply rC_)); exact HO455.out))) (Kd.R_lt (by (with_reducible repeat (first | apply rA_ | apply rB_ | apply rC_)); exact HO458.out))) (Kd.R_lt (by (with_reducible repeat (first | apply rA_ | apply rB_ | apply rC_)); exact HO461.out))) (bF_ (by repeat (first | (with_reducible first | exact HB.out | apply bA_ | apply bB_ | apply bC_ | refine bD_ ?_ GE448.out) | exact HB.out))))
  have n5_ := A_ (kE_ (g := gb448) (by (with_reducible repeat (first | refine kA_ ?_ _ | refine kB_ ?_ | refine kC_ ?_ _)); exact BK448.out) hb)
  have n6_ := A_ (bE_ (by repeat (first | (with_reducible first | exact HB.out | apply bA_ | apply bB_ | apply bC_ | refine bD_ ?_ GE448.out) | exact HB.out)) hb)
  clear HO452
  clear HO455
  clear HO458
  clear HO461
  clear BK448
  clear HB
  have HO452 := n0_
  have HO455 := n1_
  have HO458 := n2_
  have HO461 := n3_
  have HO464 := n4_
  have BK448 := n5_
  have HB := n6_
  clear n0_ n1_ n2_ n3_ n4_ n5_ n6_
  (try clear hb)
  (try clear hb2)
  (try clear hk)
  (try clear hi)
  (try clear ho0)
  refine hK.out _ _ ⟨(blk_cell BK448.out 0).trans rfl, (blk_cell BK448.out 1).trans rfl⟩ (fun hHeld => ?_)
  clear hK K
  refine norm_ (a' := ?_) ?_ ?_
  rotate_left
  ·show Act.put _ (some 18) _ = _
   simp only [Act.put, sA_, sB_, sC_, i64_w, i32_w]
   rfl
  refine pure_ (i := 13) (N := some 2) (v := ?_) (a' := ?_) #[true, true, true, true, true, true, true, true, true, true, true, true, true, true] rfl rfl (any_of HT_.out (by kernel_rfl)) (fun _ _ _ h => h) (Or.inl ⟨by rfl, ?_⟩) ?_ ?_
  rotate_left
  ·intro w'
   go_simp
   with_reducible rfl
  rotate_left
  ·simp only [Act.put, sA_, sB_, sC_, i64_w, i32_w]
   rfl
  refine done_ (done_of HT_.out (by kernel_rfl)) ?_
  try go_wp2
  go_ret
  exact ⟨_, by first | rfl | (simp [errW_none, errW_some] <;> rfl) | (simp [*, errW_none, errW_some] <;> rfl), by (with_reducible repeat (first | apply rA_ | apply rB_ | apply rC_)); exact Kd.R_mono HO464.out (fun _ hk => trivial), by repeat (first | (with_reducible first | exact HB.out | apply bA_ | apply bB_ | apply bC_ | refine bD_ ?_ GE448.out) | exact HB.out)⟩
 ·replace c3 := Bool.eq_false_iff.mpr c3
  subst c3
  have H1 : (some ([] : List Int)) = some r := by rw [if_neg (show ¬ (false = true) by decide)] at H; exact H
  clear H
  have H := H1
  clear H1
  obtain rfl := Option.some.inj H
  go_enter Try.func77, Try.ntmps77
  go_wp2_with (first | ((with_reducible refine gB_ (N := 1) rfl ?_); refine xA_ ?hg (N := 1) ?hd (cs := #[.slice A0_0 l0_0.length c0_0, .slice A0_1 l0_1.length c0_1]) (t := 27) ?hr ?_; (case hd => rfl); (case hg => rfl); (case hr => first | (go_simp; done) | (go_simp; rfl)); intro gb448 hg w22 hbox hb; have n0_ := A_ (bE_ (by repeat (first | (with_reducible first | exact HB.out | apply bA_ | apply bB_ | apply bC_) | exact HB.out)) hb); have n1_ := A_ (hbox); have n2_ := A_ ((by rw [hg]; exact (bF_ (by repeat (first | (with_reducible first | exact HB.out | apply bA_ | apply bB_ | apply bC_) | exact HB.out))) : w.heap.size ≤ gb448)); have n3_ := A_ ((by rw [hg]; exact (bF_ (by repeat (first | (with_reducible first | exact HB.out | apply bA_ | apply bB_ | apply bC_) | exact HB.out))) : w.heap.size ≤ gb448)); clear HB; have HB := n0_; have BK448 := n1_; have GW448 := n2_; have GE448 := n3_; clear n0_ n1_ n2_ n3_; clear hb hbox hg; have hcz23_0 := cz0_ BK448.out; have hcz23_1 := cz1_ BK448.out; have hfz23_0 := kD_ BK448.out 0; have hfz23_1 := kD_ BK448.out 1) | ((with_reducible refine gA_ (f := 65) rfl ?_); refine goesL_ (some 4) rfl rfl Try.func65 (by kernel_rfl) rfl #[.agg #[.slice A0_0 l0_0.length c0_0, .slice A0_1 l0_1.length c0_1]] rfl (by (try simp only [mA_, mB_, mC_]); first | done | rfl | (simp only [lA_, lB_]; rfl)) ?_; (with_reducible refine (Z16.calls k _ _ l0_0 _ _ l0_1 false _ ?side1 ?side2 ?side3 ?side4 A2.out).mono ?_); (case side1 => repeat (first | exact (cD_ HR0_0.out HB.out) | (with_reducible first | refine cA_ ?_ _ | refine cB_ ?_ _ | refine cC_ ?_))); (case side2 => exact HC0_0.out); (case side3 => repeat (first | exact (cD_ HR0_1.out HB.out) | (with_reducible first | refine cA_ ?_ _ | refine cB_ ?_ _ | refine cC_ ?_))); (case side4 => exact HC0_1.out); rintro e w24 ⟨rfl, hb⟩; refine ⟨_, rfl, ?_⟩; have n0_ := A_ (kE_ (g := gb448) (by (with_reducible repeat (first | refine kA_ ?_ _ | refine kB_ ?_ | refine kC_ ?_ _)); exact BK448.out) hb); have n1_ := A_ (bE_ (by repeat (first | (with_reducible first | exact HB.out | apply bA_ | apply bB_ | apply bC_ | refine bD_ ?_ GE448.out) | exact HB.out)) hb); clear BK448; clear HB; have BK448 := n0_; have HB := n1_; clear n0_ n1_; (try clear hb); (try clear hb2); (try clear hk); (try clear hi)))
  go_ret
  exact ⟨_, by first | rfl | (simp [errW_none, errW_some] <;> rfl) | (simp [*, errW_none, errW_some] <;> rfl), by first | exact Kd.R_nil _ _ _ _ _ | exact Kd.N_nil _ _ _ _ _ | exact Kd.V_nil _ _ _ _ _ | exact Kd.Q_nil _ _ _ _ _ | exact Kd.S_nil _ _ _ _ _, by repeat (first | (with_reducible first | exact HB.out | apply bA_ | apply bB_ | apply bC_ | refine bD_ ?_ GE448.out) | exact HB.out)⟩
def Z15.f (k : Nat) (l0_0 : List Int) (l0_1 : List Int) : Option ((List (List Int))) := (Z16.f k l0_0 l0_1).bind fun t466 => (if t466 = true then ((Z23.f k l0_0 l0_1).bind fun t467 => ((Z24.f k t467).bind fun t470 => (some t470))) else (some ([] : List (List Int))))
theorem Z15.mono : ∀ a0 a1 k, LeO (Z15.f k a0 a1) (Z15.f (k + 1) a0 a1) := by
 intro a0 a1 k
 unfold Z15.f
 repeat' first
   | (with_reducible exact Z23.mono _ _ _)
   | (with_reducible exact Z24.mono _ _)
   | (with_reducible exact Z16.mono _ _ _)
   | (with_reducible exact LeO.refl _)
   | (with_reducible exact LeO.none _)
   | (with_reducible refine LeO.ite ?_ ?_)
   | (with_reducible refine LeO.bind ?_ (fun _ => ?_))
   | exact Z23.mono _ _ _
   | exact Z24.mono _ _
   | exact Z16.mono _ _ _
   | exact LeO.none _
   | refine LeO.ite ?_ ?_
   | refine LeO.bind ?_ (fun _ => ?_)
set_option maxHeartbeats 8000000 in
set_option maxRecDepth 100000 in
theorem Z15.calls (k : Nat) (A0_0 : Option Addr) (c0_0 : Nat) (l0_0 : List Int) (A0_1 : Option Addr) (c0_1 : Nat) (l0_1 : List Int) (r : List (List Int)) (w : World) (hr0_0 : Kd.C (Kd.int .i64) w A0_0 l0_0.length l0_0) (hc0_0 : l0_0.length ≤ c0_0) (hr0_1 : Kd.C (Kd.int .i64) w A0_1 l0_1.length l0_1) (hc0_1 : l0_1.length ≤ c0_1) (h : Z15.f k l0_0 l0_1 = some r) :
  Calls Try.prog 140 #[.agg #[.slice A0_0 l0_0.length c0_0, .slice A0_1 l0_1.length c0_1]] w fun e w' => ∃ v0_ : Value, e = .returned (v0_) ∧ Kd.S (Kd.slice 3 (Kd.int .i64)) 22 w' w.heap.size (fun _ => True) v0_ r ∧ Below w.heap.size w w' := by
 have hu27 := Try.underlying27
 have HR0_0 := A_ hr0_0
 have HC0_0 := A_ hc0_0
 clear hr0_0 hc0_0
 have HR0_1 := A_ hr0_1
 have HC0_1 := A_ hc0_1
 clear hr0_1 hc0_1
 have HB := A_ (Below.refl w.heap.size w)
 have H : ((Z16.f k l0_0 l0_1).bind fun t466 => (if t466 = true then ((Z23.f k l0_0 l0_1).bind fun t467 => ((Z24.f k t467).bind fun t470 => (some t470))) else (some ([] : List (List Int))))) = some r := h
 clear h
 replace H := Option.bind_eq_some_iff.mp H
 obtain ⟨t466, A20, H⟩ := H
 replace H : (if t466 = true then ((Z23.f k l0_0 l0_1).bind fun t467 => ((Z24.f k t467).bind fun t470 => (some t470))) else (some ([] : List (List Int)))) = some r := H
 have A2 := A_ A20
 clear A20
 by_cases c3 : t466 = true
 ·subst c3
  have H1 : ((Z23.f k l0_0 l0_1).bind fun t467 => ((Z24.f k t467).bind fun t470 => (some t470))) = some r := by rw [if_pos rfl] at H; exact H
  clear H
  have H := H1
  clear H1
  replace H := Option.bind_eq_some_iff.mp H
  obtain ⟨t467, A40, H⟩ := H
  replace H : ((Z24.f k t467).bind fun t470 => (some t470)) = some r := H
  have A4 := A_ A40
  clear A40
  replace H := Option.bind_eq_some_iff.mp H
  obtain ⟨t470, A50, H⟩ := H
  replace H : (some t470) = some r := H
  have A5 := A_ A50
  clear A50
  obtain rfl := Option.some.inj H
  go_enter Try.func140, Try.ntmps140
  go_wp2_with (first | ((with_reducible refine gB_ (N := 1) rfl ?_); refine xA_ ?hg (N := 1) ?hd (cs := #[.slice A0_0 l0_0.length c0_0, .slice A0_1 l0_1.length c0_1]) (t := 27) ?hr ?_; (case hd => rfl); (case hg => rfl); (case hr => first | (go_simp; done) | (go_simp; rfl)); intro gb465 hg w6 hbox hb; have n0_ := A_ (bE_ (by repeat (first | (with_reducible first | exact HB.out | apply bA_ | apply bB_ | apply bC_) | exact HB.out)) hb); have n1_ := A_ (hbox); have n2_ := A_ ((by rw [hg]; exact (bF_ (by repeat (first | (with_reducible first | exact HB.out | apply bA_ | apply bB_ | apply bC_) | exact HB.out))) : w.heap.size ≤ gb465)); have n3_ := A_ ((by rw [hg]; exact (bF_ (by repeat (first | (with_reducible first | exact HB.out | apply bA_ | apply bB_ | apply bC_) | exact HB.out))) : w.heap.size ≤ gb465)); clear HB; have HB := n0_; have BK465 := n1_; have GW465 := n2_; have GE465 := n3_; clear n0_ n1_ n2_ n3_; clear hb hbox hg; have hcz7_0 := cz0_ BK465.out; have hcz7_1 := cz1_ BK465.out; have hfz7_0 := kD_ BK465.out 0; have hfz7_1 := kD_ BK465.out 1) | ((with_reducible refine gA_ (f := 65) rfl ?_); refine goesL_ (some 4) rfl rfl Try.func65 (by kernel_rfl) rfl #[.agg #[.slice A0_0 l0_0.length c0_0, .slice A0_1 l0_1.length c0_1]] rfl (by (try simp only [mA_, mB_, mC_]); first | done | rfl | (simp only [lA_, lB_]; rfl)) ?_; (with_reducible refine (Z16.calls k _ _ l0_0 _ _ l0_1 true _ ?side1 ?side2 ?side3 ?side4 A2.out).mono ?_); (case side1 => repeat (first | exact (cD_ HR0_0.out HB.out) | (with_reducible first | refine cA_ ?_ _ | refine cB_ ?_ _ | refine cC_ ?_))); (case side2 => exact HC0_0.out); (case side3 => repeat (first | exact (cD_ HR0_1.out HB.out) | (with_reducible first | refine cA_ ?_ _ | refine cB_ ?_ _ | refine cC_ ?_))); (case side4 => exact HC0_1.out); rintro e w8 ⟨rfl, hb⟩; refine ⟨_, rfl, ?_⟩; have n0_ := A_ (kE_ (g := gb465) (by (with_reducible repeat (first | refine kA_ ?_ _ | refine kB_ ?_ | refine kC_ ?_ _)); exact BK465.out) hb); have n1_ := A_ (bE_ (by repeat (first | (with_reducible first | exact HB.out | apply bA_ | apply bB_ | apply bC_ | refine bD_ ?_ GE465.out) | exact HB.out)) hb); clear BK465; clear HB; have BK465 := n0_; have HB := n1_; clear n0_ n1_; (try clear hb); (try clear hb2); (try clear hk); (try clear hi); have hcz9_0 := cz0_ BK465.out; have hcz9_1 := cz1_ BK465.out; have hfz9_0 := kD_ BK465.out 0; have hfz9_1 := kD_ BK465.out 1) | ((with_reducible refine gA_ (f := 77) rfl ?_); refine goesL_ (some 7) rfl rfl Try.func77 (by kernel_rfl) rfl #[.agg #[.slice A0_0 l0_0.length c0_0, .slice A0_1 l0_1.length c0_1]] rfl (by (try simp only [mA_, mB_, mC_]); first | done | rfl | (simp only [lA_, lB_]; rfl)) ?_; (with_reducible refine (Z23.calls k _ _ l0_0 _ _ l0_1 t467 _ ?side1 ?side2 ?side3 ?side4 A4.out).mono ?_); (case side1 => repeat (first | exact (cD_ HR0_0.out HB.out) | (with_reducible first | refine cA_ ?_ _ | refine cB_ ?_ _ | refine cC_ ?_))); (case side2 => exact HC0_0.out); (case side3 => repeat (first | exact (cD_ HR0_1.out HB.out) | (with_reducible first | refine cA_ ?_ _ | refine cB_ ?_ _ | refine cC_ ?_))); (case side4 => exact HC0_1.out); rintro e w10 ⟨v468, rfl, ho0, hb⟩; refine ⟨_, rfl, ?_⟩; have n0_ := A_ (rE_ ho0 (bF_ (by repeat (first | (with_reducible first | exact HB.out | apply bA_ | apply bB_ | apply bC_ | refine bD_ ?_ GE465.out) | exact HB.out)))); have n1_ := A_ (kE_ (g := gb465) (by (with_reducible repeat (first | refine kA_ ?_ _ | refine kB_ ?_ | refine kC_ ?_ _)); exact BK465.out) hb); have n2_ := A_ (bE_ (by repeat (first | (with_reducible first | exact HB.out | apply bA_ | apply bB_ | apply bC_ | refine bD_ ?_ GE465.out) | exact HB.out)) hb); clear BK465; clear HB; have HO469 := n0_; have BK465 := n1_; have HB := n2_; clear n0_ n1_ n2_; (try clear hb); (try clear hb2); (try clear hk); (try clear hi); (try clear ho0); obtain ⟨Ao11, co11, eo11⟩ := Kd.R_slice HO469.out; subst eo11) | ((with_reducible refine gA_ (f := 56) rfl ?_); refine goesL_ (some 8) rfl rfl Try.func56 (by kernel_rfl) rfl #[.slice Ao11 t467.length co11] rfl (by (try simp only [mA_, mB_, mC_]); first | done | rfl | (simp only [lA_, lB_]; rfl)) ?_; (with_reducible refine (Z24.calls k _ _ t467 t470 _ ?side1 ?side2 A5.out).mono ?_); (case side1 => repeat (first | exact (Kd.R_reads' HO469.out).2.2 | (with_reducible first | refine cA_ ?_ _ | refine cB_ ?_ _ | refine cC_ ?_))); (case side2 => exact (Kd.R_reads' HO469.out).2.1); rintro e w12 ⟨v471, rfl, ho0, hb⟩; refine ⟨_, rfl, ?_⟩; have n0_ := A_ (rD_ (by (with_reducible repeat (first | apply rA_ | apply rB_ | apply rC_)); exact HO469.out) hb); have n1_ := A_ (Kd.S_lower (Kd.S_new' ho0 (Kd.R_lt (by (with_reducible repeat (first | apply rA_ | apply rB_ | apply rC_)); exact HO469.out))) (bF_ (by repeat (first | (with_reducible first | exact HB.out | apply bA_ | apply bB_ | apply bC_ | refine bD_ ?_ GE465.out) | exact HB.out)))); have n2_ := A_ (kE_ (g := gb465) (by (with_reducible repeat (first | refine kA_ ?_ _ | refine kB_ ?_ | refine kC_ ?_ _)); exact BK465.out) hb); have n3_ := A_ (bE_ (by repeat (first | (with_reducible first | exact HB.out | apply bA_ | apply bB_ | apply bC_ | refine bD_ ?_ GE465.out) | exact HB.out)) hb); clear HO469; clear BK465; clear HB; have HO469 := n0_; have HO472 := n1_; have BK465 := n2_; have HB := n3_; clear n0_ n1_ n2_ n3_; (try clear hb); (try clear hb2); (try clear hk); (try clear hi); (try clear ho0)))
  go_ret
  exact ⟨_, by first | rfl | (simp [errW_none, errW_some] <;> rfl) | (simp [*, errW_none, errW_some] <;> rfl), by (with_reducible repeat (first | apply Kd.S_alloc | apply Kd.S_drewN | apply Kd.S_drew)); exact Kd.S_mono HO472.out (fun _ hk => trivial), by repeat (first | (with_reducible first | exact HB.out | apply bA_ | apply bB_ | apply bC_ | refine bD_ ?_ GE465.out) | exact HB.out)⟩
 ·replace c3 := Bool.eq_false_iff.mpr c3
  subst c3
  have H1 : (some ([] : List (List Int))) = some r := by rw [if_neg (show ¬ (false = true) by decide)] at H; exact H
  clear H
  have H := H1
  clear H1
  obtain rfl := Option.some.inj H
  go_enter Try.func140, Try.ntmps140
  go_wp2_with (first | ((with_reducible refine gB_ (N := 1) rfl ?_); refine xA_ ?hg (N := 1) ?hd (cs := #[.slice A0_0 l0_0.length c0_0, .slice A0_1 l0_1.length c0_1]) (t := 27) ?hr ?_; (case hd => rfl); (case hg => rfl); (case hr => first | (go_simp; done) | (go_simp; rfl)); intro gb465 hg w13 hbox hb; have n0_ := A_ (bE_ (by repeat (first | (with_reducible first | exact HB.out | apply bA_ | apply bB_ | apply bC_) | exact HB.out)) hb); have n1_ := A_ (hbox); have n2_ := A_ ((by rw [hg]; exact (bF_ (by repeat (first | (with_reducible first | exact HB.out | apply bA_ | apply bB_ | apply bC_) | exact HB.out))) : w.heap.size ≤ gb465)); have n3_ := A_ ((by rw [hg]; exact (bF_ (by repeat (first | (with_reducible first | exact HB.out | apply bA_ | apply bB_ | apply bC_) | exact HB.out))) : w.heap.size ≤ gb465)); clear HB; have HB := n0_; have BK465 := n1_; have GW465 := n2_; have GE465 := n3_; clear n0_ n1_ n2_ n3_; clear hb hbox hg; have hcz14_0 := cz0_ BK465.out; have hcz14_1 := cz1_ BK465.out; have hfz14_0 := kD_ BK465.out 0; have hfz14_1 := kD_ BK465.out 1) | ((with_reducible refine gA_ (f := 65) rfl ?_); refine goesL_ (some 4) rfl rfl Try.func65 (by kernel_rfl) rfl #[.agg #[.slice A0_0 l0_0.length c0_0, .slice A0_1 l0_1.length c0_1]] rfl (by (try simp only [mA_, mB_, mC_]); first | done | rfl | (simp only [lA_, lB_]; rfl)) ?_; (with_reducible refine (Z16.calls k _ _ l0_0 _ _ l0_1 false _ ?side1 ?side2 ?side3 ?side4 A2.out).mono ?_); (case side1 => repeat (first | exact (cD_ HR0_0.out HB.out) | (with_reducible first | refine cA_ ?_ _ | refine cB_ ?_ _ | refine cC_ ?_))); (case side2 => exact HC0_0.out); (case side3 => repeat (first | exact (cD_ HR0_1.out HB.out) | (with_reducible first | refine cA_ ?_ _ | refine cB_ ?_ _ | refine cC_ ?_))); (case side4 => exact HC0_1.out); rintro e w15 ⟨rfl, hb⟩; refine ⟨_, rfl, ?_⟩; have n0_ := A_ (kE_ (g := gb465) (by (with_reducible repeat (first | refine kA_ ?_ _ | refine kB_ ?_ | refine kC_ ?_ _)); exact BK465.out) hb); have n1_ := A_ (bE_ (by repeat (first | (with_reducible first | exact HB.out | apply bA_ | apply bB_ | apply bC_ | refine bD_ ?_ GE465.out) | exact HB.out)) hb); clear BK465; clear HB; have BK465 := n0_; have HB := n1_; clear n0_ n1_; (try clear hb); (try clear hb2); (try clear hk); (try clear hi)))
  go_ret
  exact ⟨_, by first | rfl | (simp [errW_none, errW_some] <;> rfl) | (simp [*, errW_none, errW_some] <;> rfl), by first | exact Kd.S_nil _ _ _ _ _ | exact Kd.N_nil _ _ _ _ _ | exact Kd.V_nil _ _ _ _ _ | exact Kd.Q_nil _ _ _ _ _ | exact Kd.R_nil _ _ _ _ _, by repeat (first | (with_reducible first | exact HB.out | apply bA_ | apply bB_ | apply bC_ | refine bD_ ?_ GE465.out) | exact HB.out)⟩
def Z29.f (k : Nat) (l0_0 : List Int) (l0_1 : List Int) : Option (Int) := (Z16.f k l0_0 l0_1).bind fun t474 => (if t474 = true then ((Z5.f k l0_0 l0_1).bind fun t475 => ((Z15.f k l0_0 l0_1).bind fun t476 => (some (wrap64 (1 + (wrap64 (Int.tdiv (wrap64 (t475 - (t476.length : Int))) 2))))))) else (some (-1)))
theorem Z29.mono : ∀ a0 a1 k, LeO (Z29.f k a0 a1) (Z29.f (k + 1) a0 a1) := by
 intro a0 a1 k
 unfold Z29.f
 repeat' first
   | (with_reducible exact Z15.mono _ _ _)
   | (with_reducible exact Z5.mono _ _ _)
   | (with_reducible exact Z16.mono _ _ _)
   | (with_reducible exact LeO.refl _)
   | (with_reducible exact LeO.none _)
   | (with_reducible refine LeO.ite ?_ ?_)
   | (with_reducible refine LeO.bind ?_ (fun _ => ?_))
   | exact Z15.mono _ _ _
   | exact Z5.mono _ _ _
   | exact Z16.mono _ _ _
   | exact LeO.none _
   | refine LeO.ite ?_ ?_
   | refine LeO.bind ?_ (fun _ => ?_)
def Z29.T3 : Bool × List (List Nat × List Nat) := (true, [([], []), ([0], [0]), ([], []), ([2, 1], [2]), ([3], [3]), ([1, 4], [1, 4]), ([5], [5]), ([6], [6]), ([7, 3, 0, 1, 2, 3, 4, 5, 6, 7], [7])])
def Z29.B3 : List Nat := [0, 1, 0, 7, 15, 31, 63, 127, 255]
theorem Z29.tab3 : rtab .any (opsOf Try.f108 3) = Z29.T3 := by kernel_rfl
theorem Z29.bits3 : waitsOk Z29.T3.2 Z29.B3 = true := by kernel_rfl
set_option maxHeartbeats 8000000 in
set_option maxRecDepth 100000 in
theorem Z29.calls (k : Nat) (A0_0 : Option Addr) (c0_0 : Nat) (l0_0 : List Int) (A0_1 : Option Addr) (c0_1 : Nat) (l0_1 : List Int) (r : Int) (w : World) (hr0_0 : Kd.C (Kd.int .i64) w A0_0 l0_0.length l0_0) (hc0_0 : l0_0.length ≤ c0_0) (hr0_1 : Kd.C (Kd.int .i64) w A0_1 l0_1.length l0_1) (hc0_1 : l0_1.length ≤ c0_1) (h : Z29.f k l0_0 l0_1 = some r) :
  Calls Try.prog 108 #[.agg #[.slice A0_0 l0_0.length c0_0, .slice A0_1 l0_1.length c0_1]] w fun e w' => e = .returned (.int .i64 r) ∧ Below w.heap.size w w' := by
 have hu27 := Try.underlying27
 have HR0_0 := A_ hr0_0
 have HC0_0 := A_ hc0_0
 clear hr0_0 hc0_0
 have HR0_1 := A_ hr0_1
 have HC0_1 := A_ hc0_1
 clear hr0_1 hc0_1
 have HB := A_ (Below.refl w.heap.size w)
 have H : ((Z16.f k l0_0 l0_1).bind fun t474 => (if t474 = true then ((Z5.f k l0_0 l0_1).bind fun t475 => ((Z15.f k l0_0 l0_1).bind fun t476 => (some (wrap64 (1 + (wrap64 (Int.tdiv (wrap64 (t475 - (t476.length : Int))) 2))))))) else (some (-1)))) = some r := h
 clear h
 replace H := Option.bind_eq_some_iff.mp H
 obtain ⟨t474, A20, H⟩ := H
 replace H : (if t474 = true then ((Z5.f k l0_0 l0_1).bind fun t475 => ((Z15.f k l0_0 l0_1).bind fun t476 => (some (wrap64 (1 + (wrap64 (Int.tdiv (wrap64 (t475 - (t476.length : Int))) 2))))))) else (some (-1))) = some r := H
 have A2 := A_ A20
 clear A20
 by_cases c3 : t474 = true
 ·subst c3
  have H1 : ((Z5.f k l0_0 l0_1).bind fun t475 => ((Z15.f k l0_0 l0_1).bind fun t476 => (some (wrap64 (1 + (wrap64 (Int.tdiv (wrap64 (t475 - (t476.length : Int))) 2))))))) = some r := by rw [if_pos rfl] at H; exact H
  clear H
  have H := H1
  clear H1
  replace H := Option.bind_eq_some_iff.mp H
  obtain ⟨t475, A40, H⟩ := H
  replace H : ((Z15.f k l0_0 l0_1).bind fun t476 => (some (wrap64 (1 + (wrap64 (Int.tdiv (wrap64 (t475 - (t476.length : Int))) 2)))))) = some r := H
  have A4 := A_ A40
  clear A40
  replace H := Option.bind_eq_some_iff.mp H
  obtain ⟨t476, A50, H⟩ := H
  replace H : (some (wrap64 (1 + (wrap64 (Int.tdiv (wrap64 (t475 - (t476.length : Int))) 2))))) = some r := H
  have A5 := A_ A50
  clear A50
  obtain rfl := Option.some.inj H
  go_enter Try.func108, Try.ntmps108
  try go_wp2_with (first | ((with_reducible refine gB_ (N := 1) rfl ?_); refine xA_ ?hg (N := 1) ?hd (cs := #[.slice A0_0 l0_0.length c0_0, .slice A0_1 l0_1.length c0_1]) (t := 27) ?hr ?_; (case hd => rfl); (case hg => rfl); (case hr => first | (go_simp; done) | (go_simp; rfl)); intro gb473 hg w6 hbox hb; have n0_ := A_ (bE_ (by repeat (first | (with_reducible first | exact HB.out | apply bA_ | apply bB_ | apply bC_) | exact HB.out)) hb); have n1_ := A_ (hbox); have n2_ := A_ ((by rw [hg]; exact (bF_ (by repeat (first | (with_reducible first | exact HB.out | apply bA_ | apply bB_ | apply bC_) | exact HB.out))) : w.heap.size ≤ gb473)); have n3_ := A_ ((by rw [hg]; exact (bF_ (by repeat (first | (with_reducible first | exact HB.out | apply bA_ | apply bB_ | apply bC_) | exact HB.out))) : w.heap.size ≤ gb473)); clear HB; have HB := n0_; have BK473 := n1_; have GW473 := n2_; have GE473 := n3_; clear n0_ n1_ n2_ n3_; clear hb hbox hg; have hcz7_0 := cz0_ BK473.out; have hcz7_1 := cz1_ BK473.out; have hfz7_0 := kD_ BK473.out 0; have hfz7_1 := kD_ BK473.out 1) | ((with_reducible refine gA_ (f := 65) rfl ?_); refine goesL_ (some 4) rfl rfl Try.func65 (by kernel_rfl) rfl #[.agg #[.slice A0_0 l0_0.length c0_0, .slice A0_1 l0_1.length c0_1]] rfl (by (try simp only [mA_, mB_, mC_]); first | done | rfl | (simp only [lA_, lB_]; rfl)) ?_; (with_reducible refine (Z16.calls k _ _ l0_0 _ _ l0_1 true _ ?side1 ?side2 ?side3 ?side4 A2.out).mono ?_); (case side1 => repeat (first | exact (cD_ HR0_0.out HB.out) | (with_reducible first | refine cA_ ?_ _ | refine cB_ ?_ _ | refine cC_ ?_))); (case side2 => exact HC0_0.out); (case side3 => repeat (first | exact (cD_ HR0_1.out HB.out) | (with_reducible first | refine cA_ ?_ _ | refine cB_ ?_ _ | refine cC_ ?_))); (case side4 => exact HC0_1.out); rintro e w8 ⟨rfl, hb⟩; refine ⟨_, rfl, ?_⟩; have n0_ := A_ (kE_ (g := gb473) (by (with_reducible repeat (first | refine kA_ ?_ _ | refine kB_ ?_ | refine kC_ ?_ _)); exact BK473.out) hb); have n1_ := A_ (bE_ (by repeat (first | (with_reducible first | exact HB.out | apply bA_ | apply bB_ | apply bC_ | refine bD_ ?_ GE473.out) | exact HB.out)) hb); clear BK473; clear HB; have BK473 := n0_; have HB := n1_; clear n0_ n1_; (try clear hb); (try clear hb2); (try clear hk); (try clear hi)))
  have n0_ := A_ (kB_ BK473.out)
  have n1_ := A_ (bC_ HB.out)
  clear BK473
  clear HB
  have BK473 := n0_
  have HB := n1_
  clear n0_ n1_
  refine start_ (n := 9) (S := fun w' => w'.cell? ⟨gb473, 0, none⟩ = some (.slice A0_0 l0_0.length c0_0) ∧ w'.cell? ⟨gb473, 1, none⟩ = some (.slice A0_1 l0_1.length c0_1)) (ds := []) #[false, false, false, false, false, false, false, false, false] (by kernel_rfl) rfl rfl ⟨(blk_cell BK473.out 0).trans rfl, (blk_cell BK473.out 1).trans rfl⟩ (fun hHeld => ?_); refine with_tabW Z29.tab3 Z29.bits3 (fun HT_ HW_ => ?_)
  generalize w8.drew = w9 at BK473 HB hHeld ⊢
  refine take_ (i := 0) (N := some 6) (v := ?_) (a' := ?_) #[true, false, false, false, false, false, false, false, false] rfl rfl (take_ofW HT_.out HW_.out (by kernel_rfl)) (fun _ _ _ h => h) (Or.inl ⟨by rfl, ?_⟩) hHeld ?_ ?_
  rotate_left
  ·rintro w' ⟨s0, s1⟩
   go_simp
   with_reducible rfl
  rotate_left
  ·simp only [Act.put, sA_, sB_, sC_, i64_w, i32_w]
   rfl
  refine take_ (i := 2) (N := some 8) (v := ?_) (a' := ?_) #[true, false, true, false, false, false, false, false, false] rfl rfl (take_ofW HT_.out HW_.out (by kernel_rfl)) (fun _ _ _ h => h) (Or.inl ⟨by rfl, ?_⟩) hHeld ?_ ?_
  rotate_left
  ·rintro w' ⟨s0, s1⟩
   go_simp
   with_reducible rfl
  rotate_left
  ·simp only [Act.put, sA_, sB_, sC_, i64_w, i32_w]
   rfl
  refine one_ (i := 1) (N := some 7) #[true, true, true, false, false, false, false, false, false] rfl rfl (one_of HT_.out (by kernel_rfl)) (by decide) (fun K hK => ?_)
  refine goes_ Try.func86 (by kernel_rfl) rfl #[.agg #[.slice A0_0 l0_0.length c0_0, .slice A0_1 l0_1.length c0_1]] (by rfl) rfl rfl (by (try simp only [mA_, mB_, mC_]); first | done | rfl | (simp only [lA_, lB_]; rfl)) ?_
  with_reducible refine (Z5.calls k _ _ l0_0 _ _ l0_1 t475 _ ?side1 ?side2 ?side3 ?side4 A4.out).mono ?_
  (case side1 => repeat (first | exact (cD_ HR0_0.out HB.out) | (with_reducible first | refine cA_ ?_ _ | refine cB_ ?_ _ | refine cC_ ?_)))
  (case side2 => exact HC0_0.out)
  (case side3 => repeat (first | exact (cD_ HR0_1.out HB.out) | (with_reducible first | refine cA_ ?_ _ | refine cB_ ?_ _ | refine cC_ ?_)))
  (case side4 => exact HC0_1.out)
  rintro e w10 ⟨rfl, hb⟩
  refine ⟨_, rfl, ?_⟩
  have n0_ := A_ (kE_ (g := gb473) (by (with_reducible repeat (first | refine kA_ ?_ _ | refine kB_ ?_ | refine kC_ ?_ _)); exact BK473.out) hb)
  have n1_ := A_ (bE_ (by repeat (first | (with_reducible first | exact HB.out | apply bA_ | apply bB_ | apply bC_ | refine bD_ ?_ GE473.out) | exact HB.out)) hb)
  clear BK473
  clear HB
  have BK473 := n0_
  have HB := n1_
  clear n0_ n1_
  (try clear hb)
  (try clear hb2)
  (try clear hk)
  (try clear hi)
  refine hK.out _ _ ⟨(blk_cell BK473.out 0).trans rfl, (blk_cell BK473.out 1).trans rfl⟩ (fun hHeld => ?_)
  clear hK K
  refine norm_ (a' := ?_) ?_ ?_
  rotate_left
  ·show Act.put _ (some 7) _ = _
   simp only [Act.put, sA_, sB_, sC_, i64_w, i32_w]
   rfl
  refine one_ (i := 3) (N := some 9) #[true, true, true, true, false, false, false, false, false] rfl rfl (one_of HT_.out (by kernel_rfl)) (by decide) (fun K hK => ?_)
  refine goes_ Try.func140 (by kernel_rfl) rfl #[.agg #[.slice A0_0 l0_0.length c0_0, .slice A0_1 l0_1.length c0_1]] (by rfl) rfl rfl (by (try simp only [mA_, mB_, mC_]); first | done | rfl | (simp only [lA_, lB_]; rfl)) ?_
  with_reducible refine (Z15.calls k _ _ l0_0 _ _ l0_1 t476 _ ?side1 ?side2 ?side3 ?side4 A5.out).mono ?_
  (case side1 => repeat (first | exact (cD_ HR0_0.out HB.out) | (with_reducible first | refine cA_ ?_ _ | refine cB_ ?_ _ | refine cC_ ?_)))
  (case side2 => exact HC0_0.out)
  (case side3 => repeat (first | exact (cD_ HR0_1.out HB.out) | (with_reducible first | refine cA_ ?_ _ | refine cB_ ?_ _ | refine cC_ ?_)))
  (case side4 => exact HC0_1.out)
  rintro e w11 ⟨v477, rfl, ho0, hb⟩
  refine ⟨_, rfl, ?_⟩
  have n0_ := A_ (Kd.S_lower ho0 (bF_ (by repeat (first | (with_reducible first | exact HB.out | apply bA_ | apply bB_ | apply bC_ | refine bD_ ?_ GE473.out) | exact HB.out))))
  have n1_ := A_ (kE_ (g := gb473) (by (with_reducible repeat (first | refine kA_ ?_ _ | refine kB_ ?_ | refine kC_ ?_ _)); exact BK473.out) hb)
  have n2_ := A_ (bE_ (by repeat (first | (with_reducible first | exact HB.out | apply bA_ | apply bB_ | apply bC_ | refine bD_ ?_ GE473.out) | exact HB.out)) hb)
  clear BK473
  clear HB
  have HO478 := n0_
  have BK473 := n1_
  have HB := n2_
  clear n0_ n1_ n2_
  (try clear hb)
  (try clear hb2)
  (try clear hk)
  (try clear hi)
  (try clear ho0)
  obtain ⟨Ao12, co12, eo12⟩ := Kd.S_slice HO478.out
  (first | subst eo12 | (injection eo12 with f1_ f2_ f3_; have f4_ := f1_.symm; have f5_ := f3_.symm; clear f1_ f2_ f3_; subst f4_; subst f5_))
  refine hK.out _ _ ⟨(blk_cell BK473.out 0).trans rfl, (blk_cell BK473.out 1).trans rfl⟩ (fun hHeld => ?_)
  clear hK K
  refine norm_ (a' := ?_) ?_ ?_
  rotate_left
  ·show Act.put _ (some 9) _ = _
   simp only [Act.put, sA_, sB_, sC_, i64_w, i32_w]
   rfl
  refine pure_ (i := 4) (N := some 10) (v := ?_) (a' := ?_) #[true, true, true, true, true, false, false, false, false] rfl rfl (any_of HT_.out (by kernel_rfl)) (fun _ _ _ h => h) (Or.inl ⟨by rfl, ?_⟩) ?_ ?_
  rotate_left
  ·intro w'
   go_simp
   with_reducible rfl
  rotate_left
  ·simp only [Act.put, sA_, sB_, sC_, i64_w, i32_w]
   rfl
  refine pure_ (i := 5) (N := some 11) (v := ?_) (a' := ?_) #[true, true, true, true, true, true, false, false, false] rfl rfl (any_of HT_.out (by kernel_rfl)) (fun _ _ _ h => h) (Or.inl ⟨by rfl, ?_⟩) ?_ ?_
  rotate_left
  ·intro w'
   go_simp
   with_reducible rfl
  rotate_left
  ·simp only [Act.put, sA_, sB_, sC_, i64_w, i32_w]
   rfl
  refine pure_ (i := 6) (N := some 12) (v := ?_) (a' := ?_) #[true, true, true, true, true, true, true, false, false] rfl rfl (any_of HT_.out (by kernel_rfl)) (fun _ _ _ h => h) (Or.inl ⟨by rfl, ?_⟩) ?_ ?_
  rotate_left
  ·intro w'
   go_simp
   with_reducible rfl
  rotate_left
  ·simp only [Act.put, sA_, sB_, sC_, i64_w, i32_w]
   rfl
  refine pure_ (i := 7) (N := some 13) (v := ?_) (a' := ?_) #[true, true, true, true, true, true, true, true, false] rfl rfl (any_of HT_.out (by kernel_rfl)) (fun _ _ _ h => h) (Or.inl ⟨by rfl, ?_⟩) ?_ ?_
  rotate_left
  ·intro w'
   go_simp
   with_reducible rfl
  rotate_left
  ·simp only [Act.put, sA_, sB_, sC_, i64_w, i32_w]
   rfl
  refine pure_ (i := 8) (N := some 2) (v := ?_) (a' := ?_) #[true, true, true, true, true, true, true, true, true] rfl rfl (any_of HT_.out (by kernel_rfl)) (fun _ _ _ h => h) (Or.inl ⟨by rfl, ?_⟩) ?_ ?_
  rotate_left
  ·intro w'
   go_simp
   with_reducible rfl
  rotate_left
  ·simp only [Act.put, sA_, sB_, sC_, i64_w, i32_w]
   rfl
  refine done_ (done_of HT_.out (by kernel_rfl)) ?_
  try go_wp2
  go_ret
  exact ⟨by first | rfl | (simp [errW_none, errW_some] <;> rfl) | (simp [*, errW_none, errW_some] <;> rfl), by repeat (first | (with_reducible first | exact HB.out | apply bA_ | apply bB_ | apply bC_ | refine bD_ ?_ GE473.out) | exact HB.out)⟩
 ·replace c3 := Bool.eq_false_iff.mpr c3
  subst c3
  have H1 : (some (-1)) = some r := by rw [if_neg (show ¬ (false = true) by decide)] at H; exact H
  clear H
  have H := H1
  clear H1
  obtain rfl := Option.some.inj H
  go_enter Try.func108, Try.ntmps108
  go_wp2_with (first | ((with_reducible refine gB_ (N := 1) rfl ?_); refine xA_ ?hg (N := 1) ?hd (cs := #[.slice A0_0 l0_0.length c0_0, .slice A0_1 l0_1.length c0_1]) (t := 27) ?hr ?_; (case hd => rfl); (case hg => rfl); (case hr => first | (go_simp; done) | (go_simp; rfl)); intro gb473 hg w13 hbox hb; have n0_ := A_ (bE_ (by repeat (first | (with_reducible first | exact HB.out | apply bA_ | apply bB_ | apply bC_) | exact HB.out)) hb); have n1_ := A_ (hbox); have n2_ := A_ ((by rw [hg]; exact (bF_ (by repeat (first | (with_reducible first | exact HB.out | apply bA_ | apply bB_ | apply bC_) | exact HB.out))) : w.heap.size ≤ gb473)); have n3_ := A_ ((by rw [hg]; exact (bF_ (by repeat (first | (with_reducible first | exact HB.out | apply bA_ | apply bB_ | apply bC_) | exact HB.out))) : w.heap.size ≤ gb473)); clear HB; have HB := n0_; have BK473 := n1_; have GW473 := n2_; have GE473 := n3_; clear n0_ n1_ n2_ n3_; clear hb hbox hg; have hcz14_0 := cz0_ BK473.out; have hcz14_1 := cz1_ BK473.out; have hfz14_0 := kD_ BK473.out 0; have hfz14_1 := kD_ BK473.out 1) | ((with_reducible refine gA_ (f := 65) rfl ?_); refine goesL_ (some 4) rfl rfl Try.func65 (by kernel_rfl) rfl #[.agg #[.slice A0_0 l0_0.length c0_0, .slice A0_1 l0_1.length c0_1]] rfl (by (try simp only [mA_, mB_, mC_]); first | done | rfl | (simp only [lA_, lB_]; rfl)) ?_; (with_reducible refine (Z16.calls k _ _ l0_0 _ _ l0_1 false _ ?side1 ?side2 ?side3 ?side4 A2.out).mono ?_); (case side1 => repeat (first | exact (cD_ HR0_0.out HB.out) | (with_reducible first | refine cA_ ?_ _ | refine cB_ ?_ _ | refine cC_ ?_))); (case side2 => exact HC0_0.out); (case side3 => repeat (first | exact (cD_ HR0_1.out HB.out) | (with_reducible first | refine cA_ ?_ _ | refine cB_ ?_ _ | refine cC_ ?_))); (case side4 => exact HC0_1.out); rintro e w15 ⟨rfl, hb⟩; refine ⟨_, rfl, ?_⟩; have n0_ := A_ (kE_ (g := gb473) (by (with_reducible repeat (first | refine kA_ ?_ _ | refine kB_ ?_ | refine kC_ ?_ _)); exact BK473.out) hb); have n1_ := A_ (bE_ (by repeat (first | (with_reducible first | exact HB.out | apply bA_ | apply bB_ | apply bC_ | refine bD_ ?_ GE473.out) | exact HB.out)) hb); clear BK473; clear HB; have BK473 := n0_; have HB := n1_; clear n0_ n1_; (try clear hb); (try clear hb2); (try clear hk); (try clear hi)))
  go_ret
  exact ⟨by first | rfl | (simp [errW_none, errW_some] <;> rfl) | (simp [*, errW_none, errW_some] <;> rfl), by repeat (first | (with_reducible first | exact HB.out | apply bA_ | apply bB_ | apply bC_ | refine bD_ ?_ GE473.out) | exact HB.out)⟩
end Go.Proofs.Ytbdnellgioimbaa.A
end
section
namespace Go.Proofs.Ytbdnellgioimbaa.A
open Go.RowKit Go.Proofs.YtbdnellgioimbaaW.PrintWords Go.Proofs.YtbdnellgioimbaaW.PrintLast Go.Proofs.YtbdnellgioimbaaW.PrintMore
attribute [local go_sem] max2_int min2_int max_two min_two max_three min_three max_four min_four
set_option linter.unusedVariables false
set_option linter.unusedSimpArgs false
mutual
def Z8.l0 : Nat → List Int → List Int → List Int → Int → Int → List Int → List Int → Option (List Int × Bool)
 | 0, _, _, _, _, _, _, _ => none
 | k + 1, x1, x6, x27, x28, x29, x480000, x480001 => if x29 < x28 then (if 0 ≤ x29 then (if x29 < (x27.length : Int) then (if (rd x27 x29) = x29 then (if 0 < (x6.length : Int) then (Z8.j1 k x1 (x6.set (0 : Int).toNat (wrap64 ((rd x6 0) + 1))) x29 (rd x27 x29) x27 x28 x29 x480000 x480001) else (none)) else (Z8.j1 k x1 x6 x29 (rd x27 x29) x27 x28 x29 x480000 x480001)) else (none)) else (none)) else ((Z9.f k x480000).bind fun t496 => ((Z9.f k x480001).bind fun t499 => (if 0 ≤ (x1.length : Int) then (if ((x1.length : Int) : Int).toNat ≤ 35184372088832 then ((Z15.f k x480000 x480001).bind fun t505 => (Z8.l1 k x1 x6 t496 t499 (List.replicate ((x1.length : Int) : Int).toNat 0) t505 t505 (t505.length : Int) 0)) else (none)) else (none))))
def Z8.j1 : Nat → List Int → List Int → Int → Int → List Int → Int → Int → List Int → List Int → Option (List Int × Bool)
 | 0, _, _, _, _, _, _, _, _, _ => none
 | k + 1, x1, x6, x7, x8, x27, x28, x29, x480000, x480001 => if 0 ≤ x7 then (if x7 < (x480000.length : Int) then (if x8 = (rd x480000 x7) then (if 1 < (x6.length : Int) then ((some (x6.set (1 : Int).toNat (wrap64 ((rd x6 1) + 1)) : List Int)).bind fun y489 => (if x7 < (x480001.length : Int) then (if x8 = (rd x480001 x7) then (if 2 < (x6.length : Int) then (Z8.l0 k x1 (y489.set (2 : Int).toNat (wrap64 ((rd y489 2) + 1))) x27 x28 (wrap64 (x29 + 1)) x480000 x480001) else (none)) else (Z8.l0 k x1 y489 x27 x28 (wrap64 (x29 + 1)) x480000 x480001)) else (none))) else (none)) else (if x7 < (x480001.length : Int) then (if x8 = (rd x480001 x7) then (if 2 < (x6.length : Int) then (Z8.l0 k x1 (x6.set (2 : Int).toNat (wrap64 ((rd x6 2) + 1))) x27 x28 (wrap64 (x29 + 1)) x480000 x480001) else (none)) else (Z8.l0 k x1 x6 x27 x28 (wrap64 (x29 + 1)) x480000 x480001)) else (none))) else (none)) else (none)
def Z8.l1 : Nat → List Int → List Int → List Int → List Int → List Int → List (List Int) → List (List Int) → Int → Int → Option (List Int × Bool)
 | 0, _, _, _, _, _, _, _, _, _ => none
 | k + 1, x1, x6, x9, x10, x11, x12, x78, x79, x80 => if x80 < x79 then (if 0 ≤ x80 then (if x80 < (x78.length : Int) then (Z8.l2 k x1 x6 x9 x10 x11 x12 x80 x78 x79 x80 (rd_L1 x78 x80) ((rd_L1 x78 x80).length : Int) 0) else (none)) else (none)) else (Z8.l3 k x1 x6 x9 x10 x11 x12 (x12.length : Int) 0)
def Z8.l2 : Nat → List Int → List Int → List Int → List Int → List Int → List (List Int) → Int → List (List Int) → Int → Int → List Int → Int → Int → Option (List Int × Bool)
 | 0, _, _, _, _, _, _, _, _, _, _, _, _, _ => none
 | k + 1, x1, x6, x9, x10, x11, x12, x13, x78, x79, x80, x85, x86, x87 => if x87 < x86 then (if 0 ≤ x87 then (if x87 < (x85.length : Int) then (if 0 ≤ (rd x85 x87) then (if (rd x85 x87) < (x11.length : Int) then (Z8.l2 k x1 x6 x9 x10 (x11.set ((rd x85 x87) : Int).toNat x13) x12 x13 x78 x79 x80 x85 x86 (wrap64 (x87 + 1))) else (none)) else (none)) else (none)) else (none)) else (Z8.l1 k x1 x6 x9 x10 x11 x12 x78 x79 (wrap64 (x80 + 1)))
def Z8.l3 : Nat → List Int → List Int → List Int → List Int → List Int → List (List Int) → Int → Int → Option (List Int × Bool)
 | 0, _, _, _, _, _, _, _, _ => none
 | k + 1, x1, x6, x9, x10, x11, x97, x98, x99 => if x99 < x98 then (if 0 ≤ x99 then (if x99 < (x97.length : Int) then (Z8.l4 k x1 x6 x9 x10 x11 x99 true x97 x98 x99 (rd_L1 x97 x99) ((rd_L1 x97 x99).length : Int) 0) else (none)) else (none)) else (some (x6, true))
def Z8.l4 : Nat → List Int → List Int → List Int → List Int → List Int → Int → Bool → List (List Int) → Int → Int → List Int → Int → Int → Option (List Int × Bool)
 | 0, _, _, _, _, _, _, _, _, _, _, _, _, _ => none
 | k + 1, x1, x6, x9, x10, x11, x17, x19, x97, x98, x99, x104, x105, x106 => if x106 < x105 then (if 0 ≤ x106 then (if x106 < (x104.length : Int) then (if x19 = true then (if 0 ≤ (rd x104 x106) then (if (rd x104 x106) < (x1.length : Int) then (if 0 ≤ (rd x1 (rd x104 x106)) then (if (rd x1 (rd x104 x106)) < (x9.length : Int) then (if 0 ≤ (rd x9 (rd x1 (rd x104 x106))) then (if (rd x9 (rd x1 (rd x104 x106))) < (x10.length : Int) then (if 0 ≤ (rd x10 (rd x9 (rd x1 (rd x104 x106)))) then (if (rd x10 (rd x9 (rd x1 (rd x104 x106)))) < (x11.length : Int) then (Z8.l4 k x1 x6 x9 x10 x11 x17 ((rd x11 (rd x10 (rd x9 (rd x1 (rd x104 x106))))) == x17) x97 x98 x99 x104 x105 (wrap64 (x106 + 1))) else (none)) else (none)) else (none)) else (none)) else (none)) else (none)) else (none)) else (none)) else (Z8.l4 k x1 x6 x9 x10 x11 x17 false x97 x98 x99 x104 x105 (wrap64 (x106 + 1)))) else (none)) else (none)) else (if x19 = true then (if 3 < (x6.length : Int) then (Z8.l3 k x1 (x6.set (3 : Int).toNat (wrap64 ((rd x6 3) + 1))) x9 x10 x11 x97 x98 (wrap64 (x99 + 1))) else (none)) else (Z8.l3 k x1 x6 x9 x10 x11 x97 x98 (wrap64 (x99 + 1))))
end
def Z8.f (k : Nat) (l0_0 : List Int) (l0_1 : List Int) (l1 : List Int) : Option (List Int × Bool) := (Z36.f k l0_0 l0_1 l1).bind fun t480 => (if t480 = true then (if 4 ≤ 35184372088832 then (Z8.l0 k l1 (List.replicate 4 0) l1 (l1.length : Int) 0 l0_0 l0_1) else (none)) else (some (([] : List Int), false)))
theorem Z8.mono_l : ∀ k, (∀ y0 y1 y2 y3 y4 y5 y6, LeO (Z8.l0 k y0 y1 y2 y3 y4 y5 y6) (Z8.l0 (k + 1) y0 y1 y2 y3 y4 y5 y6)) ∧ (∀ y0 y1 y2 y3 y4 y5 y6 y7 y8, LeO (Z8.j1 k y0 y1 y2 y3 y4 y5 y6 y7 y8) (Z8.j1 (k + 1) y0 y1 y2 y3 y4 y5 y6 y7 y8)) ∧ (∀ y0 y1 y2 y3 y4 y5 y6 y7 y8, LeO (Z8.l1 k y0 y1 y2 y3 y4 y5 y6 y7 y8) (Z8.l1 (k + 1) y0 y1 y2 y3 y4 y5 y6 y7 y8)) ∧ (∀ y0 y1 y2 y3 y4 y5 y6 y7 y8 y9 y10 y11 y12, LeO (Z8.l2 k y0 y1 y2 y3 y4 y5 y6 y7 y8 y9 y10 y11 y12) (Z8.l2 (k + 1) y0 y1 y2 y3 y4 y5 y6 y7 y8 y9 y10 y11 y12)) ∧ (∀ y0 y1 y2 y3 y4 y5 y6 y7, LeO (Z8.l3 k y0 y1 y2 y3 y4 y5 y6 y7) (Z8.l3 (k + 1) y0 y1 y2 y3 y4 y5 y6 y7)) ∧ (∀ y0 y1 y2 y3 y4 y5 y6 y7 y8 y9 y10 y11 y12, LeO (Z8.l4 k y0 y1 y2 y3 y4 y5 y6 y7 y8 y9 y10 y11 y12) (Z8.l4 (k + 1) y0 y1 y2 y3 y4 y5 y6 y7 y8 y9 y10 y11 y12))
 | 0 => ⟨fun _ _ _ _ _ _ _ r h => by simp [Z8.l0] at h, fun _ _ _ _ _ _ _ _ _ r h => by simp [Z8.j1] at h, fun _ _ _ _ _ _ _ _ _ r h => by simp [Z8.l1] at h, fun _ _ _ _ _ _ _ _ _ _ _ _ _ r h => by simp [Z8.l2] at h, fun _ _ _ _ _ _ _ _ r h => by simp [Z8.l3] at h, fun _ _ _ _ _ _ _ _ _ _ _ _ _ r h => by simp [Z8.l4] at h⟩
 | k + 1 => by
  obtain ⟨ih0, ih1, ih2, ih3, ih4, ih5⟩ := Z8.mono_l k
  refine ⟨?_, ?_, ?_, ?_, ?_, ?_⟩
  ·intro y0 y1 y2 y3 y4 y5 y6
   unfold Z8.l0
   repeat' first
   | (with_reducible exact ih0 _ _ _ _ _ _ _)
   | (with_reducible exact ih1 _ _ _ _ _ _ _ _ _)
   | (with_reducible exact ih2 _ _ _ _ _ _ _ _ _)
   | (with_reducible exact ih3 _ _ _ _ _ _ _ _ _ _ _ _ _)
   | (with_reducible exact ih4 _ _ _ _ _ _ _ _)
   | (with_reducible exact ih5 _ _ _ _ _ _ _ _ _ _ _ _ _)
   | (with_reducible exact Z15.mono _ _ _)
   | (with_reducible exact Z9.mono _ _)
   | (with_reducible exact Z36.mono _ _ _ _)
   | (with_reducible exact LeO.refl _)
   | (with_reducible exact LeO.none _)
   | (with_reducible refine LeO.ite ?_ ?_)
   | (with_reducible refine LeO.bind ?_ (fun _ => ?_))
   | exact ih0 _ _ _ _ _ _ _
   | exact ih1 _ _ _ _ _ _ _ _ _
   | exact ih2 _ _ _ _ _ _ _ _ _
   | exact ih3 _ _ _ _ _ _ _ _ _ _ _ _ _
   | exact ih4 _ _ _ _ _ _ _ _
   | exact ih5 _ _ _ _ _ _ _ _ _ _ _ _ _
   | exact Z15.mono _ _ _
   | exact Z9.mono _ _
   | exact Z36.mono _ _ _ _
   | exact LeO.none _
   | refine LeO.ite ?_ ?_
   | refine LeO.bind ?_ (fun _ => ?_)
  ·intro y0 y1 y2 y3 y4 y5 y6 y7 y8
   unfold Z8.j1
   repeat' first
   | (with_reducible exact ih0 _ _ _ _ _ _ _)
   | (with_reducible exact ih1 _ _ _ _ _ _ _ _ _)
   | (with_reducible exact ih2 _ _ _ _ _ _ _ _ _)
   | (with_reducible exact ih3 _ _ _ _ _ _ _ _ _ _ _ _ _)
   | (with_reducible exact ih4 _ _ _ _ _ _ _ _)
   | (with_reducible exact ih5 _ _ _ _ _ _ _ _ _ _ _ _ _)
   | (with_reducible exact Z15.mono _ _ _)
   | (with_reducible exact Z9.mono _ _)
   | (with_reducible exact Z36.mono _ _ _ _)
   | (with_reducible exact LeO.refl _)
   | (with_reducible exact LeO.none _)
   | (with_reducible refine LeO.ite ?_ ?_)
   | (with_reducible refine LeO.bind ?_ (fun _ => ?_))
   | exact ih0 _ _ _ _ _ _ _
   | exact ih1 _ _ _ _ _ _ _ _ _
   | exact ih2 _ _ _ _ _ _ _ _ _
   | exact ih3 _ _ _ _ _ _ _ _ _ _ _ _ _
   | exact ih4 _ _ _ _ _ _ _ _
   | exact ih5 _ _ _ _ _ _ _ _ _ _ _ _ _
   | exact Z15.mono _ _ _
   | exact Z9.mono _ _
   | exact Z36.mono _ _ _ _
   | exact LeO.none _
   | refine LeO.ite ?_ ?_
   | refine LeO.bind ?_ (fun _ => ?_)
  ·intro y0 y1 y2 y3 y4 y5 y6 y7 y8
   unfold Z8.l1
   repeat' first
   | (with_reducible exact ih0 _ _ _ _ _ _ _)
   | (with_reducible exact ih1 _ _ _ _ _ _ _ _ _)
   | (with_reducible exact ih2 _ _ _ _ _ _ _ _ _)
   | (with_reducible exact ih3 _ _ _ _ _ _ _ _ _ _ _ _ _)
   | (with_reducible exact ih4 _ _ _ _ _ _ _ _)
   | (with_reducible exact ih5 _ _ _ _ _ _ _ _ _ _ _ _ _)
   | (with_reducible exact Z15.mono _ _ _)
   | (with_reducible exact Z9.mono _ _)
   | (with_reducible exact Z36.mono _ _ _ _)
   | (with_reducible exact LeO.refl _)
   | (with_reducible exact LeO.none _)
   | (with_reducible refine LeO.ite ?_ ?_)
   | (with_reducible refine LeO.bind ?_ (fun _ => ?_))
   | exact ih0 _ _ _ _ _ _ _
   | exact ih1 _ _ _ _ _ _ _ _ _
   | exact ih2 _ _ _ _ _ _ _ _ _
   | exact ih3 _ _ _ _ _ _ _ _ _ _ _ _ _
   | exact ih4 _ _ _ _ _ _ _ _
   | exact ih5 _ _ _ _ _ _ _ _ _ _ _ _ _
   | exact Z15.mono _ _ _
   | exact Z9.mono _ _
   | exact Z36.mono _ _ _ _
   | exact LeO.none _
   | refine LeO.ite ?_ ?_
   | refine LeO.bind ?_ (fun _ => ?_)
  ·intro y0 y1 y2 y3 y4 y5 y6 y7 y8 y9 y10 y11 y12
   unfold Z8.l2
   repeat' first
   | (with_reducible exact ih0 _ _ _ _ _ _ _)
   | (with_reducible exact ih1 _ _ _ _ _ _ _ _ _)
   | (with_reducible exact ih2 _ _ _ _ _ _ _ _ _)
   | (with_reducible exact ih3 _ _ _ _ _ _ _ _ _ _ _ _ _)
   | (with_reducible exact ih4 _ _ _ _ _ _ _ _)
   | (with_reducible exact ih5 _ _ _ _ _ _ _ _ _ _ _ _ _)
   | (with_reducible exact Z15.mono _ _ _)
   | (with_reducible exact Z9.mono _ _)
   | (with_reducible exact Z36.mono _ _ _ _)
   | (with_reducible exact LeO.refl _)
   | (with_reducible exact LeO.none _)
   | (with_reducible refine LeO.ite ?_ ?_)
   | (with_reducible refine LeO.bind ?_ (fun _ => ?_))
   | exact ih0 _ _ _ _ _ _ _
   | exact ih1 _ _ _ _ _ _ _ _ _
   | exact ih2 _ _ _ _ _ _ _ _ _
   | exact ih3 _ _ _ _ _ _ _ _ _ _ _ _ _
   | exact ih4 _ _ _ _ _ _ _ _
   | exact ih5 _ _ _ _ _ _ _ _ _ _ _ _ _
   | exact Z15.mono _ _ _
   | exact Z9.mono _ _
   | exact Z36.mono _ _ _ _
   | exact LeO.none _
   | refine LeO.ite ?_ ?_
   | refine LeO.bind ?_ (fun _ => ?_)
  ·intro y0 y1 y2 y3 y4 y5 y6 y7
   unfold Z8.l3
   repeat' first
   | (with_reducible exact ih0 _ _ _ _ _ _ _)
   | (with_reducible exact ih1 _ _ _ _ _ _ _ _ _)
   | (with_reducible exact ih2 _ _ _ _ _ _ _ _ _)
   | (with_reducible exact ih3 _ _ _ _ _ _ _ _ _ _ _ _ _)
   | (with_reducible exact ih4 _ _ _ _ _ _ _ _)
   | (with_reducible exact ih5 _ _ _ _ _ _ _ _ _ _ _ _ _)
   | (with_reducible exact Z15.mono _ _ _)
   | (with_reducible exact Z9.mono _ _)
   | (with_reducible exact Z36.mono _ _ _ _)
   | (with_reducible exact LeO.refl _)
   | (with_reducible exact LeO.none _)
   | (with_reducible refine LeO.ite ?_ ?_)
   | (with_reducible refine LeO.bind ?_ (fun _ => ?_))
   | exact ih0 _ _ _ _ _ _ _
   | exact ih1 _ _ _ _ _ _ _ _ _
   | exact ih2 _ _ _ _ _ _ _ _ _
   | exact ih3 _ _ _ _ _ _ _ _ _ _ _ _ _
   | exact ih4 _ _ _ _ _ _ _ _
   | exact ih5 _ _ _ _ _ _ _ _ _ _ _ _ _
   | exact Z15.mono _ _ _
   | exact Z9.mono _ _
   | exact Z36.mono _ _ _ _
   | exact LeO.none _
   | refine LeO.ite ?_ ?_
   | refine LeO.bind ?_ (fun _ => ?_)
  ·intro y0 y1 y2 y3 y4 y5 y6 y7 y8 y9 y10 y11 y12
   unfold Z8.l4
   repeat' first
   | (with_reducible exact ih0 _ _ _ _ _ _ _)
   | (with_reducible exact ih1 _ _ _ _ _ _ _ _ _)
   | (with_reducible exact ih2 _ _ _ _ _ _ _ _ _)
   | (with_reducible exact ih3 _ _ _ _ _ _ _ _ _ _ _ _ _)
   | (with_reducible exact ih4 _ _ _ _ _ _ _ _)
   | (with_reducible exact ih5 _ _ _ _ _ _ _ _ _ _ _ _ _)
   | (with_reducible exact Z15.mono _ _ _)
   | (with_reducible exact Z9.mono _ _)
   | (with_reducible exact Z36.mono _ _ _ _)
   | (with_reducible exact LeO.refl _)
   | (with_reducible exact LeO.none _)
   | (with_reducible refine LeO.ite ?_ ?_)
   | (with_reducible refine LeO.bind ?_ (fun _ => ?_))
   | exact ih0 _ _ _ _ _ _ _
   | exact ih1 _ _ _ _ _ _ _ _ _
   | exact ih2 _ _ _ _ _ _ _ _ _
   | exact ih3 _ _ _ _ _ _ _ _ _ _ _ _ _
   | exact ih4 _ _ _ _ _ _ _ _
   | exact ih5 _ _ _ _ _ _ _ _ _ _ _ _ _
   | exact Z15.mono _ _ _
   | exact Z9.mono _ _
   | exact Z36.mono _ _ _ _
   | exact LeO.none _
   | refine LeO.ite ?_ ?_
   | refine LeO.bind ?_ (fun _ => ?_)
theorem Z8.mono : ∀ a0 a1 a2 k, LeO (Z8.f k a0 a1 a2) (Z8.f (k + 1) a0 a1 a2) := by
 intro a0 a1 a2 k
 obtain ⟨ih0, ih1, ih2, ih3, ih4, ih5⟩ := Z8.mono_l k
 unfold Z8.f
 repeat' first
   | (with_reducible exact ih0 _ _ _ _ _ _ _)
   | (with_reducible exact ih1 _ _ _ _ _ _ _ _ _)
   | (with_reducible exact ih2 _ _ _ _ _ _ _ _ _)
   | (with_reducible exact ih3 _ _ _ _ _ _ _ _ _ _ _ _ _)
   | (with_reducible exact ih4 _ _ _ _ _ _ _ _)
   | (with_reducible exact ih5 _ _ _ _ _ _ _ _ _ _ _ _ _)
   | (with_reducible exact Z15.mono _ _ _)
   | (with_reducible exact Z9.mono _ _)
   | (with_reducible exact Z36.mono _ _ _ _)
   | (with_reducible exact LeO.refl _)
   | (with_reducible exact LeO.none _)
   | (with_reducible refine LeO.ite ?_ ?_)
   | (with_reducible refine LeO.bind ?_ (fun _ => ?_))
   | exact ih0 _ _ _ _ _ _ _
   | exact ih1 _ _ _ _ _ _ _ _ _
   | exact ih2 _ _ _ _ _ _ _ _ _
   | exact ih3 _ _ _ _ _ _ _ _ _ _ _ _ _
   | exact ih4 _ _ _ _ _ _ _ _
   | exact ih5 _ _ _ _ _ _ _ _ _ _ _ _ _
   | exact Z15.mono _ _ _
   | exact Z9.mono _ _
   | exact Z36.mono _ _ _ _
   | exact LeO.none _
   | refine LeO.ite ?_ ?_
   | refine LeO.bind ?_ (fun _ => ?_)
set_option maxHeartbeats 8000000 in
set_option maxRecDepth 100000 in
theorem Z8.calls (k : Nat) (A0_0 : Option Addr) (c0_0 : Nat) (l0_0 : List Int) (A0_1 : Option Addr) (c0_1 : Nat) (l0_1 : List Int) (A1 : Option Addr) (c1 : Nat) (l1 : List Int) (r1 : List Int) (r2 : Bool) (w : World) (hr0_0 : Kd.C (Kd.int .i64) w A0_0 l0_0.length l0_0) (hc0_0 : l0_0.length ≤ c0_0) (hr0_1 : Kd.C (Kd.int .i64) w A0_1 l0_1.length l0_1) (hc0_1 : l0_1.length ≤ c0_1) (hr1 : Kd.C (Kd.int .i64) w A1 l1.length l1) (hc1 : l1.length ≤ c1) (h : Z8.f k l0_0 l0_1 l1 = some (r1, r2)) :
  Calls Try.prog 141 #[.agg #[.slice A0_0 l0_0.length c0_0, .slice A0_1 l0_1.length c0_1], .slice A1 l1.length c1] w fun e w' => ∃ v0_ : Value, e = .returned (.tuple #[v0_, .bool r2]) ∧ Kd.R (Kd.int .i64) 3 w' w.heap.size (fun _ => True) v0_ r1 ∧ Below w.heap.size w w' := by
 have hu27 := Try.underlying27
 have HR0_0 := A_ hr0_0
 have HC0_0 := A_ hc0_0
 clear hr0_0 hc0_0
 have HR0_1 := A_ hr0_1
 have HC0_1 := A_ hc0_1
 clear hr0_1 hc0_1
 have HR1 := A_ hr1
 have HC1 := A_ hc1
 clear hr1 hc1
 have HB := A_ (Below.refl w.heap.size w)
 have H : ((Z36.f k l0_0 l0_1 l1).bind fun t480 => (if t480 = true then (if 4 ≤ 35184372088832 then (Z8.l0 k l1 (List.replicate 4 0) l1 (l1.length : Int) 0 l0_0 l0_1) else (none)) else (some (([] : List Int), false)))) = some (r1, r2) := h
 clear h
 replace H := Option.bind_eq_some_iff.mp H
 obtain ⟨t480, A30, H⟩ := H
 replace H : (if t480 = true then (if 4 ≤ 35184372088832 then (Z8.l0 k l1 (List.replicate 4 0) l1 (l1.length : Int) 0 l0_0 l0_1) else (none)) else (some (([] : List Int), false))) = some (r1, r2) := H
 have A3 := A_ A30
 clear A30
 by_cases c4 : t480 = true
 ·subst c4
  have H1 : (if 4 ≤ 35184372088832 then (Z8.l0 k l1 (List.replicate 4 0) l1 (l1.length : Int) 0 l0_0 l0_1) else (none)) = some (r1, r2) := by rw [if_pos rfl] at H; exact H
  clear H
  have H := H1
  clear H1
  by_cases c5 : 4 ≤ 35184372088832
  ·rw [if_pos c5] at H
   have c5b0 := eq_true c5
   have c5b1 : decide (4 ≤ 35184372088832) = true := oC_ c5
   clear c5
   obtain ⟨y481, hy481⟩ : ∃ y_ : List Int, y_ = (List.replicate 4 0) := ⟨_, rfl⟩
   replace H : (Z8.l0 k l1 y481 l1 (l1.length : Int) 0 l0_0 l0_1) = some (r1, r2) := by first | (rw [hy481]; with_reducible exact H) | (have H2_ := (oA_ _ _).symm.trans H; rw [hy481]; with_reducible exact H2_) | (have H2_ := (oA_ _ _).symm.trans H; with_reducible exact H2_) | with_reducible exact H | (rw [hy481]; exact H) | exact H
   have Ny481 := A_ hy481
   clear hy481
   have H' := A_ H
   clear H
   go_enter Try.func141, Try.ntmps141
   go_wp2_with (first | ((with_reducible refine gB_ (N := 2) rfl ?_); refine xA_ ?hg (N := 2) ?hd (cs := #[.slice A0_0 l0_0.length c0_0, .slice A0_1 l0_1.length c0_1]) (t := 27) ?hr ?_; (case hd => rfl); (case hg => rfl); (case hr => first | (go_simp; done) | (go_simp; rfl)); intro gb479 hg w6 hbox hb; have n0_ := A_ (bE_ (by repeat (first | (with_reducible first | exact HB.out | apply bA_ | apply bB_ | apply bC_) | exact HB.out)) hb); have n1_ := A_ (hbox); have n2_ := A_ ((by rw [hg]; exact (bF_ (by repeat (first | (with_reducible first | exact HB.out | apply bA_ | apply bB_ | apply bC_) | exact HB.out))) : w.heap.size ≤ gb479)); have n3_ := A_ ((by rw [hg]; exact (bF_ (by repeat (first | (with_reducible first | exact HB.out | apply bA_ | apply bB_ | apply bC_) | exact HB.out))) : w.heap.size ≤ gb479)); clear HB; have HB := n0_; have BK479 := n1_; have GW479 := n2_; have GE479 := n3_; clear n0_ n1_ n2_ n3_; clear hb hbox hg; have hcz7_0 := cz0_ BK479.out; have hcz7_1 := cz1_ BK479.out; have hfz7_0 := kD_ BK479.out 0; have hfz7_1 := kD_ BK479.out 1) | ((with_reducible refine gA_ (f := 107) rfl ?_); refine goesL_ (some 24) rfl rfl Try.func107 (by kernel_rfl) rfl #[.agg #[.slice A0_0 l0_0.length c0_0, .slice A0_1 l0_1.length c0_1], .slice A1 l1.length c1] rfl (by (try simp only [mA_, mB_, mC_]); first | done | rfl | (simp only [lA_, lB_]; rfl)) ?_; (with_reducible refine (Z36.calls k _ _ l0_0 _ _ l0_1 _ _ l1 true _ ?side1 ?side2 ?side3 ?side4 ?side5 ?side6 A3.out).mono ?_); (case side1 => repeat (first | exact (cD_ HR0_0.out HB.out) | (with_reducible first | refine cA_ ?_ _ | refine cB_ ?_ _ | refine cC_ ?_))); (case side2 => exact HC0_0.out); (case side3 => repeat (first | exact (cD_ HR0_1.out HB.out) | (with_reducible first | refine cA_ ?_ _ | refine cB_ ?_ _ | refine cC_ ?_))); (case side4 => exact HC0_1.out); (case side5 => repeat (first | exact (cD_ HR1.out HB.out) | (with_reducible first | refine cA_ ?_ _ | refine cB_ ?_ _ | refine cC_ ?_))); (case side6 => exact HC1.out); rintro e w8 ⟨rfl, hb⟩; refine ⟨_, rfl, ?_⟩; have n0_ := A_ (kE_ (g := gb479) (by (with_reducible repeat (first | refine kA_ ?_ _ | refine kB_ ?_ | refine kC_ ?_ _)); exact BK479.out) hb); have n1_ := A_ (bE_ (by repeat (first | (with_reducible first | exact HB.out | apply bA_ | apply bB_ | apply bC_ | refine bD_ ?_ GE479.out) | exact HB.out)) hb); clear BK479; clear HB; have BK479 := n0_; have HB := n1_; clear n0_ n1_; (try clear hb); (try clear hb2); (try clear hk); (try clear hi)) | ((with_reducible refine gB_ (N := 26) rfl ?_); refine Kd.R_make (Kd.int .i64) _ 3 rfl (N := 26) rfl 22 _ _ rfl 4 rfl rfl Try.underlying22 (.int .i64 0) 8 info3 rfl (by decide) (by omega) 0 (ok := fun _ => True) (okp := fun _ => True) rfl (fun _ hk => hk) trivial (by omega) (by omega) (Below.refl _ _) (nA_ _) ?_; intro v482 w9 ho10 hb hg_ hnew_; clear hg_ hnew_; (first | rw [← Ny481.out] at ho10 | (simp only [Int.reduceToNat] at ho10; rw [← Ny481.out] at ho10)); have n0_ := A_ (rE_ ho10 (bF_ (by repeat (first | (with_reducible first | exact HB.out | apply bA_ | apply bB_ | apply bC_ | refine bD_ ?_ GE479.out) | exact HB.out)))); have n1_ := A_ (kE_ (g := gb479) (by (with_reducible repeat (first | refine kA_ ?_ _ | refine kB_ ?_ | refine kC_ ?_ _)); exact BK479.out) hb); have n2_ := A_ (bE_ (by repeat (first | (with_reducible first | exact HB.out | apply bA_ | apply bB_ | apply bC_ | refine bD_ ?_ GE479.out) | exact HB.out)) hb); clear BK479; clear HB; have HO483 := n0_; have BK479 := n1_; have HB := n2_; clear n0_ n1_ n2_; clear hb ho10))
   go_loopg [29] k (fun kq v29 w' => ∃ (x6_1 : List Int) (x29_1 : Int), v29 = .int .i64 x29_1 ∧ Aside0 (Z8.l0 kq l1 x6_1 l1 (l1.length : Int) x29_1 l0_0 l0_1 = some (r1, r2)) ∧ Aside0 (kq ≤ k) ∧ Aside0 (Kd.R (Kd.int .i64) 3 w' w.heap.size (fun _ => True) v482 x6_1) ∧ Aside0 (w'.heap[gb479]? = some (.cells #[(.slice A0_0 l0_0.length c0_0), (.slice A0_1 l0_1.length c0_1)] 27 (0, 0))) ∧ Aside0 (Below w.heap.size w w'))
   case atStart => exact ⟨(y481), (0), (by first | rfl | (simp; done) | (simp [*]; done)), H', ⟨nA_ _⟩, ⟨by (with_reducible repeat (first | apply rA_ | apply rB_ | apply rC_)); exact HO483.out⟩, ⟨by (with_reducible repeat (first | refine kA_ ?_ _ | refine kB_ ?_ | refine kC_ ?_ _)); exact BK479.out⟩, ⟨by repeat (first | (with_reducible first | exact HB.out | apply bA_ | apply bB_ | apply bC_ | refine bD_ ?_ GE479.out) | exact HB.out)⟩⟩
   case round =>
    clear H'
    (try clear c1); (try clear p2); (try clear c4); (try clear c5); (try clear c5b0); (try clear c5b1); (try clear c10); (try clear hcz7_0); (try clear hcz7_1); (try clear hfz7_0); (try clear hfz7_1)
    obtain ⟨x6_1, x29_1, rfl, HA, HK1, HO_6, BK479, HB⟩ := hrel
    cases gk with
    | zero => exact absurd HA.out (by simp [Z8.l0])
    | succ k1 =>
     have H := HA.out
     clear HA
     simp only [Z8.l0] at H
     by_cases c11 : x29_1 < (l1.length : Int)
     ·rw [if_pos c11] at H
      have c11b0 : decide (x29_1 < (l1.length : Int)) = true := oC_ c11
      clear c11
      by_cases c12 : 0 ≤ x29_1
      ·rw [if_pos c12] at H
       have c12b0 : decide (0 ≤ x29_1) = true := oC_ c12
       clear c12
       by_cases c13 : x29_1 < (l1.length : Int)
       ·rw [if_pos c13] at H
        have c13b0 : decide (x29_1 < (l1.length : Int)) = true := oC_ c13
        clear c13
        have HC14 := A_ H
        clear H
        have p484 : 0 ≤ (x29_1 : Int) := oB_ (by first | (with_reducible assumption) | assumption)
        have q484 : x29_1 < (l1.length : Int) := oB_ (by first | (with_reducible assumption) | assumption)
        obtain ⟨ad484, e484, hx484_0⟩ := Kd.at_int HR1.out x29_1 p484 q484
        cases e484
        (try replace hx484_0 := (HB.out.cell (World.block_lt_of_cell? w _ hx484_0)).trans hx484_0)
        replace p484 := eq_true p484
        replace q484 := eq_true q484
        go_upto_if 36 with (fail)
        go_cut [] (fun wc => ∃ (kq : Nat) (x6_13 : List Int), Aside0 (Z8.j1 kq l1 x6_13 x29_1 (rd l1 x29_1) l1 (l1.length : Int) x29_1 l0_0 l0_1 = some (r1, r2)) ∧ Aside0 (kq ≤ k1) ∧ Aside0 (Kd.R (Kd.int .i64) 3 wc w.heap.size (fun _ => True) v482 x6_13) ∧ Aside0 (wc.heap[gb479]? = some (.cells #[(.slice A0_0 l0_0.length c0_0), (.slice A0_1 l0_1.length c0_1)] 27 (0, 0))) ∧ Aside0 (Below w.heap.size w wc))
        case first =>
         have H := HC14.out
         clear HC14
         by_cases c15 : (rd l1 x29_1) = x29_1
         ·rw [if_pos c15] at H
          have c15b0 : ((rd l1 x29_1) == x29_1) = true := beq_iff_eq.mpr c15
          have c15b1 : ((rd l1 x29_1) != x29_1) = false := bne_eq_false_iff_eq.mpr c15
          clear c15
          (first | rw [c15b0] | (simp only [i64_w, i32_w]; rw [c15b0]) | skip)
          by_cases c16 : 0 < (x6_1.length : Int)
          ·rw [if_pos c16] at H
           have c16b0 : decide (0 < (x6_1.length : Int)) = true := oC_ c16
           have c16b1 : decide (0 < x6_1.length) = true := oC_ (by omega)
           clear c16
           obtain ⟨y486, hy486⟩ : ∃ y_ : List Int, y_ = (x6_1.set (0 : Int).toNat (wrap64 ((rd x6_1 0) + 1))) := ⟨_, rfl⟩
           replace H : (Z8.j1 k1 l1 y486 x29_1 (rd l1 x29_1) l1 (l1.length : Int) x29_1 l0_0 l0_1) = some (r1, r2) := by first | (rw [hy486]; with_reducible exact H) | (have H2_ := (oA_ _ _).symm.trans H; rw [hy486]; with_reducible exact H2_) | (have H2_ := (oA_ _ _).symm.trans H; with_reducible exact H2_) | with_reducible exact H | (rw [hy486]; exact H) | exact H
           have Ny486 := A_ hy486
           clear hy486
           have H' := A_ H
           clear H
           obtain ⟨Ao18, co18, eo18⟩ := Kd.R_slice HO_6.out
           subst eo18
           have p485 : 0 ≤ (0 : Int) := (by omega)
           have q485 : 0 < (x6_1.length : Int) := oB_ (by first | (with_reducible assumption) | assumption)
           obtain ⟨ad485, e485, hx485_0⟩ := Kd.at_int (Kd.R_reads' HO_6.out).2.2 0 p485 q485
           cases e485
           have qi485 : (0 < x6_1.length) = True := eq_true (by omega)
           (try rw [show ((0 : Int)).toNat = 0 from rfl] at hx485_0)
           (try rw [Addr.add_zero'] at hx485_0)
           replace p485 := eq_true p485
           replace q485 := eq_true q485
           have p17 : 0 ≤ (0 : Int) := (by omega)
           have q17 : (0 : Int) < ((x6_1.length : Int) : Int) := oB_ (by first | (with_reducible assumption) | assumption)
           have qi17 : (0 < x6_1.length) = True := eq_true (by omega)
           obtain ⟨go17, co17, eo17, gb17, gl17, cl17, HG17⟩ := Kd.R_form HO_6.out (by omega)
           (first | cases eo17 | (injection eo17 with ea_ en_ ec_; (first | subst ea_ | (injection ea_ with ea_; subst ea_)); subst ec_; clear en_))
           have GB17 := A_ gb17
           have GG17 := A_ HG17
           clear gb17 gl17 HG17
           (first | simp only [add_plain] at hx485_0 | skip)
           obtain ⟨hx17_0, hf17_0⟩ := Kd.R_celln 0 HO_6.out (0 : Int) p17 q17
           (try rw [show ((0 : Int)).toNat = 0 from rfl] at hx17_0)
           (try simp only [Nat.reduceMul, Nat.zero_mul, Nat.zero_add, Nat.reduceAdd] at hx17_0)
           (try rw [show ((0 : Int)).toNat = 0 from rfl] at hf17_0)
           (try simp only [Nat.reduceMul, Nat.zero_mul, Nat.zero_add, Nat.reduceAdd] at hf17_0)
           replace p17 := eq_true p17
           replace q17 := eq_true q17
           have HP19 := Kd.R_putg HO_6.out (0 : Int) (wrap64 ((rd x6_1 0) + 1))
           go_wp2_with (first | ((with_reducible refine gate_store (t := 3) (p := 41) rfl ?_); refine store_event (t := 3) (p := 41) (v := ?vo_w20) (w1 := (wr.setCell ⟨go17, (0 : Int).toNat, none⟩ (.int .i64 (wrap64 ((rd x6_1 0) + 1))))) ?hg ?ho ?hn ?hr ?_; (case ho => rfl); (case hg => rfl); (case hn => rfl); (case hr => first | (go_simp; done) | (go_simp; rfl)); intro w20 hw; have hg : wr.grownBy w20 (some go17) := (by rw [hw]; exact HP19.2); have hp_ : Kd.R (Kd.int .i64) 3 w20 w.heap.size (fun _ => True) (.slice (some ⟨go17, 0, none⟩) x6_1.length co18) y486 := (by rw [hw, Ny486.out]; exact HP19.1); clear HP19; have n0_ := A_ (hp_); have n1_ := A_ (blk_grown (g := gb479) (o := .cells #[.slice A0_0 l0_0.length c0_0, .slice A0_1 l0_1.length c0_1] 27 (0, 0)) (by (with_reducible repeat (first | refine kA_ ?_ _ | refine kB_ ?_ | refine kC_ ?_ _)); exact BK479.out) hg (Kd.R_ne HO_6.out BK479.out (by decide))); have n2_ := A_ ((by rw [hw]; exact bD_ (HB.out) GB17.out : Below w.heap.size w w20)); clear HO_6; clear BK479; clear HB; have HO_6 := n0_; have BK479 := n1_; have HB := n2_; clear n0_ n1_ n2_; clear hg hw hp_))
           go_meet
           case rel => exact ⟨_, (y486), H', ⟨by have := HK1.out; first | omega | exact nA_ _⟩, ⟨by (with_reducible repeat (first | apply rA_ | apply rB_ | apply rC_)); exact HO_6.out⟩, ⟨by (with_reducible repeat (first | refine kA_ ?_ _ | refine kB_ ?_ | refine kC_ ?_ _)); exact BK479.out⟩, ⟨by repeat (first | (with_reducible first | exact HB.out | apply bA_ | apply bB_ | apply bC_ | refine bD_ ?_ GE479.out) | exact HB.out)⟩⟩
          ·rw [if_neg c16] at H
           exact absurd H (by simp)
         ·rw [if_neg c15] at H
          have c15b0 : ((rd l1 x29_1) == x29_1) = false := beq_eq_false_iff_ne.mpr c15
          have c15b1 : ((rd l1 x29_1) != x29_1) = true := bne_iff_ne.mpr c15
          (first | rw [c15b0] | (simp only [i64_w, i32_w]; rw [c15b0]) | skip)
          have H' := A_ H
          clear H
          go_wp2
          go_meet
          case rel => exact ⟨_, (x6_1), H', ⟨by have := HK1.out; first | omega | exact nA_ _⟩, ⟨by (with_reducible repeat (first | apply rA_ | apply rB_ | apply rC_)); exact HO_6.out⟩, ⟨by (with_reducible repeat (first | refine kA_ ?_ _ | refine kB_ ?_ | refine kC_ ?_ _)); exact BK479.out⟩, ⟨by repeat (first | (with_reducible first | exact HB.out | apply bA_ | apply bB_ | apply bC_ | refine bD_ ?_ GE479.out) | exact HB.out)⟩⟩
        case rest =>
         clear HC14
         (try clear c1); (try clear p1); (try clear q1); (try clear hx1); (try clear qi1); (try clear p2); (try clear c4); (try clear p4); (try clear q4); (try clear hx4); (try clear qi4); (try clear c5); (try clear c5b0); (try clear c5b1); (try clear p6); (try clear c10); (try clear c11); (try clear c11b0); (try clear c12); (try clear c12b0); (try clear c13); (try clear c13b0); (try clear c14); (try clear c15); (try clear c15b0); (try clear c15b1); (try clear c16); (try clear c16b0); (try clear c16b1); (try clear p17); (try clear q17); (try clear hx17); (try clear qi17); (try clear hf17); (try clear hcz7_0); (try clear hcz7_1); (try clear hfz7_0); (try clear hfz7_1); (try clear hx17_0); (try clear hx484_0); (try clear hx485_0); (try clear p17); (try clear p2); (try clear p484); (try clear p485); (try clear q17); (try clear q484); (try clear q485)
         obtain ⟨kq, x6_13, HA, HJ13, HO_6, BK479, HB⟩ := hcut
         cases kq with
         | zero => exact absurd HA.out (by simp [Z8.j1])
         | succ kj13 =>
          have H := HA.out
          clear HA
          simp only [Z8.j1] at H
          by_cases c21 : 0 ≤ x29_1
          ·rw [if_pos c21] at H
           have c21b0 : decide (0 ≤ x29_1) = true := oC_ c21
           clear c21
           by_cases c22 : x29_1 < (l0_0.length : Int)
           ·rw [if_pos c22] at H
            have c22b0 : decide (x29_1 < (l0_0.length : Int)) = true := oC_ c22
            clear c22
            by_cases c23 : (rd l1 x29_1) = (rd l0_0 x29_1)
            ·rw [if_pos c23] at H
             have c23b0 : ((rd l1 x29_1) == (rd l0_0 x29_1)) = true := beq_iff_eq.mpr c23
             have c23b1 : ((rd l1 x29_1) != (rd l0_0 x29_1)) = false := bne_eq_false_iff_eq.mpr c23
             clear c23
             by_cases c24 : 1 < (x6_13.length : Int)
             ·rw [if_pos c24] at H
              have c24b0 : decide (1 < (x6_13.length : Int)) = true := oC_ c24
              have c24b1 : decide (1 < x6_13.length) = true := oC_ (by omega)
              clear c24
              obtain ⟨y489, hy489⟩ : ∃ y_ : List Int, y_ = (x6_13.set (1 : Int).toNat (wrap64 ((rd x6_13 1) + 1))) := ⟨_, rfl⟩
              replace H : (if x29_1 < (l0_1.length : Int) then (if (rd l1 x29_1) = (rd l0_1 x29_1) then (if 2 < (x6_13.length : Int) then (Z8.l0 kj13 l1 (y489.set (2 : Int).toNat (wrap64 ((rd y489 2) + 1))) l1 (l1.length : Int) (wrap64 (x29_1 + 1)) l0_0 l0_1) else (none)) else (Z8.l0 kj13 l1 y489 l1 (l1.length : Int) (wrap64 (x29_1 + 1)) l0_0 l0_1)) else (none)) = some (r1, r2) := by first | (rw [hy489]; with_reducible exact H) | (have H2_ := (oA_ _ _).symm.trans H; rw [hy489]; with_reducible exact H2_) | (have H2_ := (oA_ _ _).symm.trans H; with_reducible exact H2_) | with_reducible exact H | (rw [hy489]; exact H) | exact H
              have Ny489 := A_ hy489
              clear hy489
              by_cases c26 : x29_1 < (l0_1.length : Int)
              ·rw [if_pos c26] at H
               have c26b0 : decide (x29_1 < (l0_1.length : Int)) = true := oC_ c26
               clear c26
               by_cases c27 : (rd l1 x29_1) = (rd l0_1 x29_1)
               ·rw [if_pos c27] at H
                have c27b0 : ((rd l1 x29_1) == (rd l0_1 x29_1)) = true := beq_iff_eq.mpr c27
                have c27b1 : ((rd l1 x29_1) != (rd l0_1 x29_1)) = false := bne_eq_false_iff_eq.mpr c27
                clear c27
                by_cases c28 : 2 < (x6_13.length : Int)
                ·rw [if_pos c28] at H
                 have c28b0 : decide (2 < (x6_13.length : Int)) = true := oC_ c28
                 have c28b1 : decide (2 < x6_13.length) = true := oC_ (by omega)
                 clear c28
                 obtain ⟨y492, hy492⟩ : ∃ y_ : List Int, y_ = (y489.set (2 : Int).toNat (wrap64 ((rd y489 2) + 1))) := ⟨_, rfl⟩
                 replace H : (Z8.l0 kj13 l1 y492 l1 (l1.length : Int) (wrap64 (x29_1 + 1)) l0_0 l0_1) = some (r1, r2) := by first | (rw [hy492]; with_reducible exact H) | (have H2_ := (oA_ _ _).symm.trans H; rw [hy492]; with_reducible exact H2_) | (have H2_ := (oA_ _ _).symm.trans H; with_reducible exact H2_) | with_reducible exact H | (rw [hy492]; exact H) | exact H
                 have Ny492 := A_ hy492
                 clear hy492
                 have H' := A_ H
                 clear H
                 have hcz30_0 := cz0_ BK479.out
                 have hcz30_1 := cz1_ BK479.out
                 have hfz30_0 := kD_ BK479.out 0
                 have hfz30_1 := kD_ BK479.out 1
                 have p487 : 0 ≤ (x29_1 : Int) := oB_ (by first | (with_reducible assumption) | assumption)
                 have q487 : x29_1 < (l0_0.length : Int) := oB_ (by first | (with_reducible assumption) | assumption)
                 obtain ⟨ad487, e487, hx487_0⟩ := Kd.at_int HR0_0.out x29_1 p487 q487
                 cases e487
                 (try replace hx487_0 := (HB.out.cell (World.block_lt_of_cell? w _ hx487_0)).trans hx487_0)
                 replace p487 := eq_true p487
                 replace q487 := eq_true q487
                 obtain ⟨Ao31, co31, eo31⟩ := Kd.R_slice HO_6.out
                 subst eo31
                 have p488 : 0 ≤ (1 : Int) := (by omega)
                 have q488 : 1 < (x6_13.length : Int) := oB_ (by first | (with_reducible assumption) | assumption)
                 obtain ⟨ad488, e488, hx488_0⟩ := Kd.at_int (Kd.R_reads' HO_6.out).2.2 1 p488 q488
                 cases e488
                 (try simp only [show (1 : Int).toNat = 1 from rfl, Nat.reduceMul, Nat.reduceEqDiff, Go.Addr.add, ↓reduceIte] at hx488_0)
                 have qi488 : (1 < x6_13.length) = True := eq_true (by omega)
                 (try rw [show ((1 : Int)).toNat = 1 from rfl] at hx488_0)
                 replace p488 := eq_true p488
                 replace q488 := eq_true q488
                 have p25 : 0 ≤ (1 : Int) := (by omega)
                 have q25 : (1 : Int) < ((x6_13.length : Int) : Int) := oB_ (by first | (with_reducible assumption) | assumption)
                 have qi25 : (1 < x6_13.length) = True := eq_true (by omega)
                 obtain ⟨go25, co25, eo25, gb25, gl25, cl25, HG25⟩ := Kd.R_form HO_6.out (by omega)
                 (first | cases eo25 | (injection eo25 with ea_ en_ ec_; (first | subst ea_ | (injection ea_ with ea_; subst ea_)); subst ec_; clear en_))
                 have GB25 := A_ gb25
                 have GG25 := A_ HG25
                 clear gb25 gl25 HG25
                 (first | simp only [add_plain] at hx488_0 | skip)
                 obtain ⟨hx25_0, hf25_0⟩ := Kd.R_celln 0 HO_6.out (1 : Int) p25 q25
                 (try rw [show ((1 : Int)).toNat = 1 from rfl] at hx25_0)
                 (try simp only [Nat.reduceMul, Nat.zero_mul, Nat.zero_add, Nat.reduceAdd] at hx25_0)
                 (try rw [show ((1 : Int)).toNat = 1 from rfl] at hf25_0)
                 (try simp only [Nat.reduceMul, Nat.zero_mul, Nat.zero_add, Nat.reduceAdd] at hf25_0)
                 replace p25 := eq_true p25
                 replace q25 := eq_true q25
                 have HP32 := Kd.R_putg HO_6.out (1 : Int) (wrap64 ((rd x6_13 1) + 1))
                 go_wp2_with (first | ((with_reducible refine gate_store (t := 3) (p := 53) rfl ?_); refine store_event (t := 3) (p := 53) (v := ?vo_w33) (w1 := (wc.setCell ⟨go25, (1 : Int).toNat, none⟩ (.int .i64 (wrap64 ((rd x6_13 1) + 1))))) ?hg ?ho ?hn ?hr ?_; (case ho => rfl); (case hg => rfl); (case hn => rfl); (case hr => first | (go_simp; done) | (go_simp; rfl)); intro w33 hw; have hg : wc.grownBy w33 (some go25) := (by rw [hw]; exact HP32.2); have hp_ : Kd.R (Kd.int .i64) 3 w33 w.heap.size (fun _ => True) (.slice (some ⟨go25, 0, none⟩) x6_13.length co31) y489 := (by rw [hw, Ny489.out]; exact HP32.1); clear HP32; have n0_ := A_ (hp_); have n1_ := A_ (blk_grown (g := gb479) (o := .cells #[.slice (some ad487) l0_0.length c0_0, .slice A0_1 l0_1.length c0_1] 27 (0, 0)) (by (with_reducible repeat (first | refine kA_ ?_ _ | refine kB_ ?_ | refine kC_ ?_ _)); exact BK479.out) hg (Kd.R_ne HO_6.out BK479.out (by decide))); have n2_ := A_ ((by rw [hw]; exact bD_ (HB.out) GB25.out : Below w.heap.size w w33)); clear HO_6; clear BK479; clear HB; have HO_6 := n0_; have BK479 := n1_; have HB := n2_; clear n0_ n1_ n2_; clear hg hw hp_; have hcz34_0 := cz0_ BK479.out; have hcz34_1 := cz1_ BK479.out; have hfz34_0 := kD_ BK479.out 0; have hfz34_1 := kD_ BK479.out 1; have p490 : 0 ≤ (x29_1 : Int) := oB_ (by first | (with_reducible assumption) | assumption); have q490 : x29_1 < (l0_1.length : Int) := oB_ (by first | (with_reducible assumption) | assumption); obtain ⟨ad490, e490, hx490_0⟩ := Kd.at_int HR0_1.out x29_1 p490 q490; cases e490; replace hx490_0 := (HB.out.cell (World.block_lt_of_cell? w _ hx490_0)).trans hx490_0; replace p490 := eq_true p490; replace q490 := eq_true q490; have p491 : 0 ≤ (2 : Int) := (by omega); have q491 : 2 < (y489.length : Int) := (by have h_ : (2 : Int) < ((x6_13.length : Int) : Int) := oB_ (by first | (with_reducible assumption) | assumption); first | (have e_ := (Kd.R_reads' HO_6.out).1; omega) | simpa only [Ny489.out, List.length_set] using h_); have ql491 : ((2 : Int) < ((x6_13.length : Int) : Int)) = True := eq_true (oB_ (by first | (with_reducible assumption) | assumption)); (try have qn491 : (2 < x6_13.length) = True := eq_true (by have h_ : (2 : Int) < ((x6_13.length : Int) : Int) := oB_ (by first | (with_reducible assumption) | assumption); omega)); obtain ⟨ad491, e491, hx491_0⟩ := Kd.at_int (Kd.R_reads' HO_6.out).2.2 2 p491 q491; obtain rfl : (⟨go25, 0, none⟩ : Addr) = ad491 := (by injection e491); (first | simp only [add_plain] at hx491_0 | simp only [add_at] at hx491_0 | simp only [Addr.add, Nat.zero_add] at hx491_0 | skip); have qi491 : (2 < y489.length) = True := eq_true (by omega); (try rw [show ((2 : Int)).toNat = 2 from rfl] at hx491_0); replace p491 := eq_true p491; replace q491 := eq_true q491; have p29 : 0 ≤ (2 : Int) := (by omega); have q29 : (2 : Int) < ((x6_13.length : Int) : Int) := oB_ (by first | (with_reducible assumption) | assumption); have qi29 : (2 < x6_13.length) = True := eq_true (by omega); obtain ⟨hx29_0, hf29_0⟩ := Kd.R_celln 0 HO_6.out (2 : Int) p29 q29; (try rw [show ((2 : Int)).toNat = 2 from rfl] at hx29_0); (try simp only [Nat.reduceMul, Nat.zero_mul, Nat.zero_add, Nat.reduceAdd] at hx29_0); (try rw [show ((2 : Int)).toNat = 2 from rfl] at hf29_0); (try simp only [Nat.reduceMul, Nat.zero_mul, Nat.zero_add, Nat.reduceAdd] at hf29_0); replace p29 := eq_true p29; replace q29 := eq_true q29; obtain ⟨hy35_, hz35_⟩ := Kd.R_celln 0 HO_6.out (2 : Int) (by omega) (oB_ (by first | (with_reducible assumption) | assumption)); (try simp only [Int.reduceToNat, Int.toNat_zero, Int.toNat_ofNat, Nat.reduceMul, Nat.zero_mul, Nat.zero_add] at hy35_ hz35_); (try rw [show ((2 : Int)).toNat = 2 from rfl] at hy35_); (try rw [show ((2 : Int)).toNat = 2 from rfl] at hz35_); have HP35 := Kd.R_putg HO_6.out (2 : Int) (wrap64 ((rd y489 2) + 1))) | ((with_reducible refine gate_store (t := 3) (p := 65) rfl ?_); refine store_event (t := 3) (p := 65) (v := ?vo_w36) (w1 := (w33.setCell ⟨go25, (2 : Int).toNat, none⟩ (.int .i64 (wrap64 ((rd y489 2) + 1))))) ?hg ?ho ?hn ?hr ?_; (case ho => rfl); (case hg => rfl); (case hn => rfl); (case hr => first | (go_simp; done) | (go_simp; rfl)); intro w36 hw; have hg : w33.grownBy w36 (some go25) := (by rw [hw]; exact HP35.2); have hp_ : Kd.R (Kd.int .i64) 3 w36 w.heap.size (fun _ => True) (.slice (some ⟨go25, 0, none⟩) x6_13.length co31) y492 := (by rw [hw, Ny492.out]; exact HP35.1); clear HP35; have n0_ := A_ (hp_); have n1_ := A_ (blk_grown (g := gb479) (o := .cells #[.slice (some ad487) l0_0.length c0_0, .slice (some ad490) l0_1.length c0_1] 27 (0, 0)) (by (with_reducible repeat (first | refine kA_ ?_ _ | refine kB_ ?_ | refine kC_ ?_ _)); exact BK479.out) hg (Kd.R_ne HO_6.out BK479.out (by decide))); have n2_ := A_ ((by rw [hw]; exact bD_ (HB.out) GB25.out : Below w.heap.size w w36)); clear HO_6; clear BK479; clear HB; have HO_6 := n0_; have BK479 := n1_; have HB := n2_; clear n0_ n1_ n2_; clear hg hw hp_))
                 go_roundg kj13
                 case measure => have := HK1.out; have := HJ13.out; omega
                 case rel => exact ⟨(y492), (wrap64 (x29_1 + 1)), (by first | rfl | (simp; done) | (simp [*]; done)), H', ⟨by have := HK1.out; have := HJ13.out; omega⟩, ⟨by (with_reducible repeat (first | apply rA_ | apply rB_ | apply rC_)); exact HO_6.out⟩, ⟨by (with_reducible repeat (first | refine kA_ ?_ _ | refine kB_ ?_ | refine kC_ ?_ _)); exact BK479.out⟩, ⟨by repeat (first | (with_reducible first | exact HB.out | apply bA_ | apply bB_ | apply bC_ | refine bD_ ?_ GE479.out) | exact HB.out)⟩⟩
                ·rw [if_neg c28] at H
                 exact absurd H (by simp)
               ·rw [if_neg c27] at H
                have c27b0 : ((rd l1 x29_1) == (rd l0_1 x29_1)) = false := beq_eq_false_iff_ne.mpr c27
                have c27b1 : ((rd l1 x29_1) != (rd l0_1 x29_1)) = true := bne_iff_ne.mpr c27
                have H' := A_ H
                clear H
                have hcz37_0 := cz0_ BK479.out
                have hcz37_1 := cz1_ BK479.out
                have hfz37_0 := kD_ BK479.out 0
                have hfz37_1 := kD_ BK479.out 1
                have p487 : 0 ≤ (x29_1 : Int) := oB_ (by first | (with_reducible assumption) | assumption)
                have q487 : x29_1 < (l0_0.length : Int) := oB_ (by first | (with_reducible assumption) | assumption)
                obtain ⟨ad487, e487, hx487_0⟩ := Kd.at_int HR0_0.out x29_1 p487 q487
                cases e487
                (try replace hx487_0 := (HB.out.cell (World.block_lt_of_cell? w _ hx487_0)).trans hx487_0)
                replace p487 := eq_true p487
                replace q487 := eq_true q487
                obtain ⟨Ao38, co38, eo38⟩ := Kd.R_slice HO_6.out
                subst eo38
                have p488 : 0 ≤ (1 : Int) := (by omega)
                have q488 : 1 < (x6_13.length : Int) := oB_ (by first | (with_reducible assumption) | assumption)
                obtain ⟨ad488, e488, hx488_0⟩ := Kd.at_int (Kd.R_reads' HO_6.out).2.2 1 p488 q488
                cases e488
                (try simp only [show (1 : Int).toNat = 1 from rfl, Nat.reduceMul, Nat.reduceEqDiff, Go.Addr.add, ↓reduceIte] at hx488_0)
                have qi488 : (1 < x6_13.length) = True := eq_true (by omega)
                (try rw [show ((1 : Int)).toNat = 1 from rfl] at hx488_0)
                replace p488 := eq_true p488
                replace q488 := eq_true q488
                have p25 : 0 ≤ (1 : Int) := (by omega)
                have q25 : (1 : Int) < ((x6_13.length : Int) : Int) := oB_ (by first | (with_reducible assumption) | assumption)
                have qi25 : (1 < x6_13.length) = True := eq_true (by omega)
                obtain ⟨go25, co25, eo25, gb25, gl25, cl25, HG25⟩ := Kd.R_form HO_6.out (by omega)
                (first | cases eo25 | (injection eo25 with ea_ en_ ec_; (first | subst ea_ | (injection ea_ with ea_; subst ea_)); subst ec_; clear en_))
                have GB25 := A_ gb25
                have GG25 := A_ HG25
                clear gb25 gl25 HG25
                (first | simp only [add_plain] at hx488_0 | skip)
                obtain ⟨hx25_0, hf25_0⟩ := Kd.R_celln 0 HO_6.out (1 : Int) p25 q25
                (try rw [show ((1 : Int)).toNat = 1 from rfl] at hx25_0)
                (try simp only [Nat.reduceMul, Nat.zero_mul, Nat.zero_add, Nat.reduceAdd] at hx25_0)
                (try rw [show ((1 : Int)).toNat = 1 from rfl] at hf25_0)
                (try simp only [Nat.reduceMul, Nat.zero_mul, Nat.zero_add, Nat.reduceAdd] at hf25_0)
                replace p25 := eq_true p25
                replace q25 := eq_true q25
                have HP39 := Kd.R_putg HO_6.out (1 : Int) (wrap64 ((rd x6_13 1) + 1))
                go_wp2_with (first | ((with_reducible refine gate_store (t := 3) (p := 53) rfl ?_); refine store_event (t := 3) (p := 53) (v := ?vo_w40) (w1 := (wc.setCell ⟨go25, (1 : Int).toNat, none⟩ (.int .i64 (wrap64 ((rd x6_13 1) + 1))))) ?hg ?ho ?hn ?hr ?_; (case ho => rfl); (case hg => rfl); (case hn => rfl); (case hr => first | (go_simp; done) | (go_simp; rfl)); intro w40 hw; have hg : wc.grownBy w40 (some go25) := (by rw [hw]; exact HP39.2); have hp_ : Kd.R (Kd.int .i64) 3 w40 w.heap.size (fun _ => True) (.slice (some ⟨go25, 0, none⟩) x6_13.length co38) y489 := (by rw [hw, Ny489.out]; exact HP39.1); clear HP39; have n0_ := A_ (hp_); have n1_ := A_ (blk_grown (g := gb479) (o := .cells #[.slice (some ad487) l0_0.length c0_0, .slice A0_1 l0_1.length c0_1] 27 (0, 0)) (by (with_reducible repeat (first | refine kA_ ?_ _ | refine kB_ ?_ | refine kC_ ?_ _)); exact BK479.out) hg (Kd.R_ne HO_6.out BK479.out (by decide))); have n2_ := A_ ((by rw [hw]; exact bD_ (HB.out) GB25.out : Below w.heap.size w w40)); clear HO_6; clear BK479; clear HB; have HO_6 := n0_; have BK479 := n1_; have HB := n2_; clear n0_ n1_ n2_; clear hg hw hp_; have hcz41_0 := cz0_ BK479.out; have hcz41_1 := cz1_ BK479.out; have hfz41_0 := kD_ BK479.out 0; have hfz41_1 := kD_ BK479.out 1; have p490 : 0 ≤ (x29_1 : Int) := oB_ (by first | (with_reducible assumption) | assumption); have q490 : x29_1 < (l0_1.length : Int) := oB_ (by first | (with_reducible assumption) | assumption); obtain ⟨ad490, e490, hx490_0⟩ := Kd.at_int HR0_1.out x29_1 p490 q490; cases e490; replace hx490_0 := (HB.out.cell (World.block_lt_of_cell? w _ hx490_0)).trans hx490_0; replace p490 := eq_true p490; replace q490 := eq_true q490))
                go_roundg kj13
                case measure => have := HK1.out; have := HJ13.out; omega
                case rel => exact ⟨(y489), (wrap64 (x29_1 + 1)), (by first | rfl | (simp; done) | (simp [*]; done)), H', ⟨by have := HK1.out; have := HJ13.out; omega⟩, ⟨by (with_reducible repeat (first | apply rA_ | apply rB_ | apply rC_)); exact HO_6.out⟩, ⟨by (with_reducible repeat (first | refine kA_ ?_ _ | refine kB_ ?_ | refine kC_ ?_ _)); exact BK479.out⟩, ⟨by repeat (first | (with_reducible first | exact HB.out | apply bA_ | apply bB_ | apply bC_ | refine bD_ ?_ GE479.out) | exact HB.out)⟩⟩
              ·rw [if_neg c26] at H
               exact absurd H (by simp)
             ·rw [if_neg c24] at H
              exact absurd H (by simp)
            ·rw [if_neg c23] at H
             have c23b0 : ((rd l1 x29_1) == (rd l0_0 x29_1)) = false := beq_eq_false_iff_ne.mpr c23
             have c23b1 : ((rd l1 x29_1) != (rd l0_0 x29_1)) = true := bne_iff_ne.mpr c23
             by_cases c42 : x29_1 < (l0_1.length : Int)
             ·rw [if_pos c42] at H
              have c42b0 : decide (x29_1 < (l0_1.length : Int)) = true := oC_ c42
              clear c42
              by_cases c43 : (rd l1 x29_1) = (rd l0_1 x29_1)
              ·rw [if_pos c43] at H
               have c43b0 : ((rd l1 x29_1) == (rd l0_1 x29_1)) = true := beq_iff_eq.mpr c43
               have c43b1 : ((rd l1 x29_1) != (rd l0_1 x29_1)) = false := bne_eq_false_iff_eq.mpr c43
               clear c43
               by_cases c44 : 2 < (x6_13.length : Int)
               ·rw [if_pos c44] at H
                have c44b0 : decide (2 < (x6_13.length : Int)) = true := oC_ c44
                have c44b1 : decide (2 < x6_13.length) = true := oC_ (by omega)
                clear c44
                obtain ⟨y495, hy495⟩ : ∃ y_ : List Int, y_ = (x6_13.set (2 : Int).toNat (wrap64 ((rd x6_13 2) + 1))) := ⟨_, rfl⟩
                replace H : (Z8.l0 kj13 l1 y495 l1 (l1.length : Int) (wrap64 (x29_1 + 1)) l0_0 l0_1) = some (r1, r2) := by first | (rw [hy495]; with_reducible exact H) | (have H2_ := (oA_ _ _).symm.trans H; rw [hy495]; with_reducible exact H2_) | (have H2_ := (oA_ _ _).symm.trans H; with_reducible exact H2_) | with_reducible exact H | (rw [hy495]; exact H) | exact H
                have Ny495 := A_ hy495
                clear hy495
                have H' := A_ H
                clear H
                have hcz46_0 := cz0_ BK479.out
                have hcz46_1 := cz1_ BK479.out
                have hfz46_0 := kD_ BK479.out 0
                have hfz46_1 := kD_ BK479.out 1
                have p487 : 0 ≤ (x29_1 : Int) := oB_ (by first | (with_reducible assumption) | assumption)
                have q487 : x29_1 < (l0_0.length : Int) := oB_ (by first | (with_reducible assumption) | assumption)
                obtain ⟨ad487, e487, hx487_0⟩ := Kd.at_int HR0_0.out x29_1 p487 q487
                cases e487
                (try replace hx487_0 := (HB.out.cell (World.block_lt_of_cell? w _ hx487_0)).trans hx487_0)
                replace p487 := eq_true p487
                replace q487 := eq_true q487
                have p493 : 0 ≤ (x29_1 : Int) := oB_ (by first | (with_reducible assumption) | assumption)
                have q493 : x29_1 < (l0_1.length : Int) := oB_ (by first | (with_reducible assumption) | assumption)
                obtain ⟨ad493, e493, hx493_0⟩ := Kd.at_int HR0_1.out x29_1 p493 q493
                cases e493
                (try replace hx493_0 := (HB.out.cell (World.block_lt_of_cell? w _ hx493_0)).trans hx493_0)
                replace p493 := eq_true p493
                replace q493 := eq_true q493
                obtain ⟨Ao47, co47, eo47⟩ := Kd.R_slice HO_6.out
                subst eo47
                have p494 : 0 ≤ (2 : Int) := (by omega)
                have q494 : 2 < (x6_13.length : Int) := oB_ (by first | (with_reducible assumption) | assumption)
                obtain ⟨ad494, e494, hx494_0⟩ := Kd.at_int (Kd.R_reads' HO_6.out).2.2 2 p494 q494
                cases e494
                (try simp only [show (2 : Int).toNat = 2 from rfl, Nat.reduceMul, Nat.reduceEqDiff, Go.Addr.add, ↓reduceIte] at hx494_0)
                have qi494 : (2 < x6_13.length) = True := eq_true (by omega)
                (try rw [show ((2 : Int)).toNat = 2 from rfl] at hx494_0)
                replace p494 := eq_true p494
                replace q494 := eq_true q494
                have p45 : 0 ≤ (2 : Int) := (by omega)
                have q45 : (2 : Int) < ((x6_13.length : Int) : Int) := oB_ (by first | (with_reducible assumption) | assumption)
                have qi45 : (2 < x6_13.length) = True := eq_true (by omega)
                obtain ⟨go45, co45, eo45, gb45, gl45, cl45, HG45⟩ := Kd.R_form HO_6.out (by omega)
                (first | cases eo45 | (injection eo45 with ea_ en_ ec_; (first | subst ea_ | (injection ea_ with ea_; subst ea_)); subst ec_; clear en_))
                have GB45 := A_ gb45
                have GG45 := A_ HG45
                clear gb45 gl45 HG45
                (first | simp only [add_plain] at hx494_0 | skip)
                obtain ⟨hx45_0, hf45_0⟩ := Kd.R_celln 0 HO_6.out (2 : Int) p45 q45
                (try rw [show ((2 : Int)).toNat = 2 from rfl] at hx45_0)
                (try simp only [Nat.reduceMul, Nat.zero_mul, Nat.zero_add, Nat.reduceAdd] at hx45_0)
                (try rw [show ((2 : Int)).toNat = 2 from rfl] at hf45_0)
                (try simp only [Nat.reduceMul, Nat.zero_mul, Nat.zero_add, Nat.reduceAdd] at hf45_0)
                replace p45 := eq_true p45
                replace q45 := eq_true q45
                have HP48 := Kd.R_putg HO_6.out (2 : Int) (wrap64 ((rd x6_13 2) + 1))
                go_wp2_with (first | ((with_reducible refine gate_store (t := 3) (p := 65) rfl ?_); refine store_event (t := 3) (p := 65) (v := ?vo_w49) (w1 := (wc.setCell ⟨go45, (2 : Int).toNat, none⟩ (.int .i64 (wrap64 ((rd x6_13 2) + 1))))) ?hg ?ho ?hn ?hr ?_; (case ho => rfl); (case hg => rfl); (case hn => rfl); (case hr => first | (go_simp; done) | (go_simp; rfl)); intro w49 hw; have hg : wc.grownBy w49 (some go45) := (by rw [hw]; exact HP48.2); have hp_ : Kd.R (Kd.int .i64) 3 w49 w.heap.size (fun _ => True) (.slice (some ⟨go45, 0, none⟩) x6_13.length co47) y495 := (by rw [hw, Ny495.out]; exact HP48.1); clear HP48; have n0_ := A_ (hp_); have n1_ := A_ (blk_grown (g := gb479) (o := .cells #[.slice (some ad487) l0_0.length c0_0, .slice (some ad493) l0_1.length c0_1] 27 (0, 0)) (by (with_reducible repeat (first | refine kA_ ?_ _ | refine kB_ ?_ | refine kC_ ?_ _)); exact BK479.out) hg (Kd.R_ne HO_6.out BK479.out (by decide))); have n2_ := A_ ((by rw [hw]; exact bD_ (HB.out) GB45.out : Below w.heap.size w w49)); clear HO_6; clear BK479; clear HB; have HO_6 := n0_; have BK479 := n1_; have HB := n2_; clear n0_ n1_ n2_; clear hg hw hp_))
                go_roundg kj13
                case measure => have := HK1.out; have := HJ13.out; omega
                case rel => exact ⟨(y495), (wrap64 (x29_1 + 1)), (by first | rfl | (simp; done) | (simp [*]; done)), H', ⟨by have := HK1.out; have := HJ13.out; omega⟩, ⟨by (with_reducible repeat (first | apply rA_ | apply rB_ | apply rC_)); exact HO_6.out⟩, ⟨by (with_reducible repeat (first | refine kA_ ?_ _ | refine kB_ ?_ | refine kC_ ?_ _)); exact BK479.out⟩, ⟨by repeat (first | (with_reducible first | exact HB.out | apply bA_ | apply bB_ | apply bC_ | refine bD_ ?_ GE479.out) | exact HB.out)⟩⟩
               ·rw [if_neg c44] at H
                exact absurd H (by simp)
              ·rw [if_neg c43] at H
               have c43b0 : ((rd l1 x29_1) == (rd l0_1 x29_1)) = false := beq_eq_false_iff_ne.mpr c43
               have c43b1 : ((rd l1 x29_1) != (rd l0_1 x29_1)) = true := bne_iff_ne.mpr c43
               have H' := A_ H
               clear H
               have hcz50_0 := cz0_ BK479.out
               have hcz50_1 := cz1_ BK479.out
               have hfz50_0 := kD_ BK479.out 0
               have hfz50_1 := kD_ BK479.out 1
               have p487 : 0 ≤ (x29_1 : Int) := oB_ (by first | (with_reducible assumption) | assumption)
               have q487 : x29_1 < (l0_0.length : Int) := oB_ (by first | (with_reducible assumption) | assumption)
               obtain ⟨ad487, e487, hx487_0⟩ := Kd.at_int HR0_0.out x29_1 p487 q487
               cases e487
               (try replace hx487_0 := (HB.out.cell (World.block_lt_of_cell? w _ hx487_0)).trans hx487_0)
               replace p487 := eq_true p487
               replace q487 := eq_true q487
               have p493 : 0 ≤ (x29_1 : Int) := oB_ (by first | (with_reducible assumption) | assumption)
               have q493 : x29_1 < (l0_1.length : Int) := oB_ (by first | (with_reducible assumption) | assumption)
               obtain ⟨ad493, e493, hx493_0⟩ := Kd.at_int HR0_1.out x29_1 p493 q493
               cases e493
               (try replace hx493_0 := (HB.out.cell (World.block_lt_of_cell? w _ hx493_0)).trans hx493_0)
               replace p493 := eq_true p493
               replace q493 := eq_true q493
               go_wp2
               go_roundg kj13
               case measure => have := HK1.out; have := HJ13.out; omega
               case rel => exact ⟨(x6_13), (wrap64 (x29_1 + 1)), (by first | rfl | (simp; done) | (simp [*]; done)), H', ⟨by have := HK1.out; have := HJ13.out; omega⟩, ⟨by (with_reducible repeat (first | apply rA_ | apply rB_ | apply rC_)); exact HO_6.out⟩, ⟨by (with_reducible repeat (first | refine kA_ ?_ _ | refine kB_ ?_ | refine kC_ ?_ _)); exact BK479.out⟩, ⟨by repeat (first | (with_reducible first | exact HB.out | apply bA_ | apply bB_ | apply bC_ | refine bD_ ?_ GE479.out) | exact HB.out)⟩⟩
             ·rw [if_neg c42] at H
              exact absurd H (by simp)
           ·rw [if_neg c22] at H
            exact absurd H (by simp)
          ·rw [if_neg c21] at H
           exact absurd H (by simp)
       ·rw [if_neg c13] at H
        exact absurd H (by simp)
      ·rw [if_neg c12] at H
       exact absurd H (by simp)
     ·rw [if_neg c11] at H
      have c11b0 : decide (x29_1 < (l1.length : Int)) = false := oD_ c11
      clear c11
      replace H := Option.bind_eq_some_iff.mp H
      obtain ⟨t496, A510, H⟩ := H
      replace H : ((Z9.f k1 l0_1).bind fun t499 => (if 0 ≤ (l1.length : Int) then (if ((l1.length : Int) : Int).toNat ≤ 35184372088832 then ((Z15.f k1 l0_0 l0_1).bind fun t505 => (Z8.l1 k1 l1 x6_1 t496 t499 (List.replicate ((l1.length : Int) : Int).toNat 0) t505 t505 (t505.length : Int) 0)) else (none)) else (none))) = some (r1, r2) := H
      have A51 := A_ A510
      clear A510
      replace H := Option.bind_eq_some_iff.mp H
      obtain ⟨t499, A520, H⟩ := H
      replace H : (if 0 ≤ (l1.length : Int) then (if ((l1.length : Int) : Int).toNat ≤ 35184372088832 then ((Z15.f k1 l0_0 l0_1).bind fun t505 => (Z8.l1 k1 l1 x6_1 t496 t499 (List.replicate ((l1.length : Int) : Int).toNat 0) t505 t505 (t505.length : Int) 0)) else (none)) else (none)) = some (r1, r2) := H
      have A52 := A_ A520
      clear A520
      by_cases c53 : 0 ≤ (l1.length : Int)
      ·rw [if_pos c53] at H
       have c53b0 := eq_true c53
       have c53b1 : decide (0 ≤ (l1.length : Int)) = true := oC_ c53
       clear c53
       by_cases c54 : ((l1.length : Int) : Int).toNat ≤ 35184372088832
       ·rw [if_pos c54] at H
        have c54b0 := eq_true c54
        have c54b1 : decide (((l1.length : Int) : Int).toNat ≤ 35184372088832) = true := oC_ c54
        clear c54
        obtain ⟨y502, hy502⟩ : ∃ y_ : List Int, y_ = (List.replicate ((l1.length : Int) : Int).toNat 0) := ⟨_, rfl⟩
        replace H : ((Z15.f k1 l0_0 l0_1).bind fun t505 => (Z8.l1 k1 l1 x6_1 t496 t499 y502 t505 t505 (t505.length : Int) 0)) = some (r1, r2) := by first | (rw [hy502]; with_reducible exact H) | (have H2_ := (oA_ _ _).symm.trans H; rw [hy502]; with_reducible exact H2_) | (have H2_ := (oA_ _ _).symm.trans H; with_reducible exact H2_) | with_reducible exact H | (rw [hy502]; exact H) | exact H
        have Ny502 := A_ hy502
        clear hy502
        replace H := Option.bind_eq_some_iff.mp H
        obtain ⟨t505, A550, H⟩ := H
        replace H : (Z8.l1 k1 l1 x6_1 t496 t499 y502 t505 t505 (t505.length : Int) 0) = some (r1, r2) := H
        have A55 := A_ A550
        clear A550
        have H' := A_ H
        clear H
        have hcz56_0 := cz0_ BK479.out
        have hcz56_1 := cz1_ BK479.out
        have hfz56_0 := kD_ BK479.out 0
        have hfz56_1 := kD_ BK479.out 1
        go_wp2_with (first | ((with_reducible refine gA_ (f := 119) rfl ?_); refine goesL_ (some 69) rfl rfl Try.func119 (by kernel_rfl) rfl #[.slice A0_0 l0_0.length c0_0] rfl (by (try simp only [mA_, mB_, mC_]); first | done | rfl | (simp only [lA_, lB_]; rfl)) ?_; (with_reducible refine (Z9.calls k1 _ _ l0_0 t496 _ ?side1 ?side2 A51.out).mono ?_); (case side1 => repeat (first | exact (cD_ HR0_0.out HB.out) | (with_reducible first | refine cA_ ?_ _ | refine cB_ ?_ _ | refine cC_ ?_))); (case side2 => exact HC0_0.out); rintro e w57 ⟨v497, rfl, ho0, hb⟩; refine ⟨_, rfl, ?_⟩; have n0_ := A_ (Kd.R_elder' (by (with_reducible repeat (first | apply rA_ | apply rB_ | apply rC_)); exact HO_6.out) (Kd.R_base ho0) hb); have n1_ := A_ (rE_ (Kd.R_new' ho0 (Kd.R_lt (by (with_reducible repeat (first | apply rA_ | apply rB_ | apply rC_)); exact HO_6.out))) (bF_ (by repeat (first | (with_reducible first | exact HB.out | apply bA_ | apply bB_ | apply bC_ | refine bD_ ?_ GE479.out) | exact HB.out)))); have n2_ := A_ (kE_ (g := gb479) (by (with_reducible repeat (first | refine kA_ ?_ _ | refine kB_ ?_ | refine kC_ ?_ _)); exact BK479.out) hb); have n3_ := A_ (bE_ (by repeat (first | (with_reducible first | exact HB.out | apply bA_ | apply bB_ | apply bC_ | refine bD_ ?_ GE479.out) | exact HB.out)) hb); clear HO_6; clear BK479; clear HB; have HO_6 := n0_; have HO498 := n1_; have BK479 := n2_; have HB := n3_; clear n0_ n1_ n2_ n3_; (try clear hb); (try clear hb2); (try clear hk); (try clear hi); (try clear ho0); have hcz58_0 := cz0_ BK479.out; have hcz58_1 := cz1_ BK479.out; have hfz58_0 := kD_ BK479.out 0; have hfz58_1 := kD_ BK479.out 1) | ((with_reducible refine gA_ (f := 119) rfl ?_); refine goesL_ (some 72) rfl rfl Try.func119 (by kernel_rfl) rfl #[.slice A0_1 l0_1.length c0_1] rfl (by (try simp only [mA_, mB_, mC_]); first | done | rfl | (simp only [lA_, lB_]; rfl)) ?_; (with_reducible refine (Z9.calls k1 _ _ l0_1 t499 _ ?side1 ?side2 A52.out).mono ?_); (case side1 => repeat (first | exact (cD_ HR0_1.out HB.out) | (with_reducible first | refine cA_ ?_ _ | refine cB_ ?_ _ | refine cC_ ?_))); (case side2 => exact HC0_1.out); rintro e w59 ⟨v500, rfl, ho0, hb⟩; refine ⟨_, rfl, ?_⟩; have n0_ := A_ (Kd.R_elder' (by (with_reducible repeat (first | apply rA_ | apply rB_ | apply rC_)); exact HO_6.out) (Kd.R_base ho0) hb); have n1_ := A_ (Kd.R_elder' (by (with_reducible repeat (first | apply rA_ | apply rB_ | apply rC_)); exact HO498.out) (Kd.R_base ho0) hb); have n2_ := A_ (rE_ (Kd.R_new' (Kd.R_new' ho0 (Kd.R_lt (by (with_reducible repeat (first | apply rA_ | apply rB_ | apply rC_)); exact HO_6.out))) (Kd.R_lt (by (with_reducible repeat (first | apply rA_ | apply rB_ | apply rC_)); exact HO498.out))) (bF_ (by repeat (first | (with_reducible first | exact HB.out | apply bA_ | apply bB_ | apply bC_ | refine bD_ ?_ GE479.out) | exact HB.out)))); have n3_ := A_ (kE_ (g := gb479) (by (with_reducible repeat (first | refine kA_ ?_ _ | refine kB_ ?_ | refine kC_ ?_ _)); exact BK479.out) hb); have n4_ := A_ (bE_ (by repeat (first | (with_reducible first | exact HB.out | apply bA_ | apply bB_ | apply bC_ | refine bD_ ?_ GE479.out) | exact HB.out)) hb); clear HO_6; clear HO498; clear BK479; clear HB; have HO_6 := n0_; have HO498 := n1_; have HO501 := n2_; have BK479 := n3_; have HB := n4_; clear n0_ n1_ n2_ n3_ n4_; (try clear hb); (try clear hb2); (try clear hk); (try clear hi); (try clear ho0)) | ((with_reducible refine gB_ (N := 75) rfl ?_); refine Kd.R_make (Kd.int .i64) _ 3 rfl (N := 75) rfl 22 _ _ rfl (l1.length : Int) rfl rfl Try.underlying22 (.int .i64 0) 8 info3 rfl (by decide) (by omega) 0 (ok := fun _ => True) (okp := fun _ => True) rfl (fun _ hk => hk) trivial (oB_ (by first | (with_reducible assumption) | assumption)) (Nat.le_trans (Nat.mul_le_mul_right _ (oB_ (by first | (with_reducible assumption) | assumption) : (l1.length : Int).toNat ≤ 35184372088832)) (by omega)) (Below.refl _ _) (nA_ _) ?_; intro v503 w60 ho61 hb hg_ hnew_; clear hg_ hnew_; (first | rw [← Ny502.out] at ho61 | (simp only [Int.reduceToNat] at ho61; rw [← Ny502.out] at ho61)); have n0_ := A_ (Kd.R_elder' (by (with_reducible repeat (first | apply rA_ | apply rB_ | apply rC_)); exact HO_6.out) (Kd.R_base ho61) hb); have n1_ := A_ (Kd.R_elder' (by (with_reducible repeat (first | apply rA_ | apply rB_ | apply rC_)); exact HO498.out) (Kd.R_base ho61) hb); have n2_ := A_ (Kd.R_elder' (by (with_reducible repeat (first | apply rA_ | apply rB_ | apply rC_)); exact HO501.out) (Kd.R_base ho61) hb); have n3_ := A_ (rE_ (Kd.R_new' (Kd.R_new' (Kd.R_new' ho61 (Kd.R_lt (by (with_reducible repeat (first | apply rA_ | apply rB_ | apply rC_)); exact HO_6.out))) (Kd.R_lt (by (with_reducible repeat (first | apply rA_ | apply rB_ | apply rC_)); exact HO498.out))) (Kd.R_lt (by (with_reducible repeat (first | apply rA_ | apply rB_ | apply rC_)); exact HO501.out))) (bF_ (by repeat (first | (with_reducible first | exact HB.out | apply bA_ | apply bB_ | apply bC_ | refine bD_ ?_ GE479.out) | exact HB.out)))); have n4_ := A_ (kE_ (g := gb479) (by (with_reducible repeat (first | refine kA_ ?_ _ | refine kB_ ?_ | refine kC_ ?_ _)); exact BK479.out) hb); have n5_ := A_ (bE_ (by repeat (first | (with_reducible first | exact HB.out | apply bA_ | apply bB_ | apply bC_ | refine bD_ ?_ GE479.out) | exact HB.out)) hb); clear HO_6; clear HO498; clear HO501; clear BK479; clear HB; have HO_6 := n0_; have HO498 := n1_; have HO501 := n2_; have HO504 := n3_; have BK479 := n4_; have HB := n5_; clear n0_ n1_ n2_ n3_ n4_ n5_; clear hb ho61; have hcz62_0 := cz0_ BK479.out; have hcz62_1 := cz1_ BK479.out; have hfz62_0 := kD_ BK479.out 0; have hfz62_1 := kD_ BK479.out 1) | ((with_reducible refine gA_ (f := 140) rfl ?_); refine goesL_ (some 77) rfl rfl Try.func140 (by kernel_rfl) rfl #[.agg #[.slice A0_0 l0_0.length c0_0, .slice A0_1 l0_1.length c0_1]] rfl (by (try simp only [mA_, mB_, mC_]); first | done | rfl | (simp only [lA_, lB_]; rfl)) ?_; (with_reducible refine (Z15.calls k1 _ _ l0_0 _ _ l0_1 t505 _ ?side1 ?side2 ?side3 ?side4 A55.out).mono ?_); (case side1 => repeat (first | exact (cD_ HR0_0.out HB.out) | (with_reducible first | refine cA_ ?_ _ | refine cB_ ?_ _ | refine cC_ ?_))); (case side2 => exact HC0_0.out); (case side3 => repeat (first | exact (cD_ HR0_1.out HB.out) | (with_reducible first | refine cA_ ?_ _ | refine cB_ ?_ _ | refine cC_ ?_))); (case side4 => exact HC0_1.out); rintro e w63 ⟨v506, rfl, ho0, hb⟩; refine ⟨_, rfl, ?_⟩; have n0_ := A_ (rD_ (by (with_reducible repeat (first | apply rA_ | apply rB_ | apply rC_)); exact HO_6.out) hb); have n1_ := A_ (rD_ (by (with_reducible repeat (first | apply rA_ | apply rB_ | apply rC_)); exact HO498.out) hb); have n2_ := A_ (rD_ (by (with_reducible repeat (first | apply rA_ | apply rB_ | apply rC_)); exact HO501.out) hb); have n3_ := A_ (rD_ (by (with_reducible repeat (first | apply rA_ | apply rB_ | apply rC_)); exact HO504.out) hb); have n4_ := A_ (Kd.S_lower (Kd.S_new' (Kd.S_new' (Kd.S_new' (Kd.S_new' ho0 (Kd.R_lt (by (with_reducible repeat (first | apply rA_ | apply rB_ | apply rC_)); exact HO_6.out))) (Kd.R_lt (by (with_reducible repeat (first | apply rA_ | apply rB_ | apply rC_)); exact HO498.out))) (Kd.R_lt (by (with_reducible repeat (first | apply rA_ | apply rB_ | apply rC_)); exact HO501.out))) (Kd.R_lt (by (with_reducible repeat (first | apply rA_ | apply rB_ | apply rC_)); exact HO504.out))) (bF_ (by repeat (first | (with_reducible first | exact HB.out | apply bA_ | apply bB_ | apply bC_ | refine bD_ ?_ GE479.out) | exact HB.out)))); have n5_ := A_ (kE_ (g := gb479) (by (with_reducible repeat (first | refine kA_ ?_ _ | refine kB_ ?_ | refine kC_ ?_ _)); exact BK479.out) hb); have n6_ := A_ (bE_ (by repeat (first | (with_reducible first | exact HB.out | apply bA_ | apply bB_ | apply bC_ | refine bD_ ?_ GE479.out) | exact HB.out)) hb); clear HO_6; clear HO498; clear HO501; clear HO504; clear BK479; clear HB; have HO_6 := n0_; have HO498 := n1_; have HO501 := n2_; have HO504 := n3_; have HO507 := n4_; have BK479 := n5_; have HB := n6_; clear n0_ n1_ n2_ n3_ n4_ n5_ n6_; (try clear hb); (try clear hb2); (try clear hk); (try clear hi); (try clear ho0); obtain ⟨Ao64, co64, eo64⟩ := Kd.S_slice HO507.out; subst eo64))
        go_loopg [80] k1 (fun kq v80 w' => ∃ (x11_2 : List Int) (x80_2 : Int), v80 = .int .i64 x80_2 ∧ Aside0 (Z8.l1 kq l1 x6_1 t496 t499 x11_2 t505 t505 (t505.length : Int) x80_2 = some (r1, r2)) ∧ Aside0 (kq ≤ k1) ∧ Aside0 (Kd.R (Kd.int .i64) 3 w' w.heap.size (fun k_ => some k_ ≠ (v497 : Value).ownBlock ∧ some k_ ≠ (v500 : Value).ownBlock ∧ some k_ ≠ (v503 : Value).ownBlock) v482 x6_1) ∧ Aside0 (Kd.R (Kd.int .i64) 3 w' w.heap.size (fun k_ => some k_ ≠ (v482 : Value).ownBlock ∧ some k_ ≠ (v500 : Value).ownBlock ∧ some k_ ≠ (v503 : Value).ownBlock) v497 t496) ∧ Aside0 (Kd.R (Kd.int .i64) 3 w' w.heap.size (fun k_ => some k_ ≠ (v482 : Value).ownBlock ∧ some k_ ≠ (v497 : Value).ownBlock ∧ some k_ ≠ (v503 : Value).ownBlock) v500 t499) ∧ Aside0 (Kd.R (Kd.int .i64) 3 w' w.heap.size (fun k_ => some k_ ≠ (v482 : Value).ownBlock ∧ some k_ ≠ (v497 : Value).ownBlock ∧ some k_ ≠ (v500 : Value).ownBlock) v503 x11_2) ∧ Aside0 (Kd.S (Kd.slice 3 (Kd.int .i64)) 22 w' w.heap.size (fun k_ => some k_ ≠ (v482 : Value).ownBlock ∧ some k_ ≠ (v497 : Value).ownBlock ∧ some k_ ≠ (v500 : Value).ownBlock ∧ some k_ ≠ (v503 : Value).ownBlock) (.slice Ao64 t505.length co64) t505) ∧ Aside0 (Kd.S (Kd.slice 3 (Kd.int .i64)) 22 w' w.heap.size (fun k_ => some k_ ≠ (v482 : Value).ownBlock ∧ some k_ ≠ (v497 : Value).ownBlock ∧ some k_ ≠ (v500 : Value).ownBlock ∧ some k_ ≠ (v503 : Value).ownBlock) (.slice Ao64 t505.length co64) t505) ∧ Aside0 (w'.heap[gb479]? = some (.cells #[(.slice A0_0 l0_0.length c0_0), (.slice A0_1 l0_1.length c0_1)] 27 (0, 0))) ∧ Aside0 (Below w.heap.size w w'))
        case atStart => exact ⟨(y502), (0), (by first | rfl | (simp; done) | (simp [*]; done)), H', ⟨nA_ _⟩, ⟨by (with_reducible repeat (first | apply rA_ | apply rB_ | apply rC_)); exact Kd.R_mono HO_6.out (fun _ hk => ⟨hk.1.1.2, ⟨hk.1.2, hk.2⟩⟩)⟩, ⟨by (with_reducible repeat (first | apply rA_ | apply rB_ | apply rC_)); exact Kd.R_mono HO498.out (fun _ hk => ⟨hk.1.1.2, ⟨hk.1.2, hk.2⟩⟩)⟩, ⟨by (with_reducible repeat (first | apply rA_ | apply rB_ | apply rC_)); exact Kd.R_mono HO501.out (fun _ hk => ⟨hk.1.1.2, ⟨hk.1.2, hk.2⟩⟩)⟩, ⟨by (with_reducible repeat (first | apply rA_ | apply rB_ | apply rC_)); exact Kd.R_mono HO504.out (fun _ hk => ⟨hk.1.1.2, ⟨hk.1.2, hk.2⟩⟩)⟩, ⟨by (with_reducible repeat (first | apply Kd.S_alloc | apply Kd.S_drewN | apply Kd.S_drew)); exact Kd.S_mono HO507.out (fun _ hk => ⟨hk.1.1.1.2, ⟨hk.1.1.2, ⟨hk.1.2, hk.2⟩⟩⟩)⟩, ⟨by (with_reducible repeat (first | apply Kd.S_alloc | apply Kd.S_drewN | apply Kd.S_drew)); exact Kd.S_mono HO507.out (fun _ hk => ⟨hk.1.1.1.2, ⟨hk.1.1.2, ⟨hk.1.2, hk.2⟩⟩⟩)⟩, ⟨by (with_reducible repeat (first | refine kA_ ?_ _ | refine kB_ ?_ | refine kC_ ?_ _)); exact BK479.out⟩, ⟨by repeat (first | (with_reducible first | exact HB.out | apply bA_ | apply bB_ | apply bC_ | refine bD_ ?_ GE479.out) | exact HB.out)⟩⟩
        case round =>
         clear H'
         (try clear c1); (try clear p1); (try clear q1); (try clear hx1); (try clear qi1); (try clear c2); (try clear p2); (try clear q2); (try clear hx2); (try clear qi2); (try clear hf2); (try clear c4); (try clear p4); (try clear q4); (try clear hx4); (try clear qi4); (try clear hf4); (try clear c5); (try clear c5b0); (try clear c5b1); (try clear p6); (try clear c10); (try clear c11); (try clear c11b0); (try clear c12); (try clear c12b0); (try clear c13); (try clear c13b0); (try clear c14); (try clear c15); (try clear c15b0); (try clear c15b1); (try clear c16); (try clear c16b0); (try clear c16b1); (try clear p17); (try clear q17); (try clear hx17); (try clear qi17); (try clear hf17); (try clear c21); (try clear c21b0); (try clear c22); (try clear c22b0); (try clear c23); (try clear c23b0); (try clear c23b1); (try clear c24); (try clear c24b0); (try clear c24b1); (try clear p25); (try clear q25); (try clear hx25); (try clear qi25); (try clear hf25); (try clear c26); (try clear c26b0); (try clear c27); (try clear c27b0); (try clear c27b1); (try clear c28); (try clear c28b0); (try clear c28b1); (try clear p29); (try clear q29); (try clear hx29); (try clear qi29); (try clear hf29); (try clear c42); (try clear c42b0); (try clear c43); (try clear c43b0); (try clear c43b1); (try clear c44); (try clear c44b0); (try clear c44b1); (try clear p45); (try clear q45); (try clear hx45); (try clear qi45); (try clear hf45); (try clear p48); (try clear q48); (try clear hx48); (try clear qi48); (try clear p49); (try clear q49); (try clear hx49); (try clear qi49); (try clear c53); (try clear c53b0); (try clear c53b1); (try clear c54); (try clear c54b0); (try clear c54b1); (try clear p64); (try clear hcz30_0); (try clear hcz30_1); (try clear hcz34_0); (try clear hcz34_1); (try clear hcz37_0); (try clear hcz37_1); (try clear hcz41_0); (try clear hcz41_1); (try clear hcz46_0); (try clear hcz46_1); (try clear hcz50_0); (try clear hcz50_1); (try clear hcz56_0); (try clear hcz56_1); (try clear hcz58_0); (try clear hcz58_1); (try clear hcz62_0); (try clear hcz62_1); (try clear hcz7_0); (try clear hcz7_1); (try clear hfz30_0); (try clear hfz30_1); (try clear hfz34_0); (try clear hfz34_1); (try clear hfz37_0); (try clear hfz37_1); (try clear hfz41_0); (try clear hfz41_1); (try clear hfz46_0); (try clear hfz46_1); (try clear hfz50_0); (try clear hfz50_1); (try clear hfz56_0); (try clear hfz56_1); (try clear hfz58_0); (try clear hfz58_1); (try clear hfz62_0); (try clear hfz62_1); (try clear hfz7_0); (try clear hfz7_1); (try clear hx17_0); (try clear hx25_0); (try clear hx29_0); (try clear hx45_0); (try clear hx484_0); (try clear hx485_0); (try clear hx487_0); (try clear hx488_0); (try clear hx490_0); (try clear hx491_0); (try clear hx493_0); (try clear hx494_0); (try clear p1); (try clear p17); (try clear p2); (try clear p25); (try clear p29); (try clear p4); (try clear p45); (try clear p484); (try clear p485); (try clear p487); (try clear p488); (try clear p490); (try clear p491); (try clear p493); (try clear p494); (try clear p6); (try clear q1); (try clear q17); (try clear q25); (try clear q29); (try clear q4); (try clear q45); (try clear q484); (try clear q485); (try clear q487); (try clear q488); (try clear q490); (try clear q491); (try clear q493); (try clear q494)
         obtain ⟨x11_2, x80_2, rfl, HA, HK2, HO_6, HO_9, HO_10, HO_11, HO_12, HO_78, BK479, HB⟩ := hrel
         cases gk with
         | zero => exact absurd HA.out (by simp [Z8.l1])
         | succ k2 =>
          have H := HA.out
          clear HA
          simp only [Z8.l1] at H
          by_cases c65 : x80_2 < (t505.length : Int)
          ·rw [if_pos c65] at H
           have c65b0 : decide (x80_2 < (t505.length : Int)) = true := oC_ c65
           clear c65
           by_cases c66 : 0 ≤ x80_2
           ·rw [if_pos c66] at H
            have c66b0 : decide (0 ≤ x80_2) = true := oC_ c66
            clear c66
            by_cases c67 : x80_2 < (t505.length : Int)
            ·rw [if_pos c67] at H
             have c67b0 : decide (x80_2 < (t505.length : Int)) = true := oC_ c67
             clear c67
             have H' := A_ H
             clear H
             have p508 : 0 ≤ (x80_2 : Int) := oB_ (by first | (with_reducible assumption) | assumption)
             have q508 : x80_2 < (t505.length : Int) := oB_ (by first | (with_reducible assumption) | assumption)
             obtain ⟨ad508, A508_0, c508_0, e508, hx508_0, hl508_0, hi508_0⟩ := at_L1 (Kd.S_reads' HO_78.out).2.2 x80_2 p508 q508
             cases e508
             obtain ⟨ce508, hce508, hMe508, hcc508⟩ := Kd.S_get HO_78.out [] x80_2 p508 (by first | exact q508 | exact oB_ (by first | (with_reducible assumption) | assumption) | (have e_ := (Kd.S_reads' HO_78.out).1; omega))
             obtain ⟨ve508_0, rfl, ge508_0⟩ := hMe508
             have hv508_0 := hcc508 0 _ rfl
             rw [Nat.add_zero, show ((Kd.slice 3 (Kd.int .i64))).sz = 1 from rfl, Nat.mul_one] at hv508_0
             replace hv508_0 := Option.some.inj (hv508_0.symm.trans hx508_0)
             rw [hv508_0] at ge508_0
             have HL508_0 := A_ (show Kd.R (Kd.int .i64) 3 _ _ _ _ (rd_L1 t505 x80_2) from ge508_0)
             clear hv508_0 ge508_0
             clear hcc508 hce508
             have HR508_0 := A_ hi508_0
             have HC508_0 := A_ hl508_0
             clear hi508_0 hl508_0
             replace p508 := eq_true p508
             replace q508 := eq_true q508
             go_wp2
             go_loopg [87] k2 (fun kq v87 w' => ∃ (x11_3 : List Int) (x87_3 : Int), v87 = .int .i64 x87_3 ∧ Aside0 (Z8.l2 kq l1 x6_1 t496 t499 x11_3 t505 x80_2 t505 (t505.length : Int) x80_2 (rd_L1 t505 x80_2) ((rd_L1 t505 x80_2).length : Int) x87_3 = some (r1, r2)) ∧ Aside0 (kq ≤ k2) ∧ Aside0 (Kd.R (Kd.int .i64) 3 w' w.heap.size (fun k_ => some k_ ≠ (v497 : Value).ownBlock ∧ some k_ ≠ (v500 : Value).ownBlock ∧ some k_ ≠ (v503 : Value).ownBlock) v482 x6_1) ∧ Aside0 (Kd.R (Kd.int .i64) 3 w' w.heap.size (fun k_ => some k_ ≠ (v482 : Value).ownBlock ∧ some k_ ≠ (v500 : Value).ownBlock ∧ some k_ ≠ (v503 : Value).ownBlock) v497 t496) ∧ Aside0 (Kd.R (Kd.int .i64) 3 w' w.heap.size (fun k_ => some k_ ≠ (v482 : Value).ownBlock ∧ some k_ ≠ (v497 : Value).ownBlock ∧ some k_ ≠ (v503 : Value).ownBlock) v500 t499) ∧ Aside0 (Kd.R (Kd.int .i64) 3 w' w.heap.size (fun k_ => some k_ ≠ (v482 : Value).ownBlock ∧ some k_ ≠ (v497 : Value).ownBlock ∧ some k_ ≠ (v500 : Value).ownBlock) v503 x11_3) ∧ Aside0 (Kd.S (Kd.slice 3 (Kd.int .i64)) 22 w' w.heap.size (fun k_ => some k_ ≠ (v482 : Value).ownBlock ∧ some k_ ≠ (v497 : Value).ownBlock ∧ some k_ ≠ (v500 : Value).ownBlock ∧ some k_ ≠ (v503 : Value).ownBlock) (.slice (some ad508) t505.length co64) t505) ∧ Aside0 (Kd.S (Kd.slice 3 (Kd.int .i64)) 22 w' w.heap.size (fun k_ => some k_ ≠ (v482 : Value).ownBlock ∧ some k_ ≠ (v497 : Value).ownBlock ∧ some k_ ≠ (v500 : Value).ownBlock ∧ some k_ ≠ (v503 : Value).ownBlock) (.slice (some ad508) t505.length co64) t505) ∧ Aside0 (w'.heap[gb479]? = some (.cells #[(.slice A0_0 l0_0.length c0_0), (.slice A0_1 l0_1.length c0_1)] 27 (0, 0))) ∧ Aside0 (Kd.R (Kd.int .i64) 3 w' w.heap.size (fun k_ => some k_ ≠ (v503 : Value).ownBlock) (.slice A508_0 (rd_L1 t505 x80_2).length c508_0) (rd_L1 t505 x80_2)) ∧ Aside0 (Below w.heap.size w w'))
             case atStart => exact ⟨(x11_2), (0), (by first | rfl | (simp; done) | (simp [*]; done)), H', ⟨nA_ _⟩, ⟨by (with_reducible repeat (first | apply rA_ | apply rB_ | apply rC_)); exact HO_6.out⟩, ⟨by (with_reducible repeat (first | apply rA_ | apply rB_ | apply rC_)); exact HO_9.out⟩, ⟨by (with_reducible repeat (first | apply rA_ | apply rB_ | apply rC_)); exact HO_10.out⟩, ⟨by (with_reducible repeat (first | apply rA_ | apply rB_ | apply rC_)); exact HO_11.out⟩, ⟨by (with_reducible repeat (first | apply Kd.S_alloc | apply Kd.S_drewN | apply Kd.S_drew)); exact HO_12.out⟩, ⟨by (with_reducible repeat (first | apply Kd.S_alloc | apply Kd.S_drewN | apply Kd.S_drew)); exact HO_78.out⟩, ⟨by (with_reducible repeat (first | refine kA_ ?_ _ | refine kB_ ?_ | refine kC_ ?_ _)); exact BK479.out⟩, ⟨by (with_reducible repeat (first | apply rA_ | apply rB_ | apply rC_)); exact Kd.R_mono HL508_0.out (fun _ hk => hk.1.2.2.2)⟩, ⟨by repeat (first | (with_reducible first | exact HB.out | apply bA_ | apply bB_ | apply bC_ | refine bD_ ?_ GE479.out) | exact HB.out)⟩⟩
             case round =>
              clear H'
              (try clear c1); (try clear p1); (try clear q1); (try clear hx1); (try clear qi1); (try clear c2); (try clear p2); (try clear q2); (try clear hx2); (try clear qi2); (try clear hf2); (try clear c4); (try clear p4); (try clear q4); (try clear hx4); (try clear qi4); (try clear hf4); (try clear c5); (try clear c5b0); (try clear c5b1); (try clear p5); (try clear q5); (try clear hx5); (try clear c6); (try clear p6); (try clear c10); (try clear c11); (try clear c11b0); (try clear c12); (try clear c12b0); (try clear c13); (try clear c13b0); (try clear c14); (try clear c15); (try clear c15b0); (try clear c15b1); (try clear c16); (try clear c16b0); (try clear c16b1); (try clear p17); (try clear q17); (try clear hx17); (try clear qi17); (try clear hf17); (try clear c21); (try clear c21b0); (try clear c22); (try clear c22b0); (try clear c23); (try clear c23b0); (try clear c23b1); (try clear c24); (try clear c24b0); (try clear c24b1); (try clear p25); (try clear q25); (try clear hx25); (try clear qi25); (try clear hf25); (try clear c26); (try clear c26b0); (try clear c27); (try clear c27b0); (try clear c27b1); (try clear c28); (try clear c28b0); (try clear c28b1); (try clear p29); (try clear q29); (try clear hx29); (try clear qi29); (try clear hf29); (try clear c42); (try clear c42b0); (try clear c43); (try clear c43b0); (try clear c43b1); (try clear c44); (try clear c44b0); (try clear c44b1); (try clear p45); (try clear q45); (try clear hx45); (try clear qi45); (try clear hf45); (try clear p48); (try clear q48); (try clear hx48); (try clear qi48); (try clear p49); (try clear q49); (try clear hx49); (try clear qi49); (try clear c50); (try clear p50); (try clear q50); (try clear hx50); (try clear c53); (try clear c53b0); (try clear c53b1); (try clear c54); (try clear c54b0); (try clear c54b1); (try clear p64); (try clear c65); (try clear c65b0); (try clear c66); (try clear c66b0); (try clear c67); (try clear c67b0); (try clear hcz30_0); (try clear hcz30_1); (try clear hcz34_0); (try clear hcz34_1); (try clear hcz37_0); (try clear hcz37_1); (try clear hcz41_0); (try clear hcz41_1); (try clear hcz46_0); (try clear hcz46_1); (try clear hcz50_0); (try clear hcz50_1); (try clear hcz56_0); (try clear hcz56_1); (try clear hcz58_0); (try clear hcz58_1); (try clear hcz62_0); (try clear hcz62_1); (try clear hcz7_0); (try clear hcz7_1); (try clear hfz30_0); (try clear hfz30_1); (try clear hfz34_0); (try clear hfz34_1); (try clear hfz37_0); (try clear hfz37_1); (try clear hfz41_0); (try clear hfz41_1); (try clear hfz46_0); (try clear hfz46_1); (try clear hfz50_0); (try clear hfz50_1); (try clear hfz56_0); (try clear hfz56_1); (try clear hfz58_0); (try clear hfz58_1); (try clear hfz62_0); (try clear hfz62_1); (try clear hfz7_0); (try clear hfz7_1); (try clear hx17_0); (try clear hx25_0); (try clear hx29_0); (try clear hx45_0); (try clear hx484_0); (try clear hx485_0); (try clear hx487_0); (try clear hx488_0); (try clear hx490_0); (try clear hx491_0); (try clear hx493_0); (try clear hx494_0); (try clear hx508_0); (try clear p1); (try clear p17); (try clear p2); (try clear p25); (try clear p29); (try clear p4); (try clear p45); (try clear p48); (try clear p484); (try clear p485); (try clear p487); (try clear p488); (try clear p49); (try clear p490); (try clear p491); (try clear p493); (try clear p494); (try clear p508); (try clear p6); (try clear p64); (try clear q1); (try clear q17); (try clear q2); (try clear q25); (try clear q29); (try clear q4); (try clear q45); (try clear q48); (try clear q484); (try clear q485); (try clear q487); (try clear q488); (try clear q49); (try clear q490); (try clear q491); (try clear q493); (try clear q494); (try clear q508)
              obtain ⟨x11_3, x87_3, rfl, HA, HK3, HO_6, HO_9, HO_10, HO_11, HO_12, HO_78, BK479, HLR, HB⟩ := hrel
              clear HR508_0
              have HR508_0 := A_ (Kd.R_reads' HLR.out).2.2
              cases gk with
              | zero => exact absurd HA.out (by simp [Z8.l2])
              | succ k3 =>
               have H := HA.out
               clear HA
               simp only [Z8.l2] at H
               by_cases c68 : x87_3 < ((rd_L1 t505 x80_2).length : Int)
               ·rw [if_pos c68] at H
                have c68b0 : decide (x87_3 < ((rd_L1 t505 x80_2).length : Int)) = true := oC_ c68
                clear c68
                by_cases c69 : 0 ≤ x87_3
                ·rw [if_pos c69] at H
                 have c69b0 : decide (0 ≤ x87_3) = true := oC_ c69
                 clear c69
                 by_cases c70 : x87_3 < ((rd_L1 t505 x80_2).length : Int)
                 ·rw [if_pos c70] at H
                  have c70b0 : decide (x87_3 < ((rd_L1 t505 x80_2).length : Int)) = true := oC_ c70
                  clear c70
                  by_cases c71 : 0 ≤ (rd (rd_L1 t505 x80_2) x87_3)
                  ·rw [if_pos c71] at H
                   have c71b0 : decide (0 ≤ (rd (rd_L1 t505 x80_2) x87_3)) = true := oC_ c71
                   clear c71
                   by_cases c72 : (rd (rd_L1 t505 x80_2) x87_3) < (x11_3.length : Int)
                   ·rw [if_pos c72] at H
                    have c72b0 : decide ((rd (rd_L1 t505 x80_2) x87_3) < (x11_3.length : Int)) = true := oC_ c72
                    clear c72
                    obtain ⟨y510, hy510⟩ : ∃ y_ : List Int, y_ = (x11_3.set ((rd (rd_L1 t505 x80_2) x87_3) : Int).toNat x80_2) := ⟨_, rfl⟩
                    replace H : (Z8.l2 k3 l1 x6_1 t496 t499 y510 t505 x80_2 t505 (t505.length : Int) x80_2 (rd_L1 t505 x80_2) ((rd_L1 t505 x80_2).length : Int) (wrap64 (x87_3 + 1))) = some (r1, r2) := by first | (rw [hy510]; with_reducible exact H) | (have H2_ := (oA_ _ _).symm.trans H; rw [hy510]; with_reducible exact H2_) | (have H2_ := (oA_ _ _).symm.trans H; with_reducible exact H2_) | with_reducible exact H | (rw [hy510]; exact H) | exact H
                    have Ny510 := A_ hy510
                    clear hy510
                    have H' := A_ H
                    clear H
                    have p509 : 0 ≤ (x87_3 : Int) := oB_ (by first | (with_reducible assumption) | assumption)
                    have q509 : x87_3 < ((rd_L1 t505 x80_2).length : Int) := oB_ (by first | (with_reducible assumption) | assumption)
                    obtain ⟨ad509, e509, hx509_0⟩ := Kd.at_int HR508_0.out x87_3 p509 q509
                    cases e509
                    (try replace hx509_0 := (HB.out.cell (World.block_lt_of_cell? w _ hx509_0)).trans hx509_0)
                    replace p509 := eq_true p509
                    replace q509 := eq_true q509
                    have p73 : 0 ≤ ((rd (rd_L1 t505 x80_2) x87_3) : Int) := oB_ (by first | (with_reducible assumption) | assumption)
                    have q73 : ((rd (rd_L1 t505 x80_2) x87_3) : Int) < ((x11_3.length : Int) : Int) := oB_ (by first | (with_reducible assumption) | assumption)
                    obtain ⟨go73, co73, eo73, gb73, gl73, cl73, HG73⟩ := Kd.R_form HO_11.out (by omega)
                    (first | cases eo73 | (injection eo73 with ea_ en_ ec_; (first | subst ea_ | (injection ea_ with ea_; subst ea_)); subst ec_; clear en_))
                    have GB73 := A_ gb73
                    have GG73 := A_ HG73
                    clear gb73 gl73 HG73
                    obtain ⟨hx73_0, hf73_0⟩ := Kd.R_celln 0 HO_11.out ((rd (rd_L1 t505 x80_2) x87_3) : Int) p73 q73
                    replace p73 := eq_true p73
                    replace q73 := eq_true q73
                    have HP74 := Kd.R_putg HO_11.out ((rd (rd_L1 t505 x80_2) x87_3) : Int) x80_2
                    go_wp2_with (first | ((with_reducible refine gate_store (t := 3) (p := 94) rfl ?_); refine store_event (t := 3) (p := 94) (v := ?vo_w75) (w1 := (wr.setCell ⟨go73, ((rd (rd_L1 t505 x80_2) x87_3) : Int).toNat, none⟩ (.int .i64 x80_2))) ?hg ?ho ?hn ?hr ?_; (case ho => rfl); (case hg => rfl); (case hn => rfl); (case hr => first | (go_simp; done) | (go_simp; rfl)); intro w75 hw; have hg : wr.grownBy w75 (some go73) := (by rw [hw]; exact HP74.2); have hp_ : Kd.R (Kd.int .i64) 3 w75 w.heap.size (fun k_ => some k_ ≠ (v482 : Value).ownBlock ∧ some k_ ≠ (v497 : Value).ownBlock ∧ some k_ ≠ (v500 : Value).ownBlock) (.slice (some ⟨go73, 0, none⟩) x11_3.length co73) y510 := (by rw [hw, Ny510.out]; exact HP74.1); clear HP74; have n0_ := A_ (Kd.R_after (v := (.slice (some ⟨go73, 0, none⟩) x11_3.length co73)) (v1 := (.slice (some ⟨go73, 0, none⟩) x11_3.length co73)) (ok := (fun k_ => some k_ ≠ (v497 : Value).ownBlock ∧ some k_ ≠ (v500 : Value).ownBlock)) (by (with_reducible repeat (first | apply rA_ | apply rB_ | apply rC_)); exact Kd.R_mono HO_6.out (fun _ hk => ⟨⟨hk.1, hk.2.1⟩, hk.2.2⟩)) hg (.inl rfl)); have n1_ := A_ (Kd.R_after (v := (.slice (some ⟨go73, 0, none⟩) x11_3.length co73)) (v1 := (.slice (some ⟨go73, 0, none⟩) x11_3.length co73)) (ok := (fun k_ => some k_ ≠ (v482 : Value).ownBlock ∧ some k_ ≠ (v500 : Value).ownBlock)) (by (with_reducible repeat (first | apply rA_ | apply rB_ | apply rC_)); exact Kd.R_mono HO_9.out (fun _ hk => ⟨⟨hk.1, hk.2.1⟩, hk.2.2⟩)) hg (.inl rfl)); have n2_ := A_ (Kd.R_after (v := (.slice (some ⟨go73, 0, none⟩) x11_3.length co73)) (v1 := (.slice (some ⟨go73, 0, none⟩) x11_3.length co73)) (ok := (fun k_ => some k_ ≠ (v482 : Value).ownBlock ∧ some k_ ≠ (v497 : Value).ownBlock)) (by (with_reducible repeat (first | apply rA_ | apply rB_ | apply rC_)); exact Kd.R_mono HO_10.out (fun _ hk => ⟨⟨hk.1, hk.2.1⟩, hk.2.2⟩)) hg (.inl rfl)); have n3_ := A_ (hp_); have n4_ := A_ (Kd.S_after (v := (.slice (some ⟨go73, 0, none⟩) x11_3.length co73)) (v1 := (.slice (some ⟨go73, 0, none⟩) x11_3.length co73)) (ok := (fun k_ => some k_ ≠ (v482 : Value).ownBlock ∧ some k_ ≠ (v497 : Value).ownBlock ∧ some k_ ≠ (v500 : Value).ownBlock)) (by (with_reducible repeat (first | apply Kd.S_alloc | apply Kd.S_drewN | apply Kd.S_drew)); exact Kd.S_mono HO_12.out (fun _ hk => ⟨⟨hk.1, ⟨hk.2.1, hk.2.2.1⟩⟩, hk.2.2.2⟩)) hg (.inl rfl)); have n5_ := A_ (Kd.S_after (v := (.slice (some ⟨go73, 0, none⟩) x11_3.length co73)) (v1 := (.slice (some ⟨go73, 0, none⟩) x11_3.length co73)) (ok := (fun k_ => some k_ ≠ (v482 : Value).ownBlock ∧ some k_ ≠ (v497 : Value).ownBlock ∧ some k_ ≠ (v500 : Value).ownBlock)) (by (with_reducible repeat (first | apply Kd.S_alloc | apply Kd.S_drewN | apply Kd.S_drew)); exact Kd.S_mono HO_78.out (fun _ hk => ⟨⟨hk.1, ⟨hk.2.1, hk.2.2.1⟩⟩, hk.2.2.2⟩)) hg (.inl rfl)); have n6_ := A_ (blk_grown (g := gb479) (o := .cells #[.slice A0_0 l0_0.length c0_0, .slice A0_1 l0_1.length c0_1] 27 (0, 0)) (by (with_reducible repeat (first | refine kA_ ?_ _ | refine kB_ ?_ | refine kC_ ?_ _)); exact BK479.out) hg (Kd.R_ne HO_11.out BK479.out (by decide))); have n7_ := A_ ((by rw [hw]; exact bD_ (HB.out) GB73.out : Below w.heap.size w w75)); have nL_ := A_ (Kd.R_grown HLR.out hg (fun k_ hk => by simpa [Value.ownBlock] using hk)); clear HLR; have HLR := nL_; clear nL_; clear HO_6; clear HO_9; clear HO_10; clear HO_11; clear HO_12; clear HO_78; clear BK479; clear HB; have HO_6 := n0_; have HO_9 := n1_; have HO_10 := n2_; have HO_11 := n3_; have HO_12 := n4_; have HO_78 := n5_; have BK479 := n6_; have HB := n7_; clear n0_ n1_ n2_ n3_ n4_ n5_ n6_ n7_; clear hg hw hp_))
                    go_roundg k3
                    case measure => have := HK1.out; have := HK2.out; have := HK3.out; omega
                    case rel => exact ⟨(y510), (wrap64 (x87_3 + 1)), (by first | rfl | (simp; done) | (simp [*]; done)), H', ⟨by have := HK1.out; have := HK2.out; have := HK3.out; omega⟩, ⟨by (with_reducible repeat (first | apply rA_ | apply rB_ | apply rC_)); exact Kd.R_mono HO_6.out (fun _ hk => ⟨hk.1.1, ⟨hk.1.2, hk.2⟩⟩)⟩, ⟨by (with_reducible repeat (first | apply rA_ | apply rB_ | apply rC_)); exact Kd.R_mono HO_9.out (fun _ hk => ⟨hk.1.1, ⟨hk.1.2, hk.2⟩⟩)⟩, ⟨by (with_reducible repeat (first | apply rA_ | apply rB_ | apply rC_)); exact Kd.R_mono HO_10.out (fun _ hk => ⟨hk.1.1, ⟨hk.1.2, hk.2⟩⟩)⟩, ⟨by (with_reducible repeat (first | apply rA_ | apply rB_ | apply rC_)); exact HO_11.out⟩, ⟨by (with_reducible repeat (first | apply Kd.S_alloc | apply Kd.S_drewN | apply Kd.S_drew)); exact Kd.S_mono HO_12.out (fun _ hk => ⟨hk.1.1, ⟨hk.1.2.1, ⟨hk.1.2.2, hk.2⟩⟩⟩)⟩, ⟨by (with_reducible repeat (first | apply Kd.S_alloc | apply Kd.S_drewN | apply Kd.S_drew)); exact Kd.S_mono HO_78.out (fun _ hk => ⟨hk.1.1, ⟨hk.1.2.1, ⟨hk.1.2.2, hk.2⟩⟩⟩)⟩, ⟨by (with_reducible repeat (first | refine kA_ ?_ _ | refine kB_ ?_ | refine kC_ ?_ _)); exact BK479.out⟩, ⟨by (with_reducible repeat (first | apply rA_ | apply rB_ | apply rC_)); exact HLR.out⟩, ⟨by repeat (first | (with_reducible first | exact HB.out | apply bA_ | apply bB_ | apply bC_ | refine bD_ ?_ GE479.out) | exact HB.out)⟩⟩
                   ·rw [if_neg c72] at H
                    exact absurd H (by simp)
                  ·rw [if_neg c71] at H
                   exact absurd H (by simp)
                 ·rw [if_neg c70] at H
                  exact absurd H (by simp)
                ·rw [if_neg c69] at H
                 exact absurd H (by simp)
               ·rw [if_neg c68] at H
                have c68b0 : decide (x87_3 < ((rd_L1 t505 x80_2).length : Int)) = false := oD_ c68
                clear c68
                have H' := A_ H
                clear H
                go_wp2
                go_roundg k3
                case measure => have := HK1.out; have := HK2.out; have := HK3.out; omega
                case rel => exact ⟨(x11_3), (wrap64 (x80_2 + 1)), (by first | rfl | (simp; done) | (simp [*]; done)), H', ⟨by have := HK1.out; have := HK2.out; have := HK3.out; omega⟩, ⟨by (with_reducible repeat (first | apply rA_ | apply rB_ | apply rC_)); exact HO_6.out⟩, ⟨by (with_reducible repeat (first | apply rA_ | apply rB_ | apply rC_)); exact HO_9.out⟩, ⟨by (with_reducible repeat (first | apply rA_ | apply rB_ | apply rC_)); exact HO_10.out⟩, ⟨by (with_reducible repeat (first | apply rA_ | apply rB_ | apply rC_)); exact HO_11.out⟩, ⟨by (with_reducible repeat (first | apply Kd.S_alloc | apply Kd.S_drewN | apply Kd.S_drew)); exact HO_12.out⟩, ⟨by (with_reducible repeat (first | apply Kd.S_alloc | apply Kd.S_drewN | apply Kd.S_drew)); exact HO_78.out⟩, ⟨by (with_reducible repeat (first | refine kA_ ?_ _ | refine kB_ ?_ | refine kC_ ?_ _)); exact BK479.out⟩, ⟨by repeat (first | (with_reducible first | exact HB.out | apply bA_ | apply bB_ | apply bC_ | refine bD_ ?_ GE479.out) | exact HB.out)⟩⟩
            ·rw [if_neg c67] at H
             exact absurd H (by simp)
           ·rw [if_neg c66] at H
            exact absurd H (by simp)
          ·rw [if_neg c65] at H
           have c65b0 : decide (x80_2 < (t505.length : Int)) = false := oD_ c65
           clear c65
           have H' := A_ H
           clear H
           go_wp2
           go_loopg [99] k2 (fun kq v99 w' => ∃ (x6_3 : List Int) (x99_3 : Int), v99 = .int .i64 x99_3 ∧ Aside0 (Z8.l3 kq l1 x6_3 t496 t499 x11_2 t505 (t505.length : Int) x99_3 = some (r1, r2)) ∧ Aside0 (kq ≤ k2) ∧ Aside0 (Kd.R (Kd.int .i64) 3 w' w.heap.size (fun k_ => some k_ ≠ (v497 : Value).ownBlock ∧ some k_ ≠ (v500 : Value).ownBlock ∧ some k_ ≠ (v503 : Value).ownBlock) v482 x6_3) ∧ Aside0 (Kd.R (Kd.int .i64) 3 w' w.heap.size (fun k_ => some k_ ≠ (v482 : Value).ownBlock ∧ some k_ ≠ (v500 : Value).ownBlock ∧ some k_ ≠ (v503 : Value).ownBlock) v497 t496) ∧ Aside0 (Kd.R (Kd.int .i64) 3 w' w.heap.size (fun k_ => some k_ ≠ (v482 : Value).ownBlock ∧ some k_ ≠ (v497 : Value).ownBlock ∧ some k_ ≠ (v503 : Value).ownBlock) v500 t499) ∧ Aside0 (Kd.R (Kd.int .i64) 3 w' w.heap.size (fun k_ => some k_ ≠ (v482 : Value).ownBlock ∧ some k_ ≠ (v497 : Value).ownBlock ∧ some k_ ≠ (v500 : Value).ownBlock) v503 x11_2) ∧ Aside0 (Kd.S (Kd.slice 3 (Kd.int .i64)) 22 w' w.heap.size (fun k_ => some k_ ≠ (v482 : Value).ownBlock ∧ some k_ ≠ (v497 : Value).ownBlock ∧ some k_ ≠ (v500 : Value).ownBlock ∧ some k_ ≠ (v503 : Value).ownBlock) (.slice Ao64 t505.length co64) t505) ∧ Aside0 (w'.heap[gb479]? = some (.cells #[(.slice A0_0 l0_0.length c0_0), (.slice A0_1 l0_1.length c0_1)] 27 (0, 0))) ∧ Aside0 (Below w.heap.size w w'))
           case atStart => exact ⟨(x6_1), (0), (by first | rfl | (simp; done) | (simp [*]; done)), H', ⟨nA_ _⟩, ⟨by (with_reducible repeat (first | apply rA_ | apply rB_ | apply rC_)); exact HO_6.out⟩, ⟨by (with_reducible repeat (first | apply rA_ | apply rB_ | apply rC_)); exact HO_9.out⟩, ⟨by (with_reducible repeat (first | apply rA_ | apply rB_ | apply rC_)); exact HO_10.out⟩, ⟨by (with_reducible repeat (first | apply rA_ | apply rB_ | apply rC_)); exact HO_11.out⟩, ⟨by (with_reducible repeat (first | apply Kd.S_alloc | apply Kd.S_drewN | apply Kd.S_drew)); exact HO_12.out⟩, ⟨by (with_reducible repeat (first | refine kA_ ?_ _ | refine kB_ ?_ | refine kC_ ?_ _)); exact BK479.out⟩, ⟨by repeat (first | (with_reducible first | exact HB.out | apply bA_ | apply bB_ | apply bC_ | refine bD_ ?_ GE479.out) | exact HB.out)⟩⟩
           case round =>
            clear H'
            (try clear c1); (try clear p1); (try clear q1); (try clear hx1); (try clear qi1); (try clear c2); (try clear p2); (try clear q2); (try clear hx2); (try clear qi2); (try clear hf2); (try clear c4); (try clear p4); (try clear q4); (try clear hx4); (try clear qi4); (try clear hf4); (try clear c5); (try clear c5b0); (try clear c5b1); (try clear p5); (try clear q5); (try clear hx5); (try clear c6); (try clear p6); (try clear c7); (try clear p7); (try clear q7); (try clear hx7); (try clear hf7); (try clear c10); (try clear c11); (try clear c11b0); (try clear c12); (try clear c12b0); (try clear c13); (try clear c13b0); (try clear c14); (try clear c15); (try clear c15b0); (try clear c15b1); (try clear c16); (try clear c16b0); (try clear c16b1); (try clear p17); (try clear q17); (try clear hx17); (try clear qi17); (try clear hf17); (try clear c21); (try clear c21b0); (try clear c22); (try clear c22b0); (try clear c23); (try clear c23b0); (try clear c23b1); (try clear c24); (try clear c24b0); (try clear c24b1); (try clear p25); (try clear q25); (try clear hx25); (try clear qi25); (try clear hf25); (try clear c26); (try clear c26b0); (try clear c27); (try clear c27b0); (try clear c27b1); (try clear c28); (try clear c28b0); (try clear c28b1); (try clear p29); (try clear q29); (try clear hx29); (try clear qi29); (try clear hf29); (try clear c42); (try clear c42b0); (try clear c43); (try clear c43b0); (try clear c43b1); (try clear c44); (try clear c44b0); (try clear c44b1); (try clear p45); (try clear q45); (try clear hx45); (try clear qi45); (try clear hf45); (try clear p48); (try clear q48); (try clear hx48); (try clear qi48); (try clear p49); (try clear q49); (try clear hx49); (try clear qi49); (try clear c50); (try clear p50); (try clear q50); (try clear hx50); (try clear c53); (try clear c53b0); (try clear c53b1); (try clear c54); (try clear c54b0); (try clear c54b1); (try clear p64); (try clear c65); (try clear c65b0); (try clear c66); (try clear c66b0); (try clear c67); (try clear c67b0); (try clear c68); (try clear c68b0); (try clear c69); (try clear c69b0); (try clear c70); (try clear c70b0); (try clear c71); (try clear c71b0); (try clear c72); (try clear c72b0); (try clear p73); (try clear q73); (try clear hx73); (try clear hf73); (try clear hcz30_0); (try clear hcz30_1); (try clear hcz34_0); (try clear hcz34_1); (try clear hcz37_0); (try clear hcz37_1); (try clear hcz41_0); (try clear hcz41_1); (try clear hcz46_0); (try clear hcz46_1); (try clear hcz50_0); (try clear hcz50_1); (try clear hcz56_0); (try clear hcz56_1); (try clear hcz58_0); (try clear hcz58_1); (try clear hcz62_0); (try clear hcz62_1); (try clear hcz7_0); (try clear hcz7_1); (try clear hfz30_0); (try clear hfz30_1); (try clear hfz34_0); (try clear hfz34_1); (try clear hfz37_0); (try clear hfz37_1); (try clear hfz41_0); (try clear hfz41_1); (try clear hfz46_0); (try clear hfz46_1); (try clear hfz50_0); (try clear hfz50_1); (try clear hfz56_0); (try clear hfz56_1); (try clear hfz58_0); (try clear hfz58_1); (try clear hfz62_0); (try clear hfz62_1); (try clear hfz7_0); (try clear hfz7_1); (try clear hx17_0); (try clear hx25_0); (try clear hx29_0); (try clear hx45_0); (try clear hx484_0); (try clear hx485_0); (try clear hx487_0); (try clear hx488_0); (try clear hx490_0); (try clear hx491_0); (try clear hx493_0); (try clear hx494_0); (try clear hx508_0); (try clear hx509_0); (try clear hx73_0); (try clear p1); (try clear p17); (try clear p2); (try clear p25); (try clear p29); (try clear p4); (try clear p45); (try clear p48); (try clear p484); (try clear p485); (try clear p487); (try clear p488); (try clear p49); (try clear p490); (try clear p491); (try clear p493); (try clear p494); (try clear p5); (try clear p50); (try clear p508); (try clear p509); (try clear p6); (try clear p64); (try clear p73); (try clear q1); (try clear q17); (try clear q2); (try clear q25); (try clear q29); (try clear q4); (try clear q45); (try clear q48); (try clear q484); (try clear q485); (try clear q487); (try clear q488); (try clear q49); (try clear q490); (try clear q491); (try clear q493); (try clear q494); (try clear q5); (try clear q50); (try clear q508); (try clear q509); (try clear q73)
            obtain ⟨x6_3, x99_3, rfl, HA, HK3, HO_6, HO_9, HO_10, HO_11, HO_97, BK479, HB⟩ := hrel
            cases gk with
            | zero => exact absurd HA.out (by simp [Z8.l3])
            | succ k3 =>
             have H := HA.out
             clear HA
             simp only [Z8.l3] at H
             by_cases c76 : x99_3 < (t505.length : Int)
             ·rw [if_pos c76] at H
              have c76b0 : decide (x99_3 < (t505.length : Int)) = true := oC_ c76
              clear c76
              by_cases c77 : 0 ≤ x99_3
              ·rw [if_pos c77] at H
               have c77b0 : decide (0 ≤ x99_3) = true := oC_ c77
               clear c77
               by_cases c78 : x99_3 < (t505.length : Int)
               ·rw [if_pos c78] at H
                have c78b0 : decide (x99_3 < (t505.length : Int)) = true := oC_ c78
                clear c78
                have H' := A_ H
                clear H
                have p511 : 0 ≤ (x99_3 : Int) := oB_ (by first | (with_reducible assumption) | assumption)
                have q511 : x99_3 < (t505.length : Int) := oB_ (by first | (with_reducible assumption) | assumption)
                obtain ⟨ad511, A511_0, c511_0, e511, hx511_0, hl511_0, hi511_0⟩ := at_L1 (Kd.S_reads' HO_97.out).2.2 x99_3 p511 q511
                cases e511
                obtain ⟨ce511, hce511, hMe511, hcc511⟩ := Kd.S_get HO_97.out [] x99_3 p511 (by first | exact q511 | exact oB_ (by first | (with_reducible assumption) | assumption) | (have e_ := (Kd.S_reads' HO_97.out).1; omega))
                obtain ⟨ve511_0, rfl, ge511_0⟩ := hMe511
                have hv511_0 := hcc511 0 _ rfl
                rw [Nat.add_zero, show ((Kd.slice 3 (Kd.int .i64))).sz = 1 from rfl, Nat.mul_one] at hv511_0
                replace hv511_0 := Option.some.inj (hv511_0.symm.trans hx511_0)
                rw [hv511_0] at ge511_0
                have HL511_0 := A_ (show Kd.R (Kd.int .i64) 3 _ _ _ _ (rd_L1 t505 x99_3) from ge511_0)
                clear hv511_0 ge511_0
                clear hcc511 hce511
                have HR511_0 := A_ hi511_0
                have HC511_0 := A_ hl511_0
                clear hi511_0 hl511_0
                replace p511 := eq_true p511
                replace q511 := eq_true q511
                go_wp2
                go_loopg [19, 106] k3 (fun kq v19 v106 w' => ∃ (x19_4 : Bool) (x106_4 : Int), v19 = .bool x19_4 ∧ v106 = .int .i64 x106_4 ∧ Aside0 (Z8.l4 kq l1 x6_3 t496 t499 x11_2 x99_3 x19_4 t505 (t505.length : Int) x99_3 (rd_L1 t505 x99_3) ((rd_L1 t505 x99_3).length : Int) x106_4 = some (r1, r2)) ∧ Aside0 (kq ≤ k3) ∧ Aside0 (Kd.R (Kd.int .i64) 3 w' w.heap.size (fun k_ => some k_ ≠ (v497 : Value).ownBlock ∧ some k_ ≠ (v500 : Value).ownBlock ∧ some k_ ≠ (v503 : Value).ownBlock) v482 x6_3) ∧ Aside0 (Kd.R (Kd.int .i64) 3 w' w.heap.size (fun k_ => some k_ ≠ (v482 : Value).ownBlock ∧ some k_ ≠ (v500 : Value).ownBlock ∧ some k_ ≠ (v503 : Value).ownBlock) v497 t496) ∧ Aside0 (Kd.R (Kd.int .i64) 3 w' w.heap.size (fun k_ => some k_ ≠ (v482 : Value).ownBlock ∧ some k_ ≠ (v497 : Value).ownBlock ∧ some k_ ≠ (v503 : Value).ownBlock) v500 t499) ∧ Aside0 (Kd.R (Kd.int .i64) 3 w' w.heap.size (fun k_ => some k_ ≠ (v482 : Value).ownBlock ∧ some k_ ≠ (v497 : Value).ownBlock ∧ some k_ ≠ (v500 : Value).ownBlock) v503 x11_2) ∧ Aside0 (Kd.S (Kd.slice 3 (Kd.int .i64)) 22 w' w.heap.size (fun k_ => some k_ ≠ (v482 : Value).ownBlock ∧ some k_ ≠ (v497 : Value).ownBlock ∧ some k_ ≠ (v500 : Value).ownBlock ∧ some k_ ≠ (v503 : Value).ownBlock) (.slice (some ad511) t505.length co64) t505) ∧ Aside0 (w'.heap[gb479]? = some (.cells #[(.slice A0_0 l0_0.length c0_0), (.slice A0_1 l0_1.length c0_1)] 27 (0, 0))) ∧ Aside0 (Kd.C (Kd.int .i64) w' A511_0 (rd_L1 t505 x99_3).length (rd_L1 t505 x99_3)) ∧ Aside0 (Below w.heap.size w w'))
                case atStart => exact ⟨(true), (0), (by first | rfl | (simp; done) | (simp [*]; done)), (by first | rfl | (simp; done) | (simp [*]; done)), H', ⟨nA_ _⟩, ⟨by (with_reducible repeat (first | apply rA_ | apply rB_ | apply rC_)); exact HO_6.out⟩, ⟨by (with_reducible repeat (first | apply rA_ | apply rB_ | apply rC_)); exact HO_9.out⟩, ⟨by (with_reducible repeat (first | apply rA_ | apply rB_ | apply rC_)); exact HO_10.out⟩, ⟨by (with_reducible repeat (first | apply rA_ | apply rB_ | apply rC_)); exact HO_11.out⟩, ⟨by (with_reducible repeat (first | apply Kd.S_alloc | apply Kd.S_drewN | apply Kd.S_drew)); exact HO_97.out⟩, ⟨by (with_reducible repeat (first | refine kA_ ?_ _ | refine kB_ ?_ | refine kC_ ?_ _)); exact BK479.out⟩, ⟨by repeat (first | (with_reducible exact HR511_0.out) | (with_reducible refine cA_ ?_ _) | (with_reducible refine cB_ ?_ _) | (with_reducible refine cC_ ?_) | exact HR511_0.out)⟩, ⟨by repeat (first | (with_reducible first | exact HB.out | apply bA_ | apply bB_ | apply bC_ | refine bD_ ?_ GE479.out) | exact HB.out)⟩⟩
                case round =>
                 clear H'
                 (try clear c1); (try clear p1); (try clear q1); (try clear hx1); (try clear qi1); (try clear c2); (try clear p2); (try clear q2); (try clear hx2); (try clear qi2); (try clear hf2); (try clear c4); (try clear p4); (try clear q4); (try clear hx4); (try clear qi4); (try clear hf4); (try clear c5); (try clear c5b0); (try clear c5b1); (try clear p5); (try clear q5); (try clear hx5); (try clear c6); (try clear p6); (try clear c7); (try clear p7); (try clear q7); (try clear hx7); (try clear hf7); (try clear c10); (try clear c11); (try clear c11b0); (try clear c12); (try clear c12b0); (try clear c13); (try clear c13b0); (try clear c14); (try clear c15); (try clear c15b0); (try clear c15b1); (try clear c16); (try clear c16b0); (try clear c16b1); (try clear p17); (try clear q17); (try clear hx17); (try clear qi17); (try clear hf17); (try clear c21); (try clear c21b0); (try clear c22); (try clear c22b0); (try clear c23); (try clear c23b0); (try clear c23b1); (try clear c24); (try clear c24b0); (try clear c24b1); (try clear p25); (try clear q25); (try clear hx25); (try clear qi25); (try clear hf25); (try clear c26); (try clear c26b0); (try clear c27); (try clear c27b0); (try clear c27b1); (try clear c28); (try clear c28b0); (try clear c28b1); (try clear p29); (try clear q29); (try clear hx29); (try clear qi29); (try clear hf29); (try clear c42); (try clear c42b0); (try clear c43); (try clear c43b0); (try clear c43b1); (try clear c44); (try clear c44b0); (try clear c44b1); (try clear p45); (try clear q45); (try clear hx45); (try clear qi45); (try clear hf45); (try clear p48); (try clear q48); (try clear hx48); (try clear qi48); (try clear p49); (try clear q49); (try clear hx49); (try clear qi49); (try clear c50); (try clear p50); (try clear q50); (try clear hx50); (try clear c51); (try clear p51); (try clear q51); (try clear hx51); (try clear c53); (try clear c53b0); (try clear c53b1); (try clear c54); (try clear c54b0); (try clear c54b1); (try clear p64); (try clear c65); (try clear c65b0); (try clear c66); (try clear c66b0); (try clear c67); (try clear c67b0); (try clear c68); (try clear c68b0); (try clear c69); (try clear c69b0); (try clear c70); (try clear c70b0); (try clear c71); (try clear c71b0); (try clear c72); (try clear c72b0); (try clear p73); (try clear q73); (try clear hx73); (try clear hf73); (try clear c76); (try clear c76b0); (try clear c77); (try clear c77b0); (try clear c78); (try clear c78b0); (try clear hcz30_0); (try clear hcz30_1); (try clear hcz34_0); (try clear hcz34_1); (try clear hcz37_0); (try clear hcz37_1); (try clear hcz41_0); (try clear hcz41_1); (try clear hcz46_0); (try clear hcz46_1); (try clear hcz50_0); (try clear hcz50_1); (try clear hcz56_0); (try clear hcz56_1); (try clear hcz58_0); (try clear hcz58_1); (try clear hcz62_0); (try clear hcz62_1); (try clear hcz7_0); (try clear hcz7_1); (try clear hfz30_0); (try clear hfz30_1); (try clear hfz34_0); (try clear hfz34_1); (try clear hfz37_0); (try clear hfz37_1); (try clear hfz41_0); (try clear hfz41_1); (try clear hfz46_0); (try clear hfz46_1); (try clear hfz50_0); (try clear hfz50_1); (try clear hfz56_0); (try clear hfz56_1); (try clear hfz58_0); (try clear hfz58_1); (try clear hfz62_0); (try clear hfz62_1); (try clear hfz7_0); (try clear hfz7_1); (try clear hx17_0); (try clear hx25_0); (try clear hx29_0); (try clear hx45_0); (try clear hx484_0); (try clear hx485_0); (try clear hx487_0); (try clear hx488_0); (try clear hx490_0); (try clear hx491_0); (try clear hx493_0); (try clear hx494_0); (try clear hx508_0); (try clear hx509_0); (try clear hx511_0); (try clear hx73_0); (try clear p1); (try clear p17); (try clear p2); (try clear p25); (try clear p29); (try clear p4); (try clear p45); (try clear p48); (try clear p484); (try clear p485); (try clear p487); (try clear p488); (try clear p49); (try clear p490); (try clear p491); (try clear p493); (try clear p494); (try clear p5); (try clear p50); (try clear p508); (try clear p509); (try clear p511); (try clear p6); (try clear p64); (try clear p7); (try clear p73); (try clear q1); (try clear q17); (try clear q2); (try clear q25); (try clear q29); (try clear q4); (try clear q45); (try clear q48); (try clear q484); (try clear q485); (try clear q487); (try clear q488); (try clear q49); (try clear q490); (try clear q491); (try clear q493); (try clear q494); (try clear q5); (try clear q50); (try clear q508); (try clear q509); (try clear q511); (try clear q7); (try clear q73)
                 obtain ⟨x19_4, x106_4, rfl, rfl, HA, HK4, HO_6, HO_9, HO_10, HO_11, HO_97, BK479, HR511_0, HB⟩ := hrel
                 cases gk with
                 | zero => exact absurd HA.out (by simp [Z8.l4])
                 | succ k4 =>
                  have H := HA.out
                  clear HA
                  simp only [Z8.l4] at H
                  by_cases c79 : x106_4 < ((rd_L1 t505 x99_3).length : Int)
                  ·rw [if_pos c79] at H
                   have c79b0 : decide (x106_4 < ((rd_L1 t505 x99_3).length : Int)) = true := oC_ c79
                   clear c79
                   by_cases c80 : 0 ≤ x106_4
                   ·rw [if_pos c80] at H
                    have c80b0 : decide (0 ≤ x106_4) = true := oC_ c80
                    clear c80
                    by_cases c81 : x106_4 < ((rd_L1 t505 x99_3).length : Int)
                    ·rw [if_pos c81] at H
                     have c81b0 : decide (x106_4 < ((rd_L1 t505 x99_3).length : Int)) = true := oC_ c81
                     clear c81
                     by_cases c82 : x19_4 = true
                     ·subst c82
                      have H1 : (if 0 ≤ (rd (rd_L1 t505 x99_3) x106_4) then (if (rd (rd_L1 t505 x99_3) x106_4) < (l1.length : Int) then (if 0 ≤ (rd l1 (rd (rd_L1 t505 x99_3) x106_4)) then (if (rd l1 (rd (rd_L1 t505 x99_3) x106_4)) < (t496.length : Int) then (if 0 ≤ (rd t496 (rd l1 (rd (rd_L1 t505 x99_3) x106_4))) then (if (rd t496 (rd l1 (rd (rd_L1 t505 x99_3) x106_4))) < (t499.length : Int) then (if 0 ≤ (rd t499 (rd t496 (rd l1 (rd (rd_L1 t505 x99_3) x106_4)))) then (if (rd t499 (rd t496 (rd l1 (rd (rd_L1 t505 x99_3) x106_4)))) < (x11_2.length : Int) then (Z8.l4 k4 l1 x6_3 t496 t499 x11_2 x99_3 ((rd x11_2 (rd t499 (rd t496 (rd l1 (rd (rd_L1 t505 x99_3) x106_4))))) == x99_3) t505 (t505.length : Int) x99_3 (rd_L1 t505 x99_3) ((rd_L1 t505 x99_3).length : Int) (wrap64 (x106_4 + 1))) else (none)) else (none)) else (none)) else (none)) else (none)) else (none)) else (none)) else (none)) = some (r1, r2) := by rw [if_pos rfl] at H; exact H
                      clear H
                      have H := H1
                      clear H1
                      by_cases c83 : 0 ≤ (rd (rd_L1 t505 x99_3) x106_4)
                      ·rw [if_pos c83] at H
                       have c83b0 : decide (0 ≤ (rd (rd_L1 t505 x99_3) x106_4)) = true := oC_ c83
                       clear c83
                       by_cases c84 : (rd (rd_L1 t505 x99_3) x106_4) < (l1.length : Int)
                       ·rw [if_pos c84] at H
                        have c84b0 : decide ((rd (rd_L1 t505 x99_3) x106_4) < (l1.length : Int)) = true := oC_ c84
                        clear c84
                        by_cases c85 : 0 ≤ (rd l1 (rd (rd_L1 t505 x99_3) x106_4))
                        ·rw [if_pos c85] at H
                         have c85b0 : decide (0 ≤ (rd l1 (rd (rd_L1 t505 x99_3) x106_4))) = true := oC_ c85
                         clear c85
                         by_cases c86 : (rd l1 (rd (rd_L1 t505 x99_3) x106_4)) < (t496.length : Int)
                         ·rw [if_pos c86] at H
                          have c86b0 : decide ((rd l1 (rd (rd_L1 t505 x99_3) x106_4)) < (t496.length : Int)) = true := oC_ c86
                          clear c86
                          by_cases c87 : 0 ≤ (rd t496 (rd l1 (rd (rd_L1 t505 x99_3) x106_4)))
                          ·rw [if_pos c87] at H
                           have c87b0 : decide (0 ≤ (rd t496 (rd l1 (rd (rd_L1 t505 x99_3) x106_4)))) = true := oC_ c87
                           clear c87
                           by_cases c88 : (rd t496 (rd l1 (rd (rd_L1 t505 x99_3) x106_4))) < (t499.length : Int)
                           ·rw [if_pos c88] at H
                            have c88b0 : decide ((rd t496 (rd l1 (rd (rd_L1 t505 x99_3) x106_4))) < (t499.length : Int)) = true := oC_ c88
                            clear c88
                            by_cases c89 : 0 ≤ (rd t499 (rd t496 (rd l1 (rd (rd_L1 t505 x99_3) x106_4))))
                            ·rw [if_pos c89] at H
                             have c89b0 : decide (0 ≤ (rd t499 (rd t496 (rd l1 (rd (rd_L1 t505 x99_3) x106_4))))) = true := oC_ c89
                             clear c89
                             by_cases c90 : (rd t499 (rd t496 (rd l1 (rd (rd_L1 t505 x99_3) x106_4)))) < (x11_2.length : Int)
                             ·rw [if_pos c90] at H
                              have c90b0 : decide ((rd t499 (rd t496 (rd l1 (rd (rd_L1 t505 x99_3) x106_4)))) < (x11_2.length : Int)) = true := oC_ c90
                              clear c90
                              have H' := A_ H
                              clear H
                              have p512 : 0 ≤ (x106_4 : Int) := oB_ (by first | (with_reducible assumption) | assumption)
                              have q512 : x106_4 < ((rd_L1 t505 x99_3).length : Int) := oB_ (by first | (with_reducible assumption) | assumption)
                              obtain ⟨ad512, e512, hx512_0⟩ := Kd.at_int HR511_0.out x106_4 p512 q512
                              cases e512
                              (try replace hx512_0 := (HB.out.cell (World.block_lt_of_cell? w _ hx512_0)).trans hx512_0)
                              replace p512 := eq_true p512
                              replace q512 := eq_true q512
                              have p513 : 0 ≤ ((rd (rd_L1 t505 x99_3) x106_4) : Int) := oB_ (by first | (with_reducible assumption) | assumption)
                              have q513 : (rd (rd_L1 t505 x99_3) x106_4) < (l1.length : Int) := oB_ (by first | (with_reducible assumption) | assumption)
                              obtain ⟨ad513, e513, hx513_0⟩ := Kd.at_int HR1.out (rd (rd_L1 t505 x99_3) x106_4) p513 q513
                              cases e513
                              (try replace hx513_0 := (HB.out.cell (World.block_lt_of_cell? w _ hx513_0)).trans hx513_0)
                              replace p513 := eq_true p513
                              replace q513 := eq_true q513
                              obtain ⟨Ao91, co91, eo91⟩ := Kd.R_slice HO_9.out
                              subst eo91
                              have p514 : 0 ≤ ((rd l1 (rd (rd_L1 t505 x99_3) x106_4)) : Int) := oB_ (by first | (with_reducible assumption) | assumption)
                              have q514 : (rd l1 (rd (rd_L1 t505 x99_3) x106_4)) < (t496.length : Int) := oB_ (by first | (with_reducible assumption) | assumption)
                              obtain ⟨ad514, e514, hx514_0⟩ := Kd.at_int (Kd.R_reads' HO_9.out).2.2 (rd l1 (rd (rd_L1 t505 x99_3) x106_4)) p514 q514
                              cases e514
                              replace p514 := eq_true p514
                              replace q514 := eq_true q514
                              obtain ⟨Ao92, co92, eo92⟩ := Kd.R_slice HO_10.out
                              subst eo92
                              have p515 : 0 ≤ ((rd t496 (rd l1 (rd (rd_L1 t505 x99_3) x106_4))) : Int) := oB_ (by first | (with_reducible assumption) | assumption)
                              have q515 : (rd t496 (rd l1 (rd (rd_L1 t505 x99_3) x106_4))) < (t499.length : Int) := oB_ (by first | (with_reducible assumption) | assumption)
                              obtain ⟨ad515, e515, hx515_0⟩ := Kd.at_int (Kd.R_reads' HO_10.out).2.2 (rd t496 (rd l1 (rd (rd_L1 t505 x99_3) x106_4))) p515 q515
                              cases e515
                              replace p515 := eq_true p515
                              replace q515 := eq_true q515
                              obtain ⟨Ao93, co93, eo93⟩ := Kd.R_slice HO_11.out
                              subst eo93
                              have p516 : 0 ≤ ((rd t499 (rd t496 (rd l1 (rd (rd_L1 t505 x99_3) x106_4)))) : Int) := oB_ (by first | (with_reducible assumption) | assumption)
                              have q516 : (rd t499 (rd t496 (rd l1 (rd (rd_L1 t505 x99_3) x106_4)))) < (x11_2.length : Int) := oB_ (by first | (with_reducible assumption) | assumption)
                              obtain ⟨ad516, e516, hx516_0⟩ := Kd.at_int (Kd.R_reads' HO_11.out).2.2 (rd t499 (rd t496 (rd l1 (rd (rd_L1 t505 x99_3) x106_4)))) p516 q516
                              cases e516
                              replace p516 := eq_true p516
                              replace q516 := eq_true q516
                              go_wp2
                              go_roundg k4
                              case measure => have := HK1.out; have := HK2.out; have := HK3.out; have := HK4.out; omega
                              case rel => exact ⟨(((rd x11_2 (rd t499 (rd t496 (rd l1 (rd (rd_L1 t505 x99_3) x106_4))))) == x99_3)), (wrap64 (x106_4 + 1)), (by first | rfl | (simp; done) | (simp [*]; done)), (by first | rfl | (simp; done) | (simp [*]; done)), H', ⟨by have := HK1.out; have := HK2.out; have := HK3.out; have := HK4.out; omega⟩, ⟨by (with_reducible repeat (first | apply rA_ | apply rB_ | apply rC_)); exact HO_6.out⟩, ⟨by (with_reducible repeat (first | apply rA_ | apply rB_ | apply rC_)); exact HO_9.out⟩, ⟨by (with_reducible repeat (first | apply rA_ | apply rB_ | apply rC_)); exact HO_10.out⟩, ⟨by (with_reducible repeat (first | apply rA_ | apply rB_ | apply rC_)); exact HO_11.out⟩, ⟨by (with_reducible repeat (first | apply Kd.S_alloc | apply Kd.S_drewN | apply Kd.S_drew)); exact HO_97.out⟩, ⟨by (with_reducible repeat (first | refine kA_ ?_ _ | refine kB_ ?_ | refine kC_ ?_ _)); exact BK479.out⟩, ⟨by repeat (first | (with_reducible exact HR511_0.out) | (with_reducible refine cA_ ?_ _) | (with_reducible refine cB_ ?_ _) | (with_reducible refine cC_ ?_) | exact HR511_0.out)⟩, ⟨by repeat (first | (with_reducible first | exact HB.out | apply bA_ | apply bB_ | apply bC_ | refine bD_ ?_ GE479.out) | exact HB.out)⟩⟩
                             ·rw [if_neg c90] at H
                              exact absurd H (by simp)
                            ·rw [if_neg c89] at H
                             exact absurd H (by simp)
                           ·rw [if_neg c88] at H
                            exact absurd H (by simp)
                          ·rw [if_neg c87] at H
                           exact absurd H (by simp)
                         ·rw [if_neg c86] at H
                          exact absurd H (by simp)
                        ·rw [if_neg c85] at H
                         exact absurd H (by simp)
                       ·rw [if_neg c84] at H
                        exact absurd H (by simp)
                      ·rw [if_neg c83] at H
                       exact absurd H (by simp)
                     ·replace c82 := Bool.eq_false_iff.mpr c82
                      subst c82
                      have H1 : (Z8.l4 k4 l1 x6_3 t496 t499 x11_2 x99_3 false t505 (t505.length : Int) x99_3 (rd_L1 t505 x99_3) ((rd_L1 t505 x99_3).length : Int) (wrap64 (x106_4 + 1))) = some (r1, r2) := by rw [if_neg (show ¬ (false = true) by decide)] at H; exact H
                      clear H
                      have H := H1
                      clear H1
                      have H' := A_ H
                      clear H
                      have p512 : 0 ≤ (x106_4 : Int) := oB_ (by first | (with_reducible assumption) | assumption)
                      have q512 : x106_4 < ((rd_L1 t505 x99_3).length : Int) := oB_ (by first | (with_reducible assumption) | assumption)
                      obtain ⟨ad512, e512, hx512_0⟩ := Kd.at_int HR511_0.out x106_4 p512 q512
                      cases e512
                      (try replace hx512_0 := (HB.out.cell (World.block_lt_of_cell? w _ hx512_0)).trans hx512_0)
                      replace p512 := eq_true p512
                      replace q512 := eq_true q512
                      go_wp2
                      go_roundg k4
                      case measure => have := HK1.out; have := HK2.out; have := HK3.out; have := HK4.out; omega
                      case rel => exact ⟨(false), (wrap64 (x106_4 + 1)), (by first | rfl | (simp; done) | (simp [*]; done)), (by first | rfl | (simp; done) | (simp [*]; done)), H', ⟨by have := HK1.out; have := HK2.out; have := HK3.out; have := HK4.out; omega⟩, ⟨by (with_reducible repeat (first | apply rA_ | apply rB_ | apply rC_)); exact HO_6.out⟩, ⟨by (with_reducible repeat (first | apply rA_ | apply rB_ | apply rC_)); exact HO_9.out⟩, ⟨by (with_reducible repeat (first | apply rA_ | apply rB_ | apply rC_)); exact HO_10.out⟩, ⟨by (with_reducible repeat (first | apply rA_ | apply rB_ | apply rC_)); exact HO_11.out⟩, ⟨by (with_reducible repeat (first | apply Kd.S_alloc | apply Kd.S_drewN | apply Kd.S_drew)); exact HO_97.out⟩, ⟨by (with_reducible repeat (first | refine kA_ ?_ _ | refine kB_ ?_ | refine kC_ ?_ _)); exact BK479.out⟩, ⟨by repeat (first | (with_reducible exact HR511_0.out) | (with_reducible refine cA_ ?_ _) | (with_reducible refine cB_ ?_ _) | (with_reducible refine cC_ ?_) | exact HR511_0.out)⟩, ⟨by repeat (first | (with_reducible first | exact HB.out | apply bA_ | apply bB_ | apply bC_ | refine bD_ ?_ GE479.out) | exact HB.out)⟩⟩
                    ·rw [if_neg c81] at H
                     exact absurd H (by simp)
                   ·rw [if_neg c80] at H
                    exact absurd H (by simp)
                  ·rw [if_neg c79] at H
                   have c79b0 : decide (x106_4 < ((rd_L1 t505 x99_3).length : Int)) = false := oD_ c79
                   clear c79
                   by_cases c94 : x19_4 = true
                   ·subst c94
                    have H1 : (if 3 < (x6_3.length : Int) then (Z8.l3 k4 l1 (x6_3.set (3 : Int).toNat (wrap64 ((rd x6_3 3) + 1))) t496 t499 x11_2 t505 (t505.length : Int) (wrap64 (x99_3 + 1))) else (none)) = some (r1, r2) := by rw [if_pos rfl] at H; exact H
                    clear H
                    have H := H1
                    clear H1
                    by_cases c95 : 3 < (x6_3.length : Int)
                    ·rw [if_pos c95] at H
                     have c95b0 : decide (3 < (x6_3.length : Int)) = true := oC_ c95
                     have c95b1 : decide (3 < x6_3.length) = true := oC_ (by omega)
                     clear c95
                     obtain ⟨y518, hy518⟩ : ∃ y_ : List Int, y_ = (x6_3.set (3 : Int).toNat (wrap64 ((rd x6_3 3) + 1))) := ⟨_, rfl⟩
                     replace H : (Z8.l3 k4 l1 y518 t496 t499 x11_2 t505 (t505.length : Int) (wrap64 (x99_3 + 1))) = some (r1, r2) := by first | (rw [hy518]; with_reducible exact H) | (have H2_ := (oA_ _ _).symm.trans H; rw [hy518]; with_reducible exact H2_) | (have H2_ := (oA_ _ _).symm.trans H; with_reducible exact H2_) | with_reducible exact H | (rw [hy518]; exact H) | exact H
                     have Ny518 := A_ hy518
                     clear hy518
                     have H' := A_ H
                     clear H
                     obtain ⟨Ao97, co97, eo97⟩ := Kd.R_slice HO_6.out
                     subst eo97
                     have p517 : 0 ≤ (3 : Int) := (by omega)
                     have q517 : 3 < (x6_3.length : Int) := oB_ (by first | (with_reducible assumption) | assumption)
                     obtain ⟨ad517, e517, hx517_0⟩ := Kd.at_int (Kd.R_reads' HO_6.out).2.2 3 p517 q517
                     cases e517
                     (try simp only [show (3 : Int).toNat = 3 from rfl, Nat.reduceMul, Nat.reduceEqDiff, Go.Addr.add, ↓reduceIte] at hx517_0)
                     have qi517 : (3 < x6_3.length) = True := eq_true (by omega)
                     (try rw [show ((3 : Int)).toNat = 3 from rfl] at hx517_0)
                     replace p517 := eq_true p517
                     replace q517 := eq_true q517
                     have p96 : 0 ≤ (3 : Int) := (by omega)
                     have q96 : (3 : Int) < ((x6_3.length : Int) : Int) := oB_ (by first | (with_reducible assumption) | assumption)
                     have qi96 : (3 < x6_3.length) = True := eq_true (by omega)
                     obtain ⟨go96, co96, eo96, gb96, gl96, cl96, HG96⟩ := Kd.R_form HO_6.out (by omega)
                     (first | cases eo96 | (injection eo96 with ea_ en_ ec_; (first | subst ea_ | (injection ea_ with ea_; subst ea_)); subst ec_; clear en_))
                     have GB96 := A_ gb96
                     have GG96 := A_ HG96
                     clear gb96 gl96 HG96
                     (first | simp only [add_plain] at hx517_0 | skip)
                     obtain ⟨hx96_0, hf96_0⟩ := Kd.R_celln 0 HO_6.out (3 : Int) p96 q96
                     (try rw [show ((3 : Int)).toNat = 3 from rfl] at hx96_0)
                     (try simp only [Nat.reduceMul, Nat.zero_mul, Nat.zero_add, Nat.reduceAdd] at hx96_0)
                     (try rw [show ((3 : Int)).toNat = 3 from rfl] at hf96_0)
                     (try simp only [Nat.reduceMul, Nat.zero_mul, Nat.zero_add, Nat.reduceAdd] at hf96_0)
                     replace p96 := eq_true p96
                     replace q96 := eq_true q96
                     have HP98 := Kd.R_putg HO_6.out (3 : Int) (wrap64 ((rd x6_3 3) + 1))
                     go_wp2_with (first | ((with_reducible refine gate_store (t := 3) (p := 134) rfl ?_); refine store_event (t := 3) (p := 134) (v := ?vo_w99) (w1 := (wr.setCell ⟨go96, (3 : Int).toNat, none⟩ (.int .i64 (wrap64 ((rd x6_3 3) + 1))))) ?hg ?ho ?hn ?hr ?_; (case ho => rfl); (case hg => rfl); (case hn => rfl); (case hr => first | (go_simp; done) | (go_simp; rfl)); intro w99 hw; have hg : wr.grownBy w99 (some go96) := (by rw [hw]; exact HP98.2); have hp_ : Kd.R (Kd.int .i64) 3 w99 w.heap.size (fun k_ => some k_ ≠ (v497 : Value).ownBlock ∧ some k_ ≠ (v500 : Value).ownBlock ∧ some k_ ≠ (v503 : Value).ownBlock) (.slice (some ⟨go96, 0, none⟩) x6_3.length co97) y518 := (by rw [hw, Ny518.out]; exact HP98.1); clear HP98; have n0_ := A_ (hp_); have n1_ := A_ (Kd.R_after (v := (.slice (some ⟨go96, 0, none⟩) x6_3.length co97)) (v1 := (.slice (some ⟨go96, 0, none⟩) x6_3.length co97)) (ok := (fun k_ => some k_ ≠ (v500 : Value).ownBlock ∧ some k_ ≠ (v503 : Value).ownBlock)) (by (with_reducible repeat (first | apply rA_ | apply rB_ | apply rC_)); exact Kd.R_mono HO_9.out (fun _ hk => ⟨⟨hk.2.1, hk.2.2⟩, hk.1⟩)) hg (.inl rfl)); have n2_ := A_ (Kd.R_after (v := (.slice (some ⟨go96, 0, none⟩) x6_3.length co97)) (v1 := (.slice (some ⟨go96, 0, none⟩) x6_3.length co97)) (ok := (fun k_ => some k_ ≠ (v497 : Value).ownBlock ∧ some k_ ≠ (v503 : Value).ownBlock)) (by (with_reducible repeat (first | apply rA_ | apply rB_ | apply rC_)); exact Kd.R_mono HO_10.out (fun _ hk => ⟨⟨hk.2.1, hk.2.2⟩, hk.1⟩)) hg (.inl rfl)); have n3_ := A_ (Kd.R_after (v := (.slice (some ⟨go96, 0, none⟩) x6_3.length co97)) (v1 := (.slice (some ⟨go96, 0, none⟩) x6_3.length co97)) (ok := (fun k_ => some k_ ≠ (v497 : Value).ownBlock ∧ some k_ ≠ (v500 : Value).ownBlock)) (by (with_reducible repeat (first | apply rA_ | apply rB_ | apply rC_)); exact Kd.R_mono HO_11.out (fun _ hk => ⟨⟨hk.2.1, hk.2.2⟩, hk.1⟩)) hg (.inl rfl)); have n4_ := A_ (Kd.S_after (v := (.slice (some ⟨go96, 0, none⟩) x6_3.length co97)) (v1 := (.slice (some ⟨go96, 0, none⟩) x6_3.length co97)) (ok := (fun k_ => some k_ ≠ (v497 : Value).ownBlock ∧ some k_ ≠ (v500 : Value).ownBlock ∧ some k_ ≠ (v503 : Value).ownBlock)) (by (with_reducible repeat (first | apply Kd.S_alloc | apply Kd.S_drewN | apply Kd.S_drew)); exact Kd.S_mono HO_97.out (fun _ hk => ⟨⟨hk.2.1, ⟨hk.2.2.1, hk.2.2.2⟩⟩, hk.1⟩)) hg (.inl rfl)); have n5_ := A_ (blk_grown (g := gb479) (o := .cells #[.slice A0_0 l0_0.length c0_0, .slice A0_1 l0_1.length c0_1] 27 (0, 0)) (by (with_reducible repeat (first | refine kA_ ?_ _ | refine kB_ ?_ | refine kC_ ?_ _)); exact BK479.out) hg (Kd.R_ne HO_6.out BK479.out (by decide))); have n6_ := A_ ((by rw [hw]; exact bD_ (HB.out) GB96.out : Below w.heap.size w w99)); clear HO_6; clear HO_9; clear HO_10; clear HO_11; clear HO_97; clear BK479; clear HB; have HO_6 := n0_; have HO_9 := n1_; have HO_10 := n2_; have HO_11 := n3_; have HO_97 := n4_; have BK479 := n5_; have HB := n6_; clear n0_ n1_ n2_ n3_ n4_ n5_ n6_; clear hg hw hp_))
                     go_roundg k4
                     case measure => have := HK1.out; have := HK2.out; have := HK3.out; have := HK4.out; omega
                     case rel => exact ⟨(y518), (wrap64 (x99_3 + 1)), (by first | rfl | (simp; done) | (simp [*]; done)), H', ⟨by have := HK1.out; have := HK2.out; have := HK3.out; have := HK4.out; omega⟩, ⟨by (with_reducible repeat (first | apply rA_ | apply rB_ | apply rC_)); exact HO_6.out⟩, ⟨by (with_reducible repeat (first | apply rA_ | apply rB_ | apply rC_)); exact Kd.R_mono HO_9.out (fun _ hk => ⟨hk.2, ⟨hk.1.1, hk.1.2⟩⟩)⟩, ⟨by (with_reducible repeat (first | apply rA_ | apply rB_ | apply rC_)); exact Kd.R_mono HO_10.out (fun _ hk => ⟨hk.2, ⟨hk.1.1, hk.1.2⟩⟩)⟩, ⟨by (with_reducible repeat (first | apply rA_ | apply rB_ | apply rC_)); exact Kd.R_mono HO_11.out (fun _ hk => ⟨hk.2, ⟨hk.1.1, hk.1.2⟩⟩)⟩, ⟨by (with_reducible repeat (first | apply Kd.S_alloc | apply Kd.S_drewN | apply Kd.S_drew)); exact Kd.S_mono HO_97.out (fun _ hk => ⟨hk.2, ⟨hk.1.1, ⟨hk.1.2.1, hk.1.2.2⟩⟩⟩)⟩, ⟨by (with_reducible repeat (first | refine kA_ ?_ _ | refine kB_ ?_ | refine kC_ ?_ _)); exact BK479.out⟩, ⟨by repeat (first | (with_reducible first | exact HB.out | apply bA_ | apply bB_ | apply bC_ | refine bD_ ?_ GE479.out) | exact HB.out)⟩⟩
                    ·rw [if_neg c95] at H
                     exact absurd H (by simp)
                   ·replace c94 := Bool.eq_false_iff.mpr c94
                    subst c94
                    have H1 : (Z8.l3 k4 l1 x6_3 t496 t499 x11_2 t505 (t505.length : Int) (wrap64 (x99_3 + 1))) = some (r1, r2) := by rw [if_neg (show ¬ (false = true) by decide)] at H; exact H
                    clear H
                    have H := H1
                    clear H1
                    have H' := A_ H
                    clear H
                    go_wp2
                    go_roundg k4
                    case measure => have := HK1.out; have := HK2.out; have := HK3.out; have := HK4.out; omega
                    case rel => exact ⟨(x6_3), (wrap64 (x99_3 + 1)), (by first | rfl | (simp; done) | (simp [*]; done)), H', ⟨by have := HK1.out; have := HK2.out; have := HK3.out; have := HK4.out; omega⟩, ⟨by (with_reducible repeat (first | apply rA_ | apply rB_ | apply rC_)); exact HO_6.out⟩, ⟨by (with_reducible repeat (first | apply rA_ | apply rB_ | apply rC_)); exact HO_9.out⟩, ⟨by (with_reducible repeat (first | apply rA_ | apply rB_ | apply rC_)); exact HO_10.out⟩, ⟨by (with_reducible repeat (first | apply rA_ | apply rB_ | apply rC_)); exact HO_11.out⟩, ⟨by (with_reducible repeat (first | apply Kd.S_alloc | apply Kd.S_drewN | apply Kd.S_drew)); exact HO_97.out⟩, ⟨by (with_reducible repeat (first | refine kA_ ?_ _ | refine kB_ ?_ | refine kC_ ?_ _)); exact BK479.out⟩, ⟨by repeat (first | (with_reducible first | exact HB.out | apply bA_ | apply bB_ | apply bC_ | refine bD_ ?_ GE479.out) | exact HB.out)⟩⟩
               ·rw [if_neg c78] at H
                exact absurd H (by simp)
              ·rw [if_neg c77] at H
               exact absurd H (by simp)
             ·rw [if_neg c76] at H
              have c76b0 : decide (x99_3 < (t505.length : Int)) = false := oD_ c76
              clear c76
              simp only [Option.some.injEq, Prod.mk.injEq] at H
              obtain ⟨rfl, rfl⟩ := H
              go_wp2
              go_ret2
              exact ⟨_, by first | rfl | (simp [errW_none, errW_some] <;> rfl) | (simp [*, errW_none, errW_some] <;> rfl), by (with_reducible repeat (first | apply rA_ | apply rB_ | apply rC_)); exact Kd.R_mono HO_6.out (fun _ hk => trivial), by repeat (first | (with_reducible first | exact HB.out | apply bA_ | apply bB_ | apply bC_ | refine bD_ ?_ GE479.out) | exact HB.out)⟩
       ·rw [if_neg c54] at H
        exact absurd H (by simp)
      ·rw [if_neg c53] at H
       exact absurd H (by simp)
  ·rw [if_neg c5] at H
   exact absurd H (by simp)
 ·replace c4 := Bool.eq_false_iff.mpr c4
  subst c4
  have H1 : (some (([] : List Int), false)) = some (r1, r2) := by rw [if_neg (show ¬ (false = true) by decide)] at H; exact H
  clear H
  have H := H1
  clear H1
  simp only [Option.some.injEq, Prod.mk.injEq] at H
  obtain ⟨rfl, rfl⟩ := H
  go_enter Try.func141, Try.ntmps141
  go_wp2_with (first | ((with_reducible refine gB_ (N := 2) rfl ?_); refine xA_ ?hg (N := 2) ?hd (cs := #[.slice A0_0 l0_0.length c0_0, .slice A0_1 l0_1.length c0_1]) (t := 27) ?hr ?_; (case hd => rfl); (case hg => rfl); (case hr => first | (go_simp; done) | (go_simp; rfl)); intro gb479 hg w100 hbox hb; have n0_ := A_ (bE_ (by repeat (first | (with_reducible first | exact HB.out | apply bA_ | apply bB_ | apply bC_) | exact HB.out)) hb); have n1_ := A_ (hbox); have n2_ := A_ ((by rw [hg]; exact (bF_ (by repeat (first | (with_reducible first | exact HB.out | apply bA_ | apply bB_ | apply bC_) | exact HB.out))) : w.heap.size ≤ gb479)); have n3_ := A_ ((by rw [hg]; exact (bF_ (by repeat (first | (with_reducible first | exact HB.out | apply bA_ | apply bB_ | apply bC_) | exact HB.out))) : w.heap.size ≤ gb479)); clear HB; have HB := n0_; have BK479 := n1_; have GW479 := n2_; have GE479 := n3_; clear n0_ n1_ n2_ n3_; clear hb hbox hg; have hcz101_0 := cz0_ BK479.out; have hcz101_1 := cz1_ BK479.out; have hfz101_0 := kD_ BK479.out 0; have hfz101_1 := kD_ BK479.out 1) | ((with_reducible refine gA_ (f := 107) rfl ?_); refine goesL_ (some 24) rfl rfl Try.func107 (by kernel_rfl) rfl #[.agg #[.slice A0_0 l0_0.length c0_0, .slice A0_1 l0_1.length c0_1], .slice A1 l1.length c1] rfl (by (try simp only [mA_, mB_, mC_]); first | done | rfl | (simp only [lA_, lB_]; rfl)) ?_; (with_reducible refine (Z36.calls k _ _ l0_0 _ _ l0_1 _ _ l1 false _ ?side1 ?side2 ?side3 ?side4 ?side5 ?side6 A3.out).mono ?_); (case side1 => repeat (first | exact (cD_ HR0_0.out HB.out) | (with_reducible first | refine cA_ ?_ _ | refine cB_ ?_ _ | refine cC_ ?_))); (case side2 => exact HC0_0.out); (case side3 => repeat (first | exact (cD_ HR0_1.out HB.out) | (with_reducible first | refine cA_ ?_ _ | refine cB_ ?_ _ | refine cC_ ?_))); (case side4 => exact HC0_1.out); (case side5 => repeat (first | exact (cD_ HR1.out HB.out) | (with_reducible first | refine cA_ ?_ _ | refine cB_ ?_ _ | refine cC_ ?_))); (case side6 => exact HC1.out); rintro e w102 ⟨rfl, hb⟩; refine ⟨_, rfl, ?_⟩; have n0_ := A_ (kE_ (g := gb479) (by (with_reducible repeat (first | refine kA_ ?_ _ | refine kB_ ?_ | refine kC_ ?_ _)); exact BK479.out) hb); have n1_ := A_ (bE_ (by repeat (first | (with_reducible first | exact HB.out | apply bA_ | apply bB_ | apply bC_ | refine bD_ ?_ GE479.out) | exact HB.out)) hb); clear BK479; clear HB; have BK479 := n0_; have HB := n1_; clear n0_ n1_; (try clear hb); (try clear hb2); (try clear hk); (try clear hi)))
  go_ret2
  exact ⟨_, by first | rfl | (simp [errW_none, errW_some] <;> rfl) | (simp [*, errW_none, errW_some] <;> rfl), by first | exact Kd.R_nil _ _ _ _ _ | exact Kd.N_nil _ _ _ _ _ | exact Kd.V_nil _ _ _ _ _ | exact Kd.Q_nil _ _ _ _ _ | exact Kd.S_nil _ _ _ _ _, by repeat (first | (with_reducible first | exact HB.out | apply bA_ | apply bB_ | apply bC_ | refine bD_ ?_ GE479.out) | exact HB.out)⟩
end Go.Proofs.Ytbdnellgioimbaa.A
end
section
namespace Go.Proofs.Ytbdnellgioimbaa.A
open Go.RowKit Go.Proofs.YtbdnellgioimbaaW.PrintWords Go.Proofs.YtbdnellgioimbaaW.PrintLast Go.Proofs.YtbdnellgioimbaaW.PrintMore
attribute [local go_sem] max2_int min2_int max_two min_two max_three min_three max_four min_four
set_option linter.unusedVariables false
set_option linter.unusedSimpArgs false
def Z12.f (k : Nat) (l0_0 : List Int) (l0_1 : List Int) (l1 : List Int) : Option (Int) := (Z8.f k l0_0 l0_1 l1).bind fun bt520 => (if bt520.2 = true then (if 0 < (bt520.1.length : Int) then (if 1 < (bt520.1.length : Int) then (if 2 < (bt520.1.length : Int) then (if 3 < (bt520.1.length : Int) then (some (wrap64 ((wrap64 ((wrap64 ((rd bt520.1 0) + (rd bt520.1 1))) + (rd bt520.1 2))) + (rd bt520.1 3)))) else (none)) else (none)) else (none)) else (none)) else (some (-1)))
theorem Z12.mono : ∀ a0 a1 a2 k, LeO (Z12.f k a0 a1 a2) (Z12.f (k + 1) a0 a1 a2) := by
 intro a0 a1 a2 k
 unfold Z12.f
 repeat' first
   | (with_reducible exact Z8.mono _ _ _ _)
   | (with_reducible exact LeO.refl _)
   | (with_reducible exact LeO.none _)
   | (with_reducible refine LeO.ite ?_ ?_)
   | (with_reducible refine LeO.bind ?_ (fun _ => ?_))
   | exact Z8.mono _ _ _ _
   | exact LeO.none _
   | refine LeO.ite ?_ ?_
   | refine LeO.bind ?_ (fun _ => ?_)
set_option maxHeartbeats 8000000 in
set_option maxRecDepth 100000 in
theorem Z12.calls (k : Nat) (A0_0 : Option Addr) (c0_0 : Nat) (l0_0 : List Int) (A0_1 : Option Addr) (c0_1 : Nat) (l0_1 : List Int) (A1 : Option Addr) (c1 : Nat) (l1 : List Int) (r : Int) (w : World) (hr0_0 : Kd.C (Kd.int .i64) w A0_0 l0_0.length l0_0) (hc0_0 : l0_0.length ≤ c0_0) (hr0_1 : Kd.C (Kd.int .i64) w A0_1 l0_1.length l0_1) (hc0_1 : l0_1.length ≤ c0_1) (hr1 : Kd.C (Kd.int .i64) w A1 l1.length l1) (hc1 : l1.length ≤ c1) (h : Z12.f k l0_0 l0_1 l1 = some r) :
  Calls Try.prog 109 #[.agg #[.slice A0_0 l0_0.length c0_0, .slice A0_1 l0_1.length c0_1], .slice A1 l1.length c1] w fun e w' => e = .returned (.int .i64 r) ∧ Below w.heap.size w w' := by
 have hu27 := Try.underlying27
 have HR0_0 := A_ hr0_0
 have HC0_0 := A_ hc0_0
 clear hr0_0 hc0_0
 have HR0_1 := A_ hr0_1
 have HC0_1 := A_ hc0_1
 clear hr0_1 hc0_1
 have HR1 := A_ hr1
 have HC1 := A_ hc1
 clear hr1 hc1
 have HB := A_ (Below.refl w.heap.size w)
 have H : ((Z8.f k l0_0 l0_1 l1).bind fun bt520 => (if bt520.2 = true then (if 0 < (bt520.1.length : Int) then (if 1 < (bt520.1.length : Int) then (if 2 < (bt520.1.length : Int) then (if 3 < (bt520.1.length : Int) then (some (wrap64 ((wrap64 ((wrap64 ((rd bt520.1 0) + (rd bt520.1 1))) + (rd bt520.1 2))) + (rd bt520.1 3)))) else (none)) else (none)) else (none)) else (none)) else (some (-1)))) = some r := h
 clear h
 replace H := Option.bind_eq_some_iff.mp H
 obtain ⟨⟨t520, t523⟩, A30, H⟩ := H
 replace H : (if t523 = true then (if 0 < (t520.length : Int) then (if 1 < (t520.length : Int) then (if 2 < (t520.length : Int) then (if 3 < (t520.length : Int) then (some (wrap64 ((wrap64 ((wrap64 ((rd t520 0) + (rd t520 1))) + (rd t520 2))) + (rd t520 3)))) else (none)) else (none)) else (none)) else (none)) else (some (-1))) = some r := H
 have A3 := A_ A30
 clear A30
 by_cases c4 : t523 = true
 ·subst c4
  have H1 : (if 0 < (t520.length : Int) then (if 1 < (t520.length : Int) then (if 2 < (t520.length : Int) then (if 3 < (t520.length : Int) then (some (wrap64 ((wrap64 ((wrap64 ((rd t520 0) + (rd t520 1))) + (rd t520 2))) + (rd t520 3)))) else (none)) else (none)) else (none)) else (none)) = some r := by rw [if_pos rfl] at H; exact H
  clear H
  have H := H1
  clear H1
  by_cases c5 : 0 < (t520.length : Int)
  ·rw [if_pos c5] at H
   have c5b0 : decide (0 < (t520.length : Int)) = true := oC_ c5
   have c5b1 : decide (0 < t520.length) = true := oC_ (by omega)
   clear c5
   by_cases c6 : 1 < (t520.length : Int)
   ·rw [if_pos c6] at H
    have c6b0 : decide (1 < (t520.length : Int)) = true := oC_ c6
    have c6b1 : decide (1 < t520.length) = true := oC_ (by omega)
    clear c6
    by_cases c7 : 2 < (t520.length : Int)
    ·rw [if_pos c7] at H
     have c7b0 : decide (2 < (t520.length : Int)) = true := oC_ c7
     have c7b1 : decide (2 < t520.length) = true := oC_ (by omega)
     clear c7
     by_cases c8 : 3 < (t520.length : Int)
     ·rw [if_pos c8] at H
      have c8b0 : decide (3 < (t520.length : Int)) = true := oC_ c8
      have c8b1 : decide (3 < t520.length) = true := oC_ (by omega)
      clear c8
      obtain rfl := Option.some.inj H
      go_enter Try.func109, Try.ntmps109
      go_wp2_with (first | ((with_reducible refine gB_ (N := 2) rfl ?_); refine xA_ ?hg (N := 2) ?hd (cs := #[.slice A0_0 l0_0.length c0_0, .slice A0_1 l0_1.length c0_1]) (t := 27) ?hr ?_; (case hd => rfl); (case hg => rfl); (case hr => first | (go_simp; done) | (go_simp; rfl)); intro gb519 hg w9 hbox hb; have n0_ := A_ (bE_ (by repeat (first | (with_reducible first | exact HB.out | apply bA_ | apply bB_ | apply bC_) | exact HB.out)) hb); have n1_ := A_ (hbox); have n2_ := A_ ((by rw [hg]; exact (bF_ (by repeat (first | (with_reducible first | exact HB.out | apply bA_ | apply bB_ | apply bC_) | exact HB.out))) : w.heap.size ≤ gb519)); have n3_ := A_ ((by rw [hg]; exact (bF_ (by repeat (first | (with_reducible first | exact HB.out | apply bA_ | apply bB_ | apply bC_) | exact HB.out))) : w.heap.size ≤ gb519)); clear HB; have HB := n0_; have BK519 := n1_; have GW519 := n2_; have GE519 := n3_; clear n0_ n1_ n2_ n3_; clear hb hbox hg; have hcz10_0 := cz0_ BK519.out; have hcz10_1 := cz1_ BK519.out; have hfz10_0 := kD_ BK519.out 0; have hfz10_1 := kD_ BK519.out 1) | (go_at_call 141; (with_reducible refine (Z8.calls k _ _ l0_0 _ _ l0_1 _ _ l1 t520 true _ ?side1 ?side2 ?side3 ?side4 ?side5 ?side6 A3.out).mono ?_); (case side1 => repeat (first | exact (cD_ HR0_0.out HB.out) | (with_reducible first | refine cA_ ?_ _ | refine cB_ ?_ _ | refine cC_ ?_))); (case side2 => exact HC0_0.out); (case side3 => repeat (first | exact (cD_ HR0_1.out HB.out) | (with_reducible first | refine cA_ ?_ _ | refine cB_ ?_ _ | refine cC_ ?_))); (case side4 => exact HC0_1.out); (case side5 => repeat (first | exact (cD_ HR1.out HB.out) | (with_reducible first | refine cA_ ?_ _ | refine cB_ ?_ _ | refine cC_ ?_))); (case side6 => exact HC1.out); rintro e w11 ⟨v521, rfl, ho0, hb⟩; have n0_ := A_ (rE_ ho0 (bF_ (by repeat (first | (with_reducible first | exact HB.out | apply bA_ | apply bB_ | apply bC_ | refine bD_ ?_ GE519.out) | exact HB.out)))); have n1_ := A_ (kE_ (g := gb519) (by (with_reducible repeat (first | refine kA_ ?_ _ | refine kB_ ?_ | refine kC_ ?_ _)); exact BK519.out) hb); have n2_ := A_ (bE_ (by repeat (first | (with_reducible first | exact HB.out | apply bA_ | apply bB_ | apply bC_ | refine bD_ ?_ GE519.out) | exact HB.out)) hb); clear BK519; clear HB; have HO522 := n0_; have BK519 := n1_; have HB := n2_; clear n0_ n1_ n2_; (try clear hb); (try clear hb2); (try clear hk); (try clear hi); (try clear ho0); obtain ⟨Ao12, co12, eo12⟩ := Kd.R_slice HO522.out; subst eo12; have p524 : 0 ≤ (0 : Int) := (by omega); have q524 : 0 < (t520.length : Int) := oB_ (by first | (with_reducible assumption) | assumption); obtain ⟨ad524, e524, hx524_0⟩ := Kd.at_int (Kd.R_reads' HO522.out).2.2 0 p524 q524; cases e524; have qi524 : (0 < t520.length) = True := eq_true (by omega); (try rw [show ((0 : Int)).toNat = 0 from rfl] at hx524_0); (try rw [Addr.add_zero'] at hx524_0); replace p524 := eq_true p524; replace q524 := eq_true q524; have p525 : 0 ≤ (1 : Int) := (by omega); have q525 : 1 < (t520.length : Int) := oB_ (by first | (with_reducible assumption) | assumption); obtain ⟨ad525, e525, hx525_0⟩ := Kd.at_int (Kd.R_reads' HO522.out).2.2 1 p525 q525; obtain rfl : ad524 = ad525 := (by injection e525); (try simp only [show (1 : Int).toNat = 1 from rfl, Nat.reduceMul, Nat.reduceEqDiff, Go.Addr.add, ↓reduceIte] at hx525_0); have qi525 : (1 < t520.length) = True := eq_true (by omega); (try rw [show ((1 : Int)).toNat = 1 from rfl] at hx525_0); replace p525 := eq_true p525; replace q525 := eq_true q525; have p526 : 0 ≤ (2 : Int) := (by omega); have q526 : 2 < (t520.length : Int) := oB_ (by first | (with_reducible assumption) | assumption); obtain ⟨ad526, e526, hx526_0⟩ := Kd.at_int (Kd.R_reads' HO522.out).2.2 2 p526 q526; obtain rfl : ad524 = ad526 := (by injection e526); (try simp only [show (2 : Int).toNat = 2 from rfl, Nat.reduceMul, Nat.reduceEqDiff, Go.Addr.add, ↓reduceIte] at hx526_0); have qi526 : (2 < t520.length) = True := eq_true (by omega); (try rw [show ((2 : Int)).toNat = 2 from rfl] at hx526_0); replace p526 := eq_true p526; replace q526 := eq_true q526; have p527 : 0 ≤ (3 : Int) := (by omega); have q527 : 3 < (t520.length : Int) := oB_ (by first | (with_reducible assumption) | assumption); obtain ⟨ad527, e527, hx527_0⟩ := Kd.at_int (Kd.R_reads' HO522.out).2.2 3 p527 q527; obtain rfl : ad524 = ad527 := (by injection e527); (try simp only [show (3 : Int).toNat = 3 from rfl, Nat.reduceMul, Nat.reduceEqDiff, Go.Addr.add, ↓reduceIte] at hx527_0); have qi527 : (3 < t520.length) = True := eq_true (by omega); (try rw [show ((3 : Int)).toNat = 3 from rfl] at hx527_0); replace p527 := eq_true p527; replace q527 := eq_true q527))
      repeat (go_quiet (first | ((with_reducible refine gB_ (N := 2) rfl ?_); refine xA_ ?hg (N := 2) ?hd (cs := #[.slice A0_0 l0_0.length c0_0, .slice A0_1 l0_1.length c0_1]) (t := 27) ?hr ?_; (case hd => rfl); (case hg => rfl); (case hr => first | (go_simp; done) | (go_simp; rfl)); intro gb519 hg w9 hbox hb; have n0_ := A_ (bE_ (by repeat (first | (with_reducible first | exact HB.out | apply bA_ | apply bB_ | apply bC_) | exact HB.out)) hb); have n1_ := A_ (hbox); have n2_ := A_ ((by rw [hg]; exact (bF_ (by repeat (first | (with_reducible first | exact HB.out | apply bA_ | apply bB_ | apply bC_) | exact HB.out))) : w.heap.size ≤ gb519)); have n3_ := A_ ((by rw [hg]; exact (bF_ (by repeat (first | (with_reducible first | exact HB.out | apply bA_ | apply bB_ | apply bC_) | exact HB.out))) : w.heap.size ≤ gb519)); clear HB; have HB := n0_; have BK519 := n1_; have GW519 := n2_; have GE519 := n3_; clear n0_ n1_ n2_ n3_; clear hb hbox hg; have hcz10_0 := cz0_ BK519.out; have hcz10_1 := cz1_ BK519.out; have hfz10_0 := kD_ BK519.out 0; have hfz10_1 := kD_ BK519.out 1) | (go_at_call 141; (with_reducible refine (Z8.calls k _ _ l0_0 _ _ l0_1 _ _ l1 t520 true _ ?side1 ?side2 ?side3 ?side4 ?side5 ?side6 A3.out).mono ?_); (case side1 => repeat (first | exact (cD_ HR0_0.out HB.out) | (with_reducible first | refine cA_ ?_ _ | refine cB_ ?_ _ | refine cC_ ?_))); (case side2 => exact HC0_0.out); (case side3 => repeat (first | exact (cD_ HR0_1.out HB.out) | (with_reducible first | refine cA_ ?_ _ | refine cB_ ?_ _ | refine cC_ ?_))); (case side4 => exact HC0_1.out); (case side5 => repeat (first | exact (cD_ HR1.out HB.out) | (with_reducible first | refine cA_ ?_ _ | refine cB_ ?_ _ | refine cC_ ?_))); (case side6 => exact HC1.out); rintro e w11 ⟨v521, rfl, ho0, hb⟩; have n0_ := A_ (rE_ ho0 (bF_ (by repeat (first | (with_reducible first | exact HB.out | apply bA_ | apply bB_ | apply bC_ | refine bD_ ?_ GE519.out) | exact HB.out)))); have n1_ := A_ (kE_ (g := gb519) (by (with_reducible repeat (first | refine kA_ ?_ _ | refine kB_ ?_ | refine kC_ ?_ _)); exact BK519.out) hb); have n2_ := A_ (bE_ (by repeat (first | (with_reducible first | exact HB.out | apply bA_ | apply bB_ | apply bC_ | refine bD_ ?_ GE519.out) | exact HB.out)) hb); clear BK519; clear HB; have HO522 := n0_; have BK519 := n1_; have HB := n2_; clear n0_ n1_ n2_; (try clear hb); (try clear hb2); (try clear hk); (try clear hi); (try clear ho0); obtain ⟨Ao12, co12, eo12⟩ := Kd.R_slice HO522.out; subst eo12; have p524 : 0 ≤ (0 : Int) := (by omega); have q524 : 0 < (t520.length : Int) := oB_ (by first | (with_reducible assumption) | assumption); obtain ⟨ad524, e524, hx524_0⟩ := Kd.at_int (Kd.R_reads' HO522.out).2.2 0 p524 q524; cases e524; have qi524 : (0 < t520.length) = True := eq_true (by omega); (try rw [show ((0 : Int)).toNat = 0 from rfl] at hx524_0); (try rw [Addr.add_zero'] at hx524_0); replace p524 := eq_true p524; replace q524 := eq_true q524; have p525 : 0 ≤ (1 : Int) := (by omega); have q525 : 1 < (t520.length : Int) := oB_ (by first | (with_reducible assumption) | assumption); obtain ⟨ad525, e525, hx525_0⟩ := Kd.at_int (Kd.R_reads' HO522.out).2.2 1 p525 q525; obtain rfl : ad524 = ad525 := (by injection e525); (try simp only [show (1 : Int).toNat = 1 from rfl, Nat.reduceMul, Nat.reduceEqDiff, Go.Addr.add, ↓reduceIte] at hx525_0); have qi525 : (1 < t520.length) = True := eq_true (by omega); (try rw [show ((1 : Int)).toNat = 1 from rfl] at hx525_0); replace p525 := eq_true p525; replace q525 := eq_true q525; have p526 : 0 ≤ (2 : Int) := (by omega); have q526 : 2 < (t520.length : Int) := oB_ (by first | (with_reducible assumption) | assumption); obtain ⟨ad526, e526, hx526_0⟩ := Kd.at_int (Kd.R_reads' HO522.out).2.2 2 p526 q526; obtain rfl : ad524 = ad526 := (by injection e526); (try simp only [show (2 : Int).toNat = 2 from rfl, Nat.reduceMul, Nat.reduceEqDiff, Go.Addr.add, ↓reduceIte] at hx526_0); have qi526 : (2 < t520.length) = True := eq_true (by omega); (try rw [show ((2 : Int)).toNat = 2 from rfl] at hx526_0); replace p526 := eq_true p526; replace q526 := eq_true q526; have p527 : 0 ≤ (3 : Int) := (by omega); have q527 : 3 < (t520.length : Int) := oB_ (by first | (with_reducible assumption) | assumption); obtain ⟨ad527, e527, hx527_0⟩ := Kd.at_int (Kd.R_reads' HO522.out).2.2 3 p527 q527; obtain rfl : ad524 = ad527 := (by injection e527); (try simp only [show (3 : Int).toNat = 3 from rfl, Nat.reduceMul, Nat.reduceEqDiff, Go.Addr.add, ↓reduceIte] at hx527_0); have qi527 : (3 < t520.length) = True := eq_true (by omega); (try rw [show ((3 : Int)).toNat = 3 from rfl] at hx527_0); replace p527 := eq_true p527; replace q527 := eq_true q527)); try go_wp2_with (first | ((with_reducible refine gB_ (N := 2) rfl ?_); refine xA_ ?hg (N := 2) ?hd (cs := #[.slice A0_0 l0_0.length c0_0, .slice A0_1 l0_1.length c0_1]) (t := 27) ?hr ?_; (case hd => rfl); (case hg => rfl); (case hr => first | (go_simp; done) | (go_simp; rfl)); intro gb519 hg w9 hbox hb; have n0_ := A_ (bE_ (by repeat (first | (with_reducible first | exact HB.out | apply bA_ | apply bB_ | apply bC_) | exact HB.out)) hb); have n1_ := A_ (hbox); have n2_ := A_ ((by rw [hg]; exact (bF_ (by repeat (first | (with_reducible first | exact HB.out | apply bA_ | apply bB_ | apply bC_) | exact HB.out))) : w.heap.size ≤ gb519)); have n3_ := A_ ((by rw [hg]; exact (bF_ (by repeat (first | (with_reducible first | exact HB.out | apply bA_ | apply bB_ | apply bC_) | exact HB.out))) : w.heap.size ≤ gb519)); clear HB; have HB := n0_; have BK519 := n1_; have GW519 := n2_; have GE519 := n3_; clear n0_ n1_ n2_ n3_; clear hb hbox hg; have hcz10_0 := cz0_ BK519.out; have hcz10_1 := cz1_ BK519.out; have hfz10_0 := kD_ BK519.out 0; have hfz10_1 := kD_ BK519.out 1) | (go_at_call 141; (with_reducible refine (Z8.calls k _ _ l0_0 _ _ l0_1 _ _ l1 t520 true _ ?side1 ?side2 ?side3 ?side4 ?side5 ?side6 A3.out).mono ?_); (case side1 => repeat (first | exact (cD_ HR0_0.out HB.out) | (with_reducible first | refine cA_ ?_ _ | refine cB_ ?_ _ | refine cC_ ?_))); (case side2 => exact HC0_0.out); (case side3 => repeat (first | exact (cD_ HR0_1.out HB.out) | (with_reducible first | refine cA_ ?_ _ | refine cB_ ?_ _ | refine cC_ ?_))); (case side4 => exact HC0_1.out); (case side5 => repeat (first | exact (cD_ HR1.out HB.out) | (with_reducible first | refine cA_ ?_ _ | refine cB_ ?_ _ | refine cC_ ?_))); (case side6 => exact HC1.out); rintro e w11 ⟨v521, rfl, ho0, hb⟩; have n0_ := A_ (rE_ ho0 (bF_ (by repeat (first | (with_reducible first | exact HB.out | apply bA_ | apply bB_ | apply bC_ | refine bD_ ?_ GE519.out) | exact HB.out)))); have n1_ := A_ (kE_ (g := gb519) (by (with_reducible repeat (first | refine kA_ ?_ _ | refine kB_ ?_ | refine kC_ ?_ _)); exact BK519.out) hb); have n2_ := A_ (bE_ (by repeat (first | (with_reducible first | exact HB.out | apply bA_ | apply bB_ | apply bC_ | refine bD_ ?_ GE519.out) | exact HB.out)) hb); clear BK519; clear HB; have HO522 := n0_; have BK519 := n1_; have HB := n2_; clear n0_ n1_ n2_; (try clear hb); (try clear hb2); (try clear hk); (try clear hi); (try clear ho0); obtain ⟨Ao12, co12, eo12⟩ := Kd.R_slice HO522.out; subst eo12; have p524 : 0 ≤ (0 : Int) := (by omega); have q524 : 0 < (t520.length : Int) := oB_ (by first | (with_reducible assumption) | assumption); obtain ⟨ad524, e524, hx524_0⟩ := Kd.at_int (Kd.R_reads' HO522.out).2.2 0 p524 q524; cases e524; have qi524 : (0 < t520.length) = True := eq_true (by omega); (try rw [show ((0 : Int)).toNat = 0 from rfl] at hx524_0); (try rw [Addr.add_zero'] at hx524_0); replace p524 := eq_true p524; replace q524 := eq_true q524; have p525 : 0 ≤ (1 : Int) := (by omega); have q525 : 1 < (t520.length : Int) := oB_ (by first | (with_reducible assumption) | assumption); obtain ⟨ad525, e525, hx525_0⟩ := Kd.at_int (Kd.R_reads' HO522.out).2.2 1 p525 q525; obtain rfl : ad524 = ad525 := (by injection e525); (try simp only [show (1 : Int).toNat = 1 from rfl, Nat.reduceMul, Nat.reduceEqDiff, Go.Addr.add, ↓reduceIte] at hx525_0); have qi525 : (1 < t520.length) = True := eq_true (by omega); (try rw [show ((1 : Int)).toNat = 1 from rfl] at hx525_0); replace p525 := eq_true p525; replace q525 := eq_true q525; have p526 : 0 ≤ (2 : Int) := (by omega); have q526 : 2 < (t520.length : Int) := oB_ (by first | (with_reducible assumption) | assumption); obtain ⟨ad526, e526, hx526_0⟩ := Kd.at_int (Kd.R_reads' HO522.out).2.2 2 p526 q526; obtain rfl : ad524 = ad526 := (by injection e526); (try simp only [show (2 : Int).toNat = 2 from rfl, Nat.reduceMul, Nat.reduceEqDiff, Go.Addr.add, ↓reduceIte] at hx526_0); have qi526 : (2 < t520.length) = True := eq_true (by omega); (try rw [show ((2 : Int)).toNat = 2 from rfl] at hx526_0); replace p526 := eq_true p526; replace q526 := eq_true q526; have p527 : 0 ≤ (3 : Int) := (by omega); have q527 : 3 < (t520.length : Int) := oB_ (by first | (with_reducible assumption) | assumption); obtain ⟨ad527, e527, hx527_0⟩ := Kd.at_int (Kd.R_reads' HO522.out).2.2 3 p527 q527; obtain rfl : ad524 = ad527 := (by injection e527); (try simp only [show (3 : Int).toNat = 3 from rfl, Nat.reduceMul, Nat.reduceEqDiff, Go.Addr.add, ↓reduceIte] at hx527_0); have qi527 : (3 < t520.length) = True := eq_true (by omega); (try rw [show ((3 : Int)).toNat = 3 from rfl] at hx527_0); replace p527 := eq_true p527; replace q527 := eq_true q527)))
      go_ret
      exact ⟨by first | rfl | (simp [errW_none, errW_some] <;> rfl) | (simp [*, errW_none, errW_some] <;> rfl), by repeat (first | (with_reducible first | exact HB.out | apply bA_ | apply bB_ | apply bC_ | refine bD_ ?_ GE519.out) | exact HB.out)⟩
     ·rw [if_neg c8] at H
      exact absurd H (by simp)
    ·rw [if_neg c7] at H
     exact absurd H (by simp)
   ·rw [if_neg c6] at H
    exact absurd H (by simp)
  ·rw [if_neg c5] at H
   exact absurd H (by simp)
 ·replace c4 := Bool.eq_false_iff.mpr c4
  subst c4
  have H1 : (some (-1)) = some r := by rw [if_neg (show ¬ (false = true) by decide)] at H; exact H
  clear H
  have H := H1
  clear H1
  obtain rfl := Option.some.inj H
  go_enter Try.func109, Try.ntmps109
  go_wp2_with (first | ((with_reducible refine gB_ (N := 2) rfl ?_); refine xA_ ?hg (N := 2) ?hd (cs := #[.slice A0_0 l0_0.length c0_0, .slice A0_1 l0_1.length c0_1]) (t := 27) ?hr ?_; (case hd => rfl); (case hg => rfl); (case hr => first | (go_simp; done) | (go_simp; rfl)); intro gb519 hg w13 hbox hb; have n0_ := A_ (bE_ (by repeat (first | (with_reducible first | exact HB.out | apply bA_ | apply bB_ | apply bC_) | exact HB.out)) hb); have n1_ := A_ (hbox); have n2_ := A_ ((by rw [hg]; exact (bF_ (by repeat (first | (with_reducible first | exact HB.out | apply bA_ | apply bB_ | apply bC_) | exact HB.out))) : w.heap.size ≤ gb519)); have n3_ := A_ ((by rw [hg]; exact (bF_ (by repeat (first | (with_reducible first | exact HB.out | apply bA_ | apply bB_ | apply bC_) | exact HB.out))) : w.heap.size ≤ gb519)); clear HB; have HB := n0_; have BK519 := n1_; have GW519 := n2_; have GE519 := n3_; clear n0_ n1_ n2_ n3_; clear hb hbox hg; have hcz14_0 := cz0_ BK519.out; have hcz14_1 := cz1_ BK519.out; have hfz14_0 := kD_ BK519.out 0; have hfz14_1 := kD_ BK519.out 1) | (go_at_call 141; (with_reducible refine (Z8.calls k _ _ l0_0 _ _ l0_1 _ _ l1 t520 false _ ?side1 ?side2 ?side3 ?side4 ?side5 ?side6 A3.out).mono ?_); (case side1 => repeat (first | exact (cD_ HR0_0.out HB.out) | (with_reducible first | refine cA_ ?_ _ | refine cB_ ?_ _ | refine cC_ ?_))); (case side2 => exact HC0_0.out); (case side3 => repeat (first | exact (cD_ HR0_1.out HB.out) | (with_reducible first | refine cA_ ?_ _ | refine cB_ ?_ _ | refine cC_ ?_))); (case side4 => exact HC0_1.out); (case side5 => repeat (first | exact (cD_ HR1.out HB.out) | (with_reducible first | refine cA_ ?_ _ | refine cB_ ?_ _ | refine cC_ ?_))); (case side6 => exact HC1.out); rintro e w15 ⟨v521, rfl, ho0, hb⟩; have n0_ := A_ (rE_ ho0 (bF_ (by repeat (first | (with_reducible first | exact HB.out | apply bA_ | apply bB_ | apply bC_ | refine bD_ ?_ GE519.out) | exact HB.out)))); have n1_ := A_ (kE_ (g := gb519) (by (with_reducible repeat (first | refine kA_ ?_ _ | refine kB_ ?_ | refine kC_ ?_ _)); exact BK519.out) hb); have n2_ := A_ (bE_ (by repeat (first | (with_reducible first | exact HB.out | apply bA_ | apply bB_ | apply bC_ | refine bD_ ?_ GE519.out) | exact HB.out)) hb); clear BK519; clear HB; have HO522 := n0_; have BK519 := n1_; have HB := n2_; clear n0_ n1_ n2_; (try clear hb); (try clear hb2); (try clear hk); (try clear hi); (try clear ho0)))
  repeat (go_quiet (first | ((with_reducible refine gB_ (N := 2) rfl ?_); refine xA_ ?hg (N := 2) ?hd (cs := #[.slice A0_0 l0_0.length c0_0, .slice A0_1 l0_1.length c0_1]) (t := 27) ?hr ?_; (case hd => rfl); (case hg => rfl); (case hr => first | (go_simp; done) | (go_simp; rfl)); intro gb519 hg w13 hbox hb; have n0_ := A_ (bE_ (by repeat (first | (with_reducible first | exact HB.out | apply bA_ | apply bB_ | apply bC_) | exact HB.out)) hb); have n1_ := A_ (hbox); have n2_ := A_ ((by rw [hg]; exact (bF_ (by repeat (first | (with_reducible first | exact HB.out | apply bA_ | apply bB_ | apply bC_) | exact HB.out))) : w.heap.size ≤ gb519)); have n3_ := A_ ((by rw [hg]; exact (bF_ (by repeat (first | (with_reducible first | exact HB.out | apply bA_ | apply bB_ | apply bC_) | exact HB.out))) : w.heap.size ≤ gb519)); clear HB; have HB := n0_; have BK519 := n1_; have GW519 := n2_; have GE519 := n3_; clear n0_ n1_ n2_ n3_; clear hb hbox hg; have hcz14_0 := cz0_ BK519.out; have hcz14_1 := cz1_ BK519.out; have hfz14_0 := kD_ BK519.out 0; have hfz14_1 := kD_ BK519.out 1) | (go_at_call 141; (with_reducible refine (Z8.calls k _ _ l0_0 _ _ l0_1 _ _ l1 t520 false _ ?side1 ?side2 ?side3 ?side4 ?side5 ?side6 A3.out).mono ?_); (case side1 => repeat (first | exact (cD_ HR0_0.out HB.out) | (with_reducible first | refine cA_ ?_ _ | refine cB_ ?_ _ | refine cC_ ?_))); (case side2 => exact HC0_0.out); (case side3 => repeat (first | exact (cD_ HR0_1.out HB.out) | (with_reducible first | refine cA_ ?_ _ | refine cB_ ?_ _ | refine cC_ ?_))); (case side4 => exact HC0_1.out); (case side5 => repeat (first | exact (cD_ HR1.out HB.out) | (with_reducible first | refine cA_ ?_ _ | refine cB_ ?_ _ | refine cC_ ?_))); (case side6 => exact HC1.out); rintro e w15 ⟨v521, rfl, ho0, hb⟩; have n0_ := A_ (rE_ ho0 (bF_ (by repeat (first | (with_reducible first | exact HB.out | apply bA_ | apply bB_ | apply bC_ | refine bD_ ?_ GE519.out) | exact HB.out)))); have n1_ := A_ (kE_ (g := gb519) (by (with_reducible repeat (first | refine kA_ ?_ _ | refine kB_ ?_ | refine kC_ ?_ _)); exact BK519.out) hb); have n2_ := A_ (bE_ (by repeat (first | (with_reducible first | exact HB.out | apply bA_ | apply bB_ | apply bC_ | refine bD_ ?_ GE519.out) | exact HB.out)) hb); clear BK519; clear HB; have HO522 := n0_; have BK519 := n1_; have HB := n2_; clear n0_ n1_ n2_; (try clear hb); (try clear hb2); (try clear hk); (try clear hi); (try clear ho0))); try go_wp2_with (first | ((with_reducible refine gB_ (N := 2) rfl ?_); refine xA_ ?hg (N := 2) ?hd (cs := #[.slice A0_0 l0_0.length c0_0, .slice A0_1 l0_1.length c0_1]) (t := 27) ?hr ?_; (case hd => rfl); (case hg => rfl); (case hr => first | (go_simp; done) | (go_simp; rfl)); intro gb519 hg w13 hbox hb; have n0_ := A_ (bE_ (by repeat (first | (with_reducible first | exact HB.out | apply bA_ | apply bB_ | apply bC_) | exact HB.out)) hb); have n1_ := A_ (hbox); have n2_ := A_ ((by rw [hg]; exact (bF_ (by repeat (first | (with_reducible first | exact HB.out | apply bA_ | apply bB_ | apply bC_) | exact HB.out))) : w.heap.size ≤ gb519)); have n3_ := A_ ((by rw [hg]; exact (bF_ (by repeat (first | (with_reducible first | exact HB.out | apply bA_ | apply bB_ | apply bC_) | exact HB.out))) : w.heap.size ≤ gb519)); clear HB; have HB := n0_; have BK519 := n1_; have GW519 := n2_; have GE519 := n3_; clear n0_ n1_ n2_ n3_; clear hb hbox hg; have hcz14_0 := cz0_ BK519.out; have hcz14_1 := cz1_ BK519.out; have hfz14_0 := kD_ BK519.out 0; have hfz14_1 := kD_ BK519.out 1) | (go_at_call 141; (with_reducible refine (Z8.calls k _ _ l0_0 _ _ l0_1 _ _ l1 t520 false _ ?side1 ?side2 ?side3 ?side4 ?side5 ?side6 A3.out).mono ?_); (case side1 => repeat (first | exact (cD_ HR0_0.out HB.out) | (with_reducible first | refine cA_ ?_ _ | refine cB_ ?_ _ | refine cC_ ?_))); (case side2 => exact HC0_0.out); (case side3 => repeat (first | exact (cD_ HR0_1.out HB.out) | (with_reducible first | refine cA_ ?_ _ | refine cB_ ?_ _ | refine cC_ ?_))); (case side4 => exact HC0_1.out); (case side5 => repeat (first | exact (cD_ HR1.out HB.out) | (with_reducible first | refine cA_ ?_ _ | refine cB_ ?_ _ | refine cC_ ?_))); (case side6 => exact HC1.out); rintro e w15 ⟨v521, rfl, ho0, hb⟩; have n0_ := A_ (rE_ ho0 (bF_ (by repeat (first | (with_reducible first | exact HB.out | apply bA_ | apply bB_ | apply bC_ | refine bD_ ?_ GE519.out) | exact HB.out)))); have n1_ := A_ (kE_ (g := gb519) (by (with_reducible repeat (first | refine kA_ ?_ _ | refine kB_ ?_ | refine kC_ ?_ _)); exact BK519.out) hb); have n2_ := A_ (bE_ (by repeat (first | (with_reducible first | exact HB.out | apply bA_ | apply bB_ | apply bC_ | refine bD_ ?_ GE519.out) | exact HB.out)) hb); clear BK519; clear HB; have HO522 := n0_; have BK519 := n1_; have HB := n2_; clear n0_ n1_ n2_; (try clear hb); (try clear hb2); (try clear hk); (try clear hi); (try clear ho0))))
  go_ret
  exact ⟨by first | rfl | (simp [errW_none, errW_some] <;> rfl) | (simp [*, errW_none, errW_some] <;> rfl), by repeat (first | (with_reducible first | exact HB.out | apply bA_ | apply bB_ | apply bC_ | refine bD_ ?_ GE519.out) | exact HB.out)⟩
end Go.Proofs.Ytbdnellgioimbaa.A
end
