/- Lemmas for the row FnExactIsHyperelliptic: the program's functions told as plain functions, and plain mathematics. No conditions. -/
import Derived.Test.YtbdnellgioimbaaQFnExactIsHyperelliptic1
section
namespace Go.Proofs.Ytbdnellgioimbaa.A
open Go.RowKit Go.Proofs.YtbdnellgioimbaaW.PrintWords Go.Proofs.YtbdnellgioimbaaW.PrintLast Go.Proofs.YtbdnellgioimbaaW.PrintMore
attribute [local go_sem] max2_int min2_int max_two min_two max_three min_three max_four min_four
set_option linter.unusedVariables false
set_option linter.unusedSimpArgs false
mutual
def Z26.l0 : Nat → List Int → List (List Int) → List Bool → Int → Int → Option ((List (List Int)))
 | 0, _, _, _, _, _ => none
 | k + 1, x0, x3, x4, x16, x17 => if x17 < x16 then (Z26.l1 k x0 x3 x4 (([] : List Int)) x17 x16 x17) else (some x3)
def Z26.l1 : Nat → List Int → List (List Int) → List Bool → List Int → Int → Int → Int → Option ((List (List Int)))
 | 0, _, _, _, _, _, _, _ => none
 | k + 1, x0, x3, x4, x6, x7, x16, x17 => if 0 ≤ x7 then (if x7 < (x4.length : Int) then (if rdOf false x4 x7 = true then (if (x6.length : Int) > 0 then (if x3.length < 5864062014805 then (Z26.l0 k x0 (x3 ++ [x6]) x4 x16 (wrap64 (x17 + 1))) else (none)) else (Z26.l0 k x0 x3 x4 x16 (wrap64 (x17 + 1)))) else (if x6.length < 17592186044416 then (if x7 < (x0.length : Int) then (Z26.l1 k x0 x3 (x4.set (x7 : Int).toNat true) (x6 ++ [x7]) (rd x0 x7) x16 x17) else (none)) else (none))) else (none)) else (none)
end
def Z26.f (k : Nat) (l0 : List Int) : Option ((List (List Int))) := (Z43.f k l0).bind fun t205 => (if t205 = true then (if 0 ≤ (l0.length : Int) then (if ((l0.length : Int) : Int).toNat ≤ 281474976710656 then (Z26.l0 k l0 (([] : List (List Int))) (List.replicate ((l0.length : Int) : Int).toNat false) (l0.length : Int) 0) else (none)) else (none)) else (some ([] : List (List Int))))
theorem Z26.mono_l : ∀ k, (∀ y0 y1 y2 y3 y4, LeO (Z26.l0 k y0 y1 y2 y3 y4) (Z26.l0 (k + 1) y0 y1 y2 y3 y4)) ∧ (∀ y0 y1 y2 y3 y4 y5 y6, LeO (Z26.l1 k y0 y1 y2 y3 y4 y5 y6) (Z26.l1 (k + 1) y0 y1 y2 y3 y4 y5 y6))
 | 0 => ⟨fun _ _ _ _ _ r h => by simp [Z26.l0] at h, fun _ _ _ _ _ _ _ r h => by simp [Z26.l1] at h⟩
 | k + 1 => by
  obtain ⟨ih0, ih1⟩ := Z26.mono_l k
  refine ⟨?_, ?_⟩
  ·intro y0 y1 y2 y3 y4
   unfold Z26.l0
   repeat' first
   | (with_reducible exact ih0 _ _ _ _ _)
   | (with_reducible exact ih1 _ _ _ _ _ _ _)
   | (with_reducible exact Z43.mono _ _)
   | (with_reducible exact LeO.refl _)
   | (with_reducible exact LeO.none _)
   | (with_reducible refine LeO.ite ?_ ?_)
   | (with_reducible refine LeO.bind ?_ (fun _ => ?_))
   | exact ih0 _ _ _ _ _
   | exact ih1 _ _ _ _ _ _ _
   | exact Z43.mono _ _
   | exact LeO.none _
   | refine LeO.ite ?_ ?_
   | refine LeO.bind ?_ (fun _ => ?_)
  ·intro y0 y1 y2 y3 y4 y5 y6
   unfold Z26.l1
   repeat' first
   | (with_reducible exact ih0 _ _ _ _ _)
   | (with_reducible exact ih1 _ _ _ _ _ _ _)
   | (with_reducible exact Z43.mono _ _)
   | (with_reducible exact LeO.refl _)
   | (with_reducible exact LeO.none _)
   | (with_reducible refine LeO.ite ?_ ?_)
   | (with_reducible refine LeO.bind ?_ (fun _ => ?_))
   | exact ih0 _ _ _ _ _
   | exact ih1 _ _ _ _ _ _ _
   | exact Z43.mono _ _
   | exact LeO.none _
   | refine LeO.ite ?_ ?_
   | refine LeO.bind ?_ (fun _ => ?_)
theorem Z26.mono : ∀ a0 k, LeO (Z26.f k a0) (Z26.f (k + 1) a0) := by
 intro a0 k
 obtain ⟨ih0, ih1⟩ := Z26.mono_l k
 unfold Z26.f
 repeat' first
   | (with_reducible exact ih0 _ _ _ _ _)
   | (with_reducible exact ih1 _ _ _ _ _ _ _)
   | (with_reducible exact Z43.mono _ _)
   | (with_reducible exact LeO.refl _)
   | (with_reducible exact LeO.none _)
   | (with_reducible refine LeO.ite ?_ ?_)
   | (with_reducible refine LeO.bind ?_ (fun _ => ?_))
   | exact ih0 _ _ _ _ _
   | exact ih1 _ _ _ _ _ _ _
   | exact Z43.mono _ _
   | exact LeO.none _
   | refine LeO.ite ?_ ?_
   | refine LeO.bind ?_ (fun _ => ?_)
set_option maxHeartbeats 8000000 in
set_option maxRecDepth 100000 in
theorem Z26.calls (k : Nat) (A0 : Option Addr) (c0 : Nat) (l0 : List Int) (r : List (List Int)) (w : World) (hr0 : Kd.C (Kd.int .i64) w A0 l0.length l0) (hc0 : l0.length ≤ c0) (h : Z26.f k l0 = some r) :
  Calls Try.prog 111 #[.slice A0 l0.length c0] w fun e w' => ∃ v0_ : Value, e = .returned (v0_) ∧ Kd.S (Kd.slice 3 (Kd.int .i64)) 22 w' w.heap.size (fun _ => True) v0_ r ∧ Below w.heap.size w w' := by
 have HR0 := A_ hr0
 have HC0 := A_ hc0
 clear hr0 hc0
 have HB := A_ (Below.refl w.heap.size w)
 have H : ((Z43.f k l0).bind fun t205 => (if t205 = true then (if 0 ≤ (l0.length : Int) then (if ((l0.length : Int) : Int).toNat ≤ 281474976710656 then (Z26.l0 k l0 (([] : List (List Int))) (List.replicate ((l0.length : Int) : Int).toNat false) (l0.length : Int) 0) else (none)) else (none)) else (some ([] : List (List Int))))) = some r := h
 clear h
 replace H := Option.bind_eq_some_iff.mp H
 obtain ⟨t205, A20, H⟩ := H
 replace H : (if t205 = true then (if 0 ≤ (l0.length : Int) then (if ((l0.length : Int) : Int).toNat ≤ 281474976710656 then (Z26.l0 k l0 (([] : List (List Int))) (List.replicate ((l0.length : Int) : Int).toNat false) (l0.length : Int) 0) else (none)) else (none)) else (some ([] : List (List Int)))) = some r := H
 have A2 := A_ A20
 clear A20
 by_cases c3 : t205 = true
 ·subst c3
  have H1 : (if 0 ≤ (l0.length : Int) then (if ((l0.length : Int) : Int).toNat ≤ 281474976710656 then (Z26.l0 k l0 (([] : List (List Int))) (List.replicate ((l0.length : Int) : Int).toNat false) (l0.length : Int) 0) else (none)) else (none)) = some r := by rw [if_pos rfl] at H; exact H
  clear H
  have H := H1
  clear H1
  obtain ⟨y206, hy206⟩ : ∃ y_ : List (List Int), y_ = (([] : List (List Int))) := ⟨_, rfl⟩
  replace H : (if 0 ≤ (l0.length : Int) then (if ((l0.length : Int) : Int).toNat ≤ 281474976710656 then (Z26.l0 k l0 y206 (List.replicate ((l0.length : Int) : Int).toNat false) (l0.length : Int) 0) else (none)) else (none)) = some r := by first | (rw [hy206]; with_reducible exact H) | (have H2_ := (oA_ _ _).symm.trans H; rw [hy206]; with_reducible exact H2_) | (have H2_ := (oA_ _ _).symm.trans H; with_reducible exact H2_) | with_reducible exact H | (rw [hy206]; exact H) | exact H
  have Ny206 := A_ hy206
  clear hy206
  by_cases c4 : 0 ≤ (l0.length : Int)
  ·rw [if_pos c4] at H
   have c4b0 := eq_true c4
   have c4b1 : decide (0 ≤ (l0.length : Int)) = true := oC_ c4
   clear c4
   by_cases c5 : ((l0.length : Int) : Int).toNat ≤ 281474976710656
   ·rw [if_pos c5] at H
    have c5b0 := eq_true c5
    have c5b1 : decide (((l0.length : Int) : Int).toNat ≤ 281474976710656) = true := oC_ c5
    clear c5
    obtain ⟨y209, hy209⟩ : ∃ y_ : List Bool, y_ = (List.replicate ((l0.length : Int) : Int).toNat false) := ⟨_, rfl⟩
    replace H : (Z26.l0 k l0 y206 y209 (l0.length : Int) 0) = some r := by first | (rw [hy209]; with_reducible exact H) | (have H2_ := (oA_ _ _).symm.trans H; rw [hy209]; with_reducible exact H2_) | (have H2_ := (oA_ _ _).symm.trans H; with_reducible exact H2_) | with_reducible exact H | (rw [hy209]; exact H) | exact H
    have Ny209 := A_ hy209
    clear hy209
    have H' := A_ H
    clear H
    go_enter Try.func111, Try.ntmps111
    go_wp2_with (first | ((with_reducible refine gA_ (f := 136) rfl ?_); refine goesL_ (some 9) rfl rfl Try.func136 (by kernel_rfl) rfl #[.slice A0 l0.length c0] rfl (by (try simp only [mA_, mB_, mC_]); first | done | rfl | (simp only [lA_, lB_]; rfl)) ?_; (with_reducible refine (Z43.calls k _ _ l0 true _ ?side1 ?side2 A2.out).mono ?_); (case side1 => repeat (first | exact HR0.out | (with_reducible first | refine cA_ ?_ _ | refine cB_ ?_ _ | refine cC_ ?_))); (case side2 => exact HC0.out); rintro e w' ⟨rfl, ⟨nd, rfl⟩⟩; refine ⟨_, rfl, ?_⟩) | ((with_reducible refine gB_ (N := 11) rfl ?_); refine Kd.S_lit (Kd.slice 3 (Kd.int .i64)) _ 22 ?hg (N := 11) ?hd (xs := ([] : List (List Int))) (inner := []) (ok := fun _ => True) (okp := fun _ => True) ?hr ?hp (fun _ hk => hk) trivial (Below.refl _ _) (nA_ _) (by simp) ?_; (case hd => rfl); (case hg => rfl); (case hr => first | (go_simp; done) | (go_simp; rfl)); (case hp => exact (Reps.none _ _)); intro v207 w6 ho7 hb hg_ hnew_; clear hg_ hnew_; (first | rw [← Ny206.out] at ho7 | (simp only [Int.reduceToNat] at ho7; rw [← Ny206.out] at ho7)); have n0_ := A_ (Kd.S_lower ho7 (bF_ (by repeat (first | (with_reducible first | exact HB.out | apply bA_ | apply bB_ | apply bC_) | exact HB.out)))); have n1_ := A_ (bE_ (by repeat (first | (with_reducible first | exact HB.out | apply bA_ | apply bB_ | apply bC_) | exact HB.out)) hb); clear HB; have HO208 := n0_; have HB := n1_; clear n0_ n1_; clear hb ho7) | ((with_reducible refine gB_ (N := 14) rfl ?_); refine Kd.R_make Kd.bool _ 4 rfl (N := 14) rfl 98 _ _ rfl (l0.length : Int) rfl rfl Try.underlying98 (.bool false) 1 info4 rfl (by decide) (by omega) false (ok := fun _ => True) (okp := fun _ => True) rfl (fun _ hk => hk) trivial (oB_ (by first | (with_reducible assumption) | assumption)) (Nat.le_trans (Nat.mul_le_mul_right _ (oB_ (by first | (with_reducible assumption) | assumption) : (l0.length : Int).toNat ≤ 281474976710656)) (by omega)) (Below.refl _ _) (nA_ _) ?_; intro v210 w8 ho9 hb hg_ hnew_; clear hg_ hnew_; (first | rw [← Ny209.out] at ho9 | (simp only [Int.reduceToNat] at ho9; rw [← Ny209.out] at ho9)); have n0_ := A_ (Kd.S_below (by (with_reducible repeat (first | apply Kd.S_alloc | apply Kd.S_drewN | apply Kd.S_drew)); exact HO208.out) hb); have n1_ := A_ (rE_ ho9 (bF_ (by repeat (first | (with_reducible first | exact HB.out | apply bA_ | apply bB_ | apply bC_) | exact HB.out)))); have n2_ := A_ (bE_ (by repeat (first | (with_reducible first | exact HB.out | apply bA_ | apply bB_ | apply bC_) | exact HB.out)) hb); clear HO208; clear HB; have HO208 := n0_; have HO211 := n1_; have HB := n2_; clear n0_ n1_ n2_; clear hb ho9))
    go_loopg [3, 17] k (fun kq v3 v17 w' => ∃ (x3_1 : List (List Int)) (x4_1 : List Bool) (x17_1 : Int), v17 = .int .i64 x17_1 ∧ Aside0 (Z26.l0 kq l0 x3_1 x4_1 (l0.length : Int) x17_1 = some r) ∧ Aside0 (kq ≤ k) ∧ Aside0 (Kd.S (Kd.slice 3 (Kd.int .i64)) 22 w' w.heap.size (fun _ => True) v3 x3_1) ∧ Aside0 (Kd.R Kd.bool 4 w' w.heap.size (fun _ => True) v210 x4_1) ∧ Aside0 (Below w.heap.size w w'))
    case atStart => exact ⟨(y206), (y209), (0), (by first | rfl | (simp; done) | (simp [*]; done)), H', ⟨nA_ _⟩, ⟨by (with_reducible repeat (first | apply Kd.S_alloc | apply Kd.S_drewN | apply Kd.S_drew)); exact HO208.out⟩, ⟨by (with_reducible repeat (first | apply rA_ | apply rB_ | apply rC_)); exact HO211.out⟩, ⟨by repeat (first | (with_reducible first | exact HB.out | apply bA_ | apply bB_ | apply bC_) | exact HB.out)⟩⟩
    case round =>
     clear H'
     (try clear c1); (try clear p2); (try clear c3); (try clear c4); (try clear c4b0); (try clear c4b1); (try clear c5); (try clear c5b0); (try clear c5b1)
     obtain ⟨x3_1, x4_1, x17_1, rfl, HA, HK1, HO_3, HO_4, HB⟩ := hrel
     cases gk with
     | zero => exact absurd HA.out (by simp [Z26.l0])
     | succ k1 =>
      have H := HA.out
      clear HA
      simp only [Z26.l0] at H
      by_cases c10 : x17_1 < (l0.length : Int)
      ·rw [if_pos c10] at H
       have c10b0 : decide (x17_1 < (l0.length : Int)) = true := oC_ c10
       clear c10
       obtain ⟨y212, hy212⟩ : ∃ y_ : List Int, y_ = (([] : List Int)) := ⟨_, rfl⟩
       replace H : (Z26.l1 k1 l0 x3_1 x4_1 y212 x17_1 (l0.length : Int) x17_1) = some r := by first | (rw [hy212]; with_reducible exact H) | (have H2_ := (oA_ _ _).symm.trans H; rw [hy212]; with_reducible exact H2_) | (have H2_ := (oA_ _ _).symm.trans H; with_reducible exact H2_) | with_reducible exact H | (rw [hy212]; exact H) | exact H
       have Ny212 := A_ hy212
       clear hy212
       have H' := A_ H
       clear H
       go_wp2_with (first | ((with_reducible refine gB_ (N := 20) rfl ?_); refine Kd.R_lit (Kd.int .i64) _ 3 ?hg (N := 20) ?hd (xs := ([] : List Int)) (inner := []) (ok := fun _ => True) (okp := fun _ => True) ?hr ?hp (fun _ hk => hk) trivial (Below.refl _ _) (nA_ _) (by simp) ?_; (case hd => rfl); (case hg => rfl); (case hr => first | (go_simp; done) | (go_simp; rfl)); (case hp => exact (Reps.none _ _)); intro v213 w11 ho12 hb hg_ hnew_; clear hg_ hnew_; (first | rw [← Ny212.out] at ho12 | (simp only [Int.reduceToNat] at ho12; rw [← Ny212.out] at ho12)); have n0_ := A_ (Kd.S_elder' (by (with_reducible repeat (first | apply Kd.S_alloc | apply Kd.S_drewN | apply Kd.S_drew)); exact HO_3.out) (Kd.R_base ho12) hb); have n1_ := A_ (rD_ (by (with_reducible repeat (first | apply rA_ | apply rB_ | apply rC_)); exact HO_4.out) hb); have n2_ := A_ (rE_ ho12 (bF_ (by repeat (first | (with_reducible first | exact HB.out | apply bA_ | apply bB_ | apply bC_) | exact HB.out)))); have n3_ := A_ (bE_ (by repeat (first | (with_reducible first | exact HB.out | apply bA_ | apply bB_ | apply bC_) | exact HB.out)) hb); clear HO_3; clear HO_4; clear HB; have HO_3 := n0_; have HO_4 := n1_; have HO214 := n2_; have HB := n3_; clear n0_ n1_ n2_ n3_; clear hb ho12))
       go_loopg [6, 7] k1 (fun kq v6 v7 w' => ∃ (x4_2 : List Bool) (x6_2 : List Int) (x7_2 : Int), v7 = .int .i64 x7_2 ∧ Aside0 (Z26.l1 kq l0 x3_1 x4_2 x6_2 x7_2 (l0.length : Int) x17_1 = some r) ∧ Aside0 (kq ≤ k1) ∧ Aside0 (Kd.S (Kd.slice 3 (Kd.int .i64)) 22 w' w.heap.size (fun k_ => some k_ ≠ (v6 : Value).ownBlock) u3 x3_1) ∧ Aside0 (Kd.R Kd.bool 4 w' w.heap.size (fun _ => True) v210 x4_2) ∧ Aside0 (Kd.R (Kd.int .i64) 3 w' w.heap.size (fun _ => True) v6 x6_2) ∧ Aside0 (Below w.heap.size w w'))
       case atStart => exact ⟨(x4_1), (y212), (x17_1), (by first | rfl | (simp; done) | (simp [*]; done)), H', ⟨nA_ _⟩, ⟨by (with_reducible repeat (first | apply Kd.S_alloc | apply Kd.S_drewN | apply Kd.S_drew)); exact Kd.S_mono HO_3.out (fun _ hk => hk.2)⟩, ⟨by (with_reducible repeat (first | apply rA_ | apply rB_ | apply rC_)); exact HO_4.out⟩, ⟨by (with_reducible repeat (first | apply rA_ | apply rB_ | apply rC_)); exact HO214.out⟩, ⟨by repeat (first | (with_reducible first | exact HB.out | apply bA_ | apply bB_ | apply bC_) | exact HB.out)⟩⟩
       case round =>
        clear H'
        (try clear c1); (try clear p2); (try clear c3); (try clear c4); (try clear c4b0); (try clear c4b1); (try clear c5); (try clear c5b0); (try clear c5b1); (try clear c10); (try clear c10b0); (try clear c11); (try clear p2)
        obtain ⟨x4_2, x6_2, x7_2, rfl, HA, HK2, HO_3, HO_4, HO_6, HB⟩ := hrel
        cases gk with
        | zero => exact absurd HA.out (by simp [Z26.l1])
        | succ k2 =>
         have H := HA.out
         clear HA
         simp only [Z26.l1] at H
         by_cases c13 : 0 ≤ x7_2
         ·rw [if_pos c13] at H
          have c13b0 : decide (0 ≤ x7_2) = true := oC_ c13
          clear c13
          by_cases c14 : x7_2 < (x4_2.length : Int)
          ·rw [if_pos c14] at H
           have c14b0 : decide (x7_2 < (x4_2.length : Int)) = true := oC_ c14
           clear c14
           obtain ⟨bq15, hbq15⟩ : ∃ b_ : Bool, b_ = (rdOf false x4_2 x7_2) := ⟨_, rfl⟩
           replace H : (if bq15 = true then (if (x6_2.length : Int) > 0 then (if x3_1.length < 5864062014805 then (Z26.l0 k2 l0 (x3_1 ++ [x6_2]) x4_2 (l0.length : Int) (wrap64 (x17_1 + 1))) else (none)) else (Z26.l0 k2 l0 x3_1 x4_2 (l0.length : Int) (wrap64 (x17_1 + 1)))) else (if x6_2.length < 17592186044416 then (if x7_2 < (l0.length : Int) then (Z26.l1 k2 l0 x3_1 (x4_2.set (x7_2 : Int).toNat true) (x6_2 ++ [x7_2]) (rd l0 x7_2) (l0.length : Int) x17_1) else (none)) else (none))) = some r := by rw [← hbq15] at H; exact H
           have Nbq15 := A_ hbq15
           clear hbq15
           by_cases c16 : bq15 = true
           ·subst c16
            have H1 : (if (x6_2.length : Int) > 0 then (if x3_1.length < 5864062014805 then (Z26.l0 k2 l0 (x3_1 ++ [x6_2]) x4_2 (l0.length : Int) (wrap64 (x17_1 + 1))) else (none)) else (Z26.l0 k2 l0 x3_1 x4_2 (l0.length : Int) (wrap64 (x17_1 + 1)))) = some r := by rw [if_pos rfl] at H; exact H
            clear H
            have H := H1
            clear H1
            by_cases c17 : (x6_2.length : Int) > 0
            ·rw [if_pos c17] at H
             have c17b0 : decide (0 < (x6_2.length : Int)) = true := oC_ c17
             have c17b1 : decide (0 < x6_2.length) = true := oC_ (by omega)
             clear c17
             by_cases c18 : x3_1.length < 5864062014805
             ·rw [if_pos c18] at H
              have LMc18 := A_ c18
              clear c18
              obtain ⟨y216, hy216⟩ : ∃ y_ : List (List Int), y_ = (x3_1 ++ [x6_2]) := ⟨_, rfl⟩
              replace H : (Z26.l0 k2 l0 y216 x4_2 (l0.length : Int) (wrap64 (x17_1 + 1))) = some r := by first | (rw [hy216]; with_reducible exact H) | (have H2_ := (oA_ _ _).symm.trans H; rw [hy216]; with_reducible exact H2_) | (have H2_ := (oA_ _ _).symm.trans H; with_reducible exact H2_) | with_reducible exact H | (rw [hy216]; exact H) | exact H
              have Ny216 := A_ hy216
              clear hy216
              have H' := A_ H
              clear H
              obtain ⟨Ao19, co19, eo19⟩ := Kd.R_slice HO_4.out
              subst eo19
              have p215 : 0 ≤ (x7_2 : Int) := oB_ (by first | (with_reducible assumption) | assumption)
              have q215 : x7_2 < (x4_2.length : Int) := oB_ (by first | (with_reducible assumption) | assumption)
              obtain ⟨ad215, e215, hx215_0⟩ := Kd.at_bool (Kd.R_reads' HO_4.out).2.2 x7_2 p215 q215
              (try rw [← Nbq15.out] at hx215_0)
              cases e215
              replace p215 := eq_true p215
              replace q215 := eq_true q215
              obtain ⟨Ao20, co20, eo20⟩ := Kd.R_slice HO_6.out
              subst eo20
              go_wp2_with (first | ((with_reducible refine gate_builtin (b := .append) (xs := #[.tmp 41, .tmp 43]) rfl ?_); at_builtin; refine Kd.S_append (Kd.slice 3 (Kd.int .i64)) (w0 := w) w.heap.size rfl (.tmp 41) (.tmp 43) 40 22 (.slice none 0 0) 24 rfl Try.underlying40 info22 rfl (by decide) (by omega) u3 x3_1 x6_2 [.slice Ao20 x6_2.length co20] (fun _ => True) (fun k_ => some k_ = (.slice Ao20 x6_2.length co20 : Value).ownBlock) rfl rfl ?aP (fun k_ hk_ => ((Kd.R_mono (ok' := fun k_ => ((fun _ => True)) k_ ∧ some k_ ≠ (u3 : Value).ownBlock) (Kd.R_apart' (HO_6.out) (Kd.S_typed HO_3.out) (by decide)) (fun k_ hk => ⟨trivial, hk.2⟩))).1 k_ hk_.symm) ?aF ?aO ?aB ?aS ?aL ?_; (case aP => exact Kd.M_row (Kd.R_mono (Kd.R_tight rfl (Kd.R_mono (ok' := fun k_ => ((fun _ => True)) k_ ∧ some k_ ≠ (u3 : Value).ownBlock) (Kd.R_apart' (HO_6.out) (Kd.S_typed HO_3.out) (by decide)) (fun k_ hk => ⟨trivial, hk.2⟩))) (fun _ h_ => h_))); (case aB => exact (by repeat (first | (with_reducible first | exact HB.out | apply bA_ | apply bB_ | apply bC_) | exact HB.out))); (case aF => exact (fun _ _ => trivial)); (case aO => exact (by (with_reducible repeat (first | apply Kd.S_alloc | apply Kd.S_drewN | apply Kd.S_drew)); exact Kd.S_mono HO_3.out (fun k_ hk => ⟨trivial, fun e_ => hk e_⟩))); (case aS => exact (bF_ (by repeat (first | (with_reducible first | exact HB.out | apply bA_ | apply bB_ | apply bC_) | exact HB.out)))); (case aL => have := LMc18.out; omega); intro v217 w21 ho hb hg hat; rw [← Ny216.out] at ho; have n0_ := A_ (Kd.R_over' (by (with_reducible repeat (first | apply rA_ | apply rB_ | apply rC_)); exact HO_4.out) (Kd.S_typed (by (with_reducible repeat (first | apply Kd.S_alloc | apply Kd.S_drewN | apply Kd.S_drew)); exact HO_3.out)) (by decide) hg); have n1_ := A_ (hb); have n2_ := A_ (ho); clear HO_4; clear HB; clear HO_3; clear HO_6; have HO_4 := n0_; have HB := n1_; have HO218 := n2_; clear n0_ n1_ n2_; clear ho hb hg hat))
              go_roundg k2
              case measure => have := HK1.out; have := HK2.out; omega
              case rel => exact ⟨(y216), (x4_2), (wrap64 (x17_1 + 1)), (by first | rfl | (simp; done) | (simp [*]; done)), H', ⟨by have := HK1.out; have := HK2.out; omega⟩, ⟨by (with_reducible repeat (first | apply Kd.S_alloc | apply Kd.S_drewN | apply Kd.S_drew)); exact HO218.out⟩, ⟨by (with_reducible repeat (first | apply rA_ | apply rB_ | apply rC_)); exact HO_4.out⟩, ⟨by repeat (first | (with_reducible first | exact HB.out | apply bA_ | apply bB_ | apply bC_) | exact HB.out)⟩⟩
             ·rw [if_neg c18] at H
              exact absurd H (by simp)
            ·rw [if_neg c17] at H
             have c17b0 : decide (0 < (x6_2.length : Int)) = false := oD_ c17
             have c17b1 : decide (0 < x6_2.length) = false := oD_ (by omega)
             clear c17
             have H' := A_ H
             clear H
             obtain ⟨Ao22, co22, eo22⟩ := Kd.R_slice HO_4.out
             subst eo22
             have p215 : 0 ≤ (x7_2 : Int) := oB_ (by first | (with_reducible assumption) | assumption)
             have q215 : x7_2 < (x4_2.length : Int) := oB_ (by first | (with_reducible assumption) | assumption)
             obtain ⟨ad215, e215, hx215_0⟩ := Kd.at_bool (Kd.R_reads' HO_4.out).2.2 x7_2 p215 q215
             (try rw [← Nbq15.out] at hx215_0)
             cases e215
             replace p215 := eq_true p215
             replace q215 := eq_true q215
             obtain ⟨Ao23, co23, eo23⟩ := Kd.R_slice HO_6.out
             subst eo23
             go_wp2
             go_roundg k2
             case measure => have := HK1.out; have := HK2.out; omega
             case rel => exact ⟨(x3_1), (x4_2), (wrap64 (x17_1 + 1)), (by first | rfl | (simp; done) | (simp [*]; done)), H', ⟨by have := HK1.out; have := HK2.out; omega⟩, ⟨by (with_reducible repeat (first | apply Kd.S_alloc | apply Kd.S_drewN | apply Kd.S_drew)); exact Kd.S_mono HO_3.out (fun _ hk => trivial)⟩, ⟨by (with_reducible repeat (first | apply rA_ | apply rB_ | apply rC_)); exact HO_4.out⟩, ⟨by repeat (first | (with_reducible first | exact HB.out | apply bA_ | apply bB_ | apply bC_) | exact HB.out)⟩⟩
           ·replace c16 := Bool.eq_false_iff.mpr c16
            subst c16
            have H1 : (if x6_2.length < 17592186044416 then (if x7_2 < (l0.length : Int) then (Z26.l1 k2 l0 x3_1 (x4_2.set (x7_2 : Int).toNat true) (x6_2 ++ [x7_2]) (rd l0 x7_2) (l0.length : Int) x17_1) else (none)) else (none)) = some r := by rw [if_neg (show ¬ (false = true) by decide)] at H; exact H
            clear H
            have H := H1
            clear H1
            obtain ⟨y219, hy219⟩ : ∃ y_ : List Bool, y_ = (x4_2.set (x7_2 : Int).toNat true) := ⟨_, rfl⟩
            replace H : (if x6_2.length < 17592186044416 then (if x7_2 < (l0.length : Int) then (Z26.l1 k2 l0 x3_1 y219 (x6_2 ++ [x7_2]) (rd l0 x7_2) (l0.length : Int) x17_1) else (none)) else (none)) = some r := by first | (rw [hy219]; with_reducible exact H) | (have H2_ := (oA_ _ _).symm.trans H; rw [hy219]; with_reducible exact H2_) | (have H2_ := (oA_ _ _).symm.trans H; with_reducible exact H2_) | with_reducible exact H | (rw [hy219]; exact H) | exact H
            have Ny219 := A_ hy219
            clear hy219
            by_cases c25 : x6_2.length < 17592186044416
            ·rw [if_pos c25] at H
             have LMc25 := A_ c25
             clear c25
             obtain ⟨y220, hy220⟩ : ∃ y_ : List Int, y_ = (x6_2 ++ [x7_2]) := ⟨_, rfl⟩
             replace H : (if x7_2 < (l0.length : Int) then (Z26.l1 k2 l0 x3_1 y219 y220 (rd l0 x7_2) (l0.length : Int) x17_1) else (none)) = some r := by first | (rw [hy220]; with_reducible exact H) | (have H2_ := (oA_ _ _).symm.trans H; rw [hy220]; with_reducible exact H2_) | (have H2_ := (oA_ _ _).symm.trans H; with_reducible exact H2_) | with_reducible exact H | (rw [hy220]; exact H) | exact H
             have Ny220 := A_ hy220
             clear hy220
             by_cases c26 : x7_2 < (l0.length : Int)
             ·rw [if_pos c26] at H
              have c26b0 : decide (x7_2 < (l0.length : Int)) = true := oC_ c26
              clear c26
              have H' := A_ H
              clear H
              obtain ⟨Ao27, co27, eo27⟩ := Kd.R_slice HO_4.out
              subst eo27
              have p215 : 0 ≤ (x7_2 : Int) := oB_ (by first | (with_reducible assumption) | assumption)
              have q215 : x7_2 < (x4_2.length : Int) := oB_ (by first | (with_reducible assumption) | assumption)
              obtain ⟨ad215, e215, hx215_0⟩ := Kd.at_bool (Kd.R_reads' HO_4.out).2.2 x7_2 p215 q215
              (try rw [← Nbq15.out] at hx215_0)
              cases e215
              replace p215 := eq_true p215
              replace q215 := eq_true q215
              have p24 : 0 ≤ (x7_2 : Int) := oB_ (by first | (with_reducible assumption) | assumption)
              have q24 : (x7_2 : Int) < ((x4_2.length : Int) : Int) := oB_ (by first | (with_reducible assumption) | assumption)
              obtain ⟨go24, co24, eo24, gb24, gl24, cl24, HG24⟩ := Kd.R_form HO_4.out (by omega)
              (first | cases eo24 | (injection eo24 with ea_ en_ ec_; (first | subst ea_ | (injection ea_ with ea_; subst ea_)); subst ec_; clear en_))
              have GB24 := A_ gb24
              have GG24 := A_ HG24
              clear gb24 gl24 HG24
              (first | simp only [add_plain] at hx215_0 | skip)
              obtain ⟨hx24_0, hf24_0⟩ := Kd.R_celln false HO_4.out (x7_2 : Int) p24 q24
              replace p24 := eq_true p24
              replace q24 := eq_true q24
              have HP28 := Kd.R_putg HO_4.out (x7_2 : Int) true
              go_wp2_with (first | ((with_reducible refine gate_store (t := 4) (p := 33) rfl ?_); refine store_event (t := 4) (p := 33) (v := ?vo_w29) (w1 := (wr.setCell ⟨go24, (x7_2 : Int).toNat, none⟩ (.bool true))) ?hg ?ho ?hn ?hr ?_; (case ho => rfl); (case hg => rfl); (case hn => rfl); (case hr => first | (go_simp; done) | (go_simp; rfl)); intro w29 hw; have hg : wr.grownBy w29 (some go24) := (by rw [hw]; exact HP28.2); have hp_ : Kd.R Kd.bool 4 w29 w.heap.size (fun _ => True) (.slice (some ⟨go24, 0, none⟩) x4_2.length co27) y219 := (by rw [hw, Ny219.out]; exact HP28.1); clear HP28; have n0_ := A_ (Kd.S_over' (v := (.slice (some ⟨go24, 0, none⟩) x4_2.length co27)) (by (with_reducible repeat (first | apply Kd.S_alloc | apply Kd.S_drewN | apply Kd.S_drew)); exact HO_3.out) (Kd.R_typed HO_4.out) (by decide) hg); have n1_ := A_ (hp_); have n2_ := A_ (Kd.R_over' (v := (.slice (some ⟨go24, 0, none⟩) x4_2.length co27)) (by (with_reducible repeat (first | apply rA_ | apply rB_ | apply rC_)); exact HO_6.out) (Kd.R_typed HO_4.out) (by decide) hg); have n3_ := A_ ((by rw [hw]; exact bD_ (HB.out) GB24.out : Below w.heap.size w w29)); clear HO_3; clear HO_4; clear HO_6; clear HB; have HO_3 := n0_; have HO_4 := n1_; have HO_6 := n2_; have HB := n3_; clear n0_ n1_ n2_ n3_; clear hg hw hp_) | ((with_reducible refine gate_builtin (b := .append) (xs := #[.tmp 34, .tmp 36]) rfl ?_); at_builtin; refine Kd.R_append (Kd.int .i64) (w0 := w) w.heap.size rfl (.tmp 34) (.tmp 36) 22 3 (.int .i64 0) 8 rfl Try.underlying22 info3 rfl (by decide) (by omega) u6 x6_2 x7_2 [.int .i64 x7_2] (fun _ => True) (fun _ => False) rfl rfl ?aP (fun _ hk => hk.elim) ?aF ?aO ?aB ?aS ?aL ?_; (case aP => exact rfl); (case aB => exact (by repeat (first | (with_reducible first | exact HB.out | apply bA_ | apply bB_ | apply bC_) | exact HB.out))); (case aF => exact (fun _ _ => trivial)); (case aO => exact (by (with_reducible repeat (first | apply rA_ | apply rB_ | apply rC_)); exact HO_6.out)); (case aS => exact (bF_ (by repeat (first | (with_reducible first | exact HB.out | apply bA_ | apply bB_ | apply bC_) | exact HB.out)))); (case aL => have := LMc25.out; omega); intro v221 w30 ho hb hg hat; rw [← Ny220.out] at ho; have n0_ := A_ (Kd.S_after (ok := (fun _ => True)) (by (with_reducible repeat (first | apply Kd.S_alloc | apply Kd.S_drewN | apply Kd.S_drew)); exact Kd.S_mono HO_3.out (fun _ hk => ⟨trivial, hk⟩)) hg hat); have n1_ := A_ (Kd.R_over' (by (with_reducible repeat (first | apply rA_ | apply rB_ | apply rC_)); exact HO_4.out) (Kd.R_typed (by (with_reducible repeat (first | apply rA_ | apply rB_ | apply rC_)); exact HO_6.out)) (by decide) hg); have n2_ := A_ (hb); have n3_ := A_ (ho); clear HO_3; clear HO_4; clear HB; clear HO_6; have HO_3 := n0_; have HO_4 := n1_; have HB := n2_; have HO222 := n3_; clear n0_ n1_ n2_ n3_; clear ho hb hg hat; have p223 : 0 ≤ (x7_2 : Int) := oB_ (by first | (with_reducible assumption) | assumption); have q223 : x7_2 < (l0.length : Int) := oB_ (by first | (with_reducible assumption) | assumption); obtain ⟨ad223, e223, hx223_0⟩ := Kd.at_int HR0.out x7_2 p223 q223; cases e223; replace hx223_0 := (HB.out.cell (World.block_lt_of_cell? w _ hx223_0)).trans hx223_0; replace p223 := eq_true p223; replace q223 := eq_true q223))
              go_roundg k2
              case measure => have := HK1.out; have := HK2.out; omega
              case rel => exact ⟨(y219), (y220), (rd l0 x7_2), (by first | rfl | (simp; done) | (simp [*]; done)), H', ⟨by have := HK1.out; have := HK2.out; omega⟩, ⟨by (with_reducible repeat (first | apply Kd.S_alloc | apply Kd.S_drewN | apply Kd.S_drew)); exact Kd.S_mono HO_3.out (fun _ hk => hk.2)⟩, ⟨by (with_reducible repeat (first | apply rA_ | apply rB_ | apply rC_)); exact HO_4.out⟩, ⟨by (with_reducible repeat (first | apply rA_ | apply rB_ | apply rC_)); exact HO222.out⟩, ⟨by repeat (first | (with_reducible first | exact HB.out | apply bA_ | apply bB_ | apply bC_) | exact HB.out)⟩⟩
             ·rw [if_neg c26] at H
              exact absurd H (by simp)
            ·rw [if_neg c25] at H
             exact absurd H (by simp)
          ·rw [if_neg c14] at H
           exact absurd H (by simp)
         ·rw [if_neg c13] at H
          exact absurd H (by simp)
      ·rw [if_neg c10] at H
       have c10b0 : decide (x17_1 < (l0.length : Int)) = false := oD_ c10
       clear c10
       obtain rfl := Option.some.inj H
       go_wp2
       go_ret
       exact ⟨_, by first | rfl | (simp [errW_none, errW_some] <;> rfl) | (simp [*, errW_none, errW_some] <;> rfl), by (with_reducible repeat (first | apply Kd.S_alloc | apply Kd.S_drewN | apply Kd.S_drew)); exact HO_3.out, by repeat (first | (with_reducible first | exact HB.out | apply bA_ | apply bB_ | apply bC_) | exact HB.out)⟩
   ·rw [if_neg c5] at H
    exact absurd H (by simp)
  ·rw [if_neg c4] at H
   exact absurd H (by simp)
 ·replace c3 := Bool.eq_false_iff.mpr c3
  subst c3
  have H1 : (some ([] : List (List Int))) = some r := by rw [if_neg (show ¬ (false = true) by decide)] at H; exact H
  clear H
  have H := H1
  clear H1
  obtain rfl := Option.some.inj H
  go_enter Try.func111, Try.ntmps111
  go_wp2_with (first | ((with_reducible refine gA_ (f := 136) rfl ?_); refine goesL_ (some 9) rfl rfl Try.func136 (by kernel_rfl) rfl #[.slice A0 l0.length c0] rfl (by (try simp only [mA_, mB_, mC_]); first | done | rfl | (simp only [lA_, lB_]; rfl)) ?_; (with_reducible refine (Z43.calls k _ _ l0 false _ ?side1 ?side2 A2.out).mono ?_); (case side1 => repeat (first | exact HR0.out | (with_reducible first | refine cA_ ?_ _ | refine cB_ ?_ _ | refine cC_ ?_))); (case side2 => exact HC0.out); rintro e w' ⟨rfl, ⟨nd, rfl⟩⟩; refine ⟨_, rfl, ?_⟩))
  go_ret
  exact ⟨_, by first | rfl | (simp [errW_none, errW_some] <;> rfl) | (simp [*, errW_none, errW_some] <;> rfl), by first | exact Kd.S_nil _ _ _ _ _ | exact Kd.N_nil _ _ _ _ _ | exact Kd.V_nil _ _ _ _ _ | exact Kd.Q_nil _ _ _ _ _ | exact Kd.R_nil _ _ _ _ _, by repeat (first | (with_reducible first | exact HB.out | apply bA_ | apply bB_ | apply bC_) | exact HB.out)⟩
end Go.Proofs.Ytbdnellgioimbaa.A
end
section
namespace Go.Proofs.Ytbdnellgioimbaa.A
open Go.RowKit Go.Proofs.YtbdnellgioimbaaW.PrintWords Go.Proofs.YtbdnellgioimbaaW.PrintLast Go.Proofs.YtbdnellgioimbaaW.PrintMore
attribute [local go_sem] max2_int min2_int max_two min_two max_three min_three max_four min_four
set_option linter.unusedVariables false
set_option linter.unusedSimpArgs false
def Z22.f (k : Nat) (l0_0 : List Int) (l0_1 : List Int) : Option (List Int) := (Z33.f k l0_0 l0_1).bind fun t225 => ((Z14.f k l0_0).bind fun t228 => ((Z14.f k l0_1).bind fun t231 => ((Z33.f k t228 t231).bind fun t234 => ((Z33.f k t225 t234).bind fun t237 => (some t237)))))
theorem Z22.mono : ∀ a0 a1 k, LeO (Z22.f k a0 a1) (Z22.f (k + 1) a0 a1) := by
 intro a0 a1 k
 unfold Z22.f
 repeat' first
   | (with_reducible exact Z14.mono _ _)
   | (with_reducible exact Z33.mono _ _ _)
   | (with_reducible exact LeO.refl _)
   | (with_reducible exact LeO.none _)
   | (with_reducible refine LeO.ite ?_ ?_)
   | (with_reducible refine LeO.bind ?_ (fun _ => ?_))
   | exact Z14.mono _ _
   | exact Z33.mono _ _ _
   | exact LeO.none _
   | refine LeO.ite ?_ ?_
   | refine LeO.bind ?_ (fun _ => ?_)
def Z22.T2 : Bool × List (List Nat × List Nat) := (true, [([], []), ([0], [0]), ([1], [1]), ([], []), ([3], [3]), ([4, 2], [4]), ([2, 5, 5], [2, 5]), ([6, 6, 0, 1, 2, 3, 4, 5, 6], [6])])
def Z22.B2 : List Nat := [0, 1, 3, 0, 8, 31, 63, 127]
theorem Z22.tab2 : rtab .any (opsOf Try.f142 2) = Z22.T2 := by kernel_rfl
theorem Z22.bits2 : waitsOk Z22.T2.2 Z22.B2 = true := by kernel_rfl
set_option maxHeartbeats 8000000 in
set_option maxRecDepth 100000 in
theorem Z22.calls (k : Nat) (A0_0 : Option Addr) (c0_0 : Nat) (l0_0 : List Int) (A0_1 : Option Addr) (c0_1 : Nat) (l0_1 : List Int) (r : List Int) (w : World) (hr0_0 : Kd.C (Kd.int .i64) w A0_0 l0_0.length l0_0) (hc0_0 : l0_0.length ≤ c0_0) (hr0_1 : Kd.C (Kd.int .i64) w A0_1 l0_1.length l0_1) (hc0_1 : l0_1.length ≤ c0_1) (h : Z22.f k l0_0 l0_1 = some r) :
  Calls Try.prog 142 #[.agg #[.slice A0_0 l0_0.length c0_0, .slice A0_1 l0_1.length c0_1]] w fun e w' => ∃ v0_ : Value, e = .returned (v0_) ∧ Kd.R (Kd.int .i64) 3 w' w.heap.size (fun _ => True) v0_ r ∧ Below w.heap.size w w' := by
 have hu27 := Try.underlying27
 have HR0_0 := A_ hr0_0
 have HC0_0 := A_ hc0_0
 clear hr0_0 hc0_0
 have HR0_1 := A_ hr0_1
 have HC0_1 := A_ hc0_1
 clear hr0_1 hc0_1
 have HB := A_ (Below.refl w.heap.size w)
 have H : ((Z33.f k l0_0 l0_1).bind fun t225 => ((Z14.f k l0_0).bind fun t228 => ((Z14.f k l0_1).bind fun t231 => ((Z33.f k t228 t231).bind fun t234 => ((Z33.f k t225 t234).bind fun t237 => (some t237)))))) = some r := h
 clear h
 replace H := Option.bind_eq_some_iff.mp H
 obtain ⟨t225, A20, H⟩ := H
 replace H : ((Z14.f k l0_0).bind fun t228 => ((Z14.f k l0_1).bind fun t231 => ((Z33.f k t228 t231).bind fun t234 => ((Z33.f k t225 t234).bind fun t237 => (some t237))))) = some r := H
 have A2 := A_ A20
 clear A20
 replace H := Option.bind_eq_some_iff.mp H
 obtain ⟨t228, A30, H⟩ := H
 replace H : ((Z14.f k l0_1).bind fun t231 => ((Z33.f k t228 t231).bind fun t234 => ((Z33.f k t225 t234).bind fun t237 => (some t237)))) = some r := H
 have A3 := A_ A30
 clear A30
 replace H := Option.bind_eq_some_iff.mp H
 obtain ⟨t231, A40, H⟩ := H
 replace H : ((Z33.f k t228 t231).bind fun t234 => ((Z33.f k t225 t234).bind fun t237 => (some t237))) = some r := H
 have A4 := A_ A40
 clear A40
 replace H := Option.bind_eq_some_iff.mp H
 obtain ⟨t234, A50, H⟩ := H
 replace H : ((Z33.f k t225 t234).bind fun t237 => (some t237)) = some r := H
 have A5 := A_ A50
 clear A50
 replace H := Option.bind_eq_some_iff.mp H
 obtain ⟨t237, A60, H⟩ := H
 replace H : (some t237) = some r := H
 have A6 := A_ A60
 clear A60
 obtain rfl := Option.some.inj H
 go_enter Try.func142, Try.ntmps142
 try go_wp2_with (first | ((with_reducible refine gB_ (N := 1) rfl ?_); refine xA_ ?hg (N := 1) ?hd (cs := #[.slice A0_0 l0_0.length c0_0, .slice A0_1 l0_1.length c0_1]) (t := 27) ?hr ?_; (case hd => rfl); (case hg => rfl); (case hr => first | (go_simp; done) | (go_simp; rfl)); intro gb224 hg w7 hbox hb; have n0_ := A_ (bE_ (by repeat (first | (with_reducible first | exact HB.out | apply bA_ | apply bB_ | apply bC_) | exact HB.out)) hb); have n1_ := A_ (hbox); have n2_ := A_ ((by rw [hg]; exact (bF_ (by repeat (first | (with_reducible first | exact HB.out | apply bA_ | apply bB_ | apply bC_) | exact HB.out))) : w.heap.size ≤ gb224)); have n3_ := A_ ((by rw [hg]; exact (bF_ (by repeat (first | (with_reducible first | exact HB.out | apply bA_ | apply bB_ | apply bC_) | exact HB.out))) : w.heap.size ≤ gb224)); clear HB; have HB := n0_; have BK224 := n1_; have GW224 := n2_; have GE224 := n3_; clear n0_ n1_ n2_ n3_; clear hb hbox hg; have hcz8_0 := cz0_ BK224.out; have hcz8_1 := cz1_ BK224.out; have hfz8_0 := kD_ BK224.out 0; have hfz8_1 := kD_ BK224.out 1) | ((with_reducible refine gA_ (f := 102) rfl ?_); refine goesL_ (some 9) rfl rfl Try.func102 (by kernel_rfl) rfl #[.slice A0_0 l0_0.length c0_0, .slice A0_1 l0_1.length c0_1] rfl (by (try simp only [mA_, mB_, mC_]); first | done | rfl | (simp only [lA_, lB_]; rfl)) ?_; (with_reducible refine (Z33.calls k _ _ l0_0 _ _ l0_1 t225 _ ?side1 ?side2 ?side3 ?side4 A2.out).mono ?_); (case side1 => repeat (first | exact (cD_ HR0_0.out HB.out) | (with_reducible first | refine cA_ ?_ _ | refine cB_ ?_ _ | refine cC_ ?_))); (case side2 => exact HC0_0.out); (case side3 => repeat (first | exact (cD_ HR0_1.out HB.out) | (with_reducible first | refine cA_ ?_ _ | refine cB_ ?_ _ | refine cC_ ?_))); (case side4 => exact HC0_1.out); rintro e w9 ⟨v226, rfl, ho0, hb⟩; refine ⟨_, rfl, ?_⟩; have n0_ := A_ (rE_ ho0 (bF_ (by repeat (first | (with_reducible first | exact HB.out | apply bA_ | apply bB_ | apply bC_ | refine bD_ ?_ GE224.out) | exact HB.out)))); have n1_ := A_ (kE_ (g := gb224) (by (with_reducible repeat (first | refine kA_ ?_ _ | refine kB_ ?_ | refine kC_ ?_ _)); exact BK224.out) hb); have n2_ := A_ (bE_ (by repeat (first | (with_reducible first | exact HB.out | apply bA_ | apply bB_ | apply bC_ | refine bD_ ?_ GE224.out) | exact HB.out)) hb); clear BK224; clear HB; have HO227 := n0_; have BK224 := n1_; have HB := n2_; clear n0_ n1_ n2_; (try clear hb); (try clear hb2); (try clear hk); (try clear hi); (try clear ho0)))
 have n0_ := A_ (rC_ HO227.out)
 have n1_ := A_ (kB_ BK224.out)
 have n2_ := A_ (bC_ HB.out)
 clear HO227
 clear BK224
 clear HB
 have HO227 := n0_
 have BK224 := n1_
 have HB := n2_
 clear n0_ n1_ n2_
 refine start_ (n := 8) (S := fun w' => w'.cell? ⟨gb224, 0, none⟩ = some (.slice A0_0 l0_0.length c0_0) ∧ w'.cell? ⟨gb224, 1, none⟩ = some (.slice A0_1 l0_1.length c0_1)) (ds := []) #[false, false, false, false, false, false, false, false] (by kernel_rfl) rfl rfl ⟨(blk_cell BK224.out 0).trans rfl, (blk_cell BK224.out 1).trans rfl⟩ (fun hHeld => ?_); refine with_tabW Z22.tab2 Z22.bits2 (fun HT_ HW_ => ?_)
 generalize w9.drew = w10 at HO227 BK224 HB hHeld ⊢
 refine pure_ (i := 0) (N := some 10) (v := ?_) (a' := ?_) #[true, false, false, false, false, false, false, false] rfl rfl (any_of HT_.out (by kernel_rfl)) (fun _ _ _ h => h) (Or.inl ⟨by rfl, ?_⟩) ?_ ?_
 rotate_left
 ·intro w'
  go_simp
  with_reducible rfl
 rotate_left
 ·simp only [Act.put, sA_, sB_, sC_, i64_w, i32_w]
  rfl
 refine pure_ (i := 3) (N := some 13) (v := ?_) (a' := ?_) #[true, false, false, true, false, false, false, false] rfl rfl (any_of HT_.out (by kernel_rfl)) (fun _ _ _ h => h) (Or.inl ⟨by rfl, ?_⟩) ?_ ?_
 rotate_left
 ·intro w'
  go_simp
  with_reducible rfl
 rotate_left
 ·simp only [Act.put, sA_, sB_, sC_, i64_w, i32_w]
  rfl
 refine take_ (i := 1) (N := some 11) (v := ?_) (a' := ?_) #[true, true, false, true, false, false, false, false] rfl rfl (take_ofW HT_.out HW_.out (by kernel_rfl)) (fun _ _ _ h => h) (Or.inl ⟨by rfl, ?_⟩) hHeld ?_ ?_
 rotate_left
 ·rintro w' ⟨s0, s1⟩
  go_simp
  with_reducible rfl
 rotate_left
 ·simp only [Act.put, sA_, sB_, sC_, i64_w, i32_w]
  rfl
 refine take_ (i := 4) (N := some 14) (v := ?_) (a' := ?_) #[true, true, false, true, true, false, false, false] rfl rfl (take_ofW HT_.out HW_.out (by kernel_rfl)) (fun _ _ _ h => h) (Or.inl ⟨by rfl, ?_⟩) hHeld ?_ ?_
 rotate_left
 ·rintro w' ⟨s0, s1⟩
  go_simp
  with_reducible rfl
 rotate_left
 ·simp only [Act.put, sA_, sB_, sC_, i64_w, i32_w]
  rfl
 refine one_ (i := 2) (N := some 12) #[true, true, true, true, true, false, false, false] rfl rfl (one_of HT_.out (by kernel_rfl)) (by decide) (fun K hK => ?_)
 refine goes_ Try.func116 (by kernel_rfl) rfl #[.slice A0_0 l0_0.length c0_0] (by rfl) rfl rfl (by (try simp only [mA_, mB_, mC_]); first | done | rfl | (simp only [lA_, lB_]; rfl)) ?_
 with_reducible refine (Z14.calls k _ _ l0_0 t228 _ ?side1 ?side2 A3.out).mono ?_
 (case side1 => repeat (first | exact (cD_ HR0_0.out HB.out) | (with_reducible first | refine cA_ ?_ _ | refine cB_ ?_ _ | refine cC_ ?_)))
 (case side2 => exact HC0_0.out)
 rintro e w11 ⟨v229, rfl, ho0, hb⟩
 refine ⟨_, rfl, ?_⟩
 have n0_ := A_ (Kd.R_elder' (by (with_reducible repeat (first | apply rA_ | apply rB_ | apply rC_)); exact HO227.out) (Kd.R_base ho0) hb)
 have n1_ := A_ (rE_ (Kd.R_new' ho0 (Kd.R_lt (by (with_reducible repeat (first | apply rA_ | apply rB_ | apply rC_)); exact HO227.out))) (bF_ (by repeat (first | (with_reducible first | exact HB.out | apply bA_ | apply bB_ | apply bC_ | refine bD_ ?_ GE224.out) | exact HB.out))))
 have n2_ := A_ (kE_ (g := gb224) (by (with_reducible repeat (first | refine kA_ ?_ _ | refine kB_ ?_ | refine kC_ ?_ _)); exact BK224.out) hb)
 have n3_ := A_ (bE_ (by repeat (first | (with_reducible first | exact HB.out | apply bA_ | apply bB_ | apply bC_ | refine bD_ ?_ GE224.out) | exact HB.out)) hb)
 clear HO227
 clear BK224
 clear HB
 have HO227 := n0_
 have HO230 := n1_
 have BK224 := n2_
 have HB := n3_
 clear n0_ n1_ n2_ n3_
 (try clear hb)
 (try clear hb2)
 (try clear hk)
 (try clear hi)
 (try clear ho0)
 refine hK.out _ _ ⟨(blk_cell BK224.out 0).trans rfl, (blk_cell BK224.out 1).trans rfl⟩ (fun hHeld => ?_)
 clear hK K
 refine norm_ (a' := ?_) ?_ ?_
 rotate_left
 ·show Act.put _ (some 12) _ = _
  simp only [Act.put, sA_, sB_, sC_, i64_w, i32_w]
  rfl
 refine one_ (i := 5) (N := some 15) #[true, true, true, true, true, true, false, false] rfl rfl (one_of HT_.out (by kernel_rfl)) (by decide) (fun K hK => ?_)
 refine goes_ Try.func116 (by kernel_rfl) rfl #[.slice A0_1 l0_1.length c0_1] (by rfl) rfl rfl (by (try simp only [mA_, mB_, mC_]); first | done | rfl | (simp only [lA_, lB_]; rfl)) ?_
 with_reducible refine (Z14.calls k _ _ l0_1 t231 _ ?side1 ?side2 A4.out).mono ?_
 (case side1 => repeat (first | exact (cD_ HR0_1.out HB.out) | (with_reducible first | refine cA_ ?_ _ | refine cB_ ?_ _ | refine cC_ ?_)))
 (case side2 => exact HC0_1.out)
 rintro e w12 ⟨v232, rfl, ho0, hb⟩
 refine ⟨_, rfl, ?_⟩
 have n0_ := A_ (Kd.R_elder' (by (with_reducible repeat (first | apply rA_ | apply rB_ | apply rC_)); exact HO227.out) (Kd.R_base ho0) hb)
 have n1_ := A_ (Kd.R_elder' (by (with_reducible repeat (first | apply rA_ | apply rB_ | apply rC_)); exact HO230.out) (Kd.R_base ho0) hb)
 have n2_ := A_ (rE_ (Kd.R_new' (Kd.R_new' ho0 (Kd.R_lt (by (with_reducible repeat (first | apply rA_ | apply rB_ | apply rC_)); exact HO227.out))) (Kd.R_lt (by (with_reducible repeat (first | apply rA_ | apply rB_ | apply rC_)); exact HO230.out))) (bF_ (by repeat (first | (with_reducible first | exact HB.out | apply bA_ | apply bB_ | apply bC_ | refine bD_ ?_ GE224.out) | exact HB.out))))
 have n3_ := A_ (kE_ (g := gb224) (by (with_reducible repeat (first | refine kA_ ?_ _ | refine kB_ ?_ | refine kC_ ?_ _)); exact BK224.out) hb)
 have n4_ := A_ (bE_ (by repeat (first | (with_reducible first | exact HB.out | apply bA_ | apply bB_ | apply bC_ | refine bD_ ?_ GE224.out) | exact HB.out)) hb)
 clear HO227
 clear HO230
 clear BK224
 clear HB
 have HO227 := n0_
 have HO230 := n1_
 have HO233 := n2_
 have BK224 := n3_
 have HB := n4_
 clear n0_ n1_ n2_ n3_ n4_
 (try clear hb)
 (try clear hb2)
 (try clear hk)
 (try clear hi)
 (try clear ho0)
 obtain ⟨Ao13, co13, eo13⟩ := Kd.R_slice HO230.out
 (first | subst eo13 | (injection eo13 with f1_ f2_ f3_; have f4_ := f1_.symm; have f5_ := f3_.symm; clear f1_ f2_ f3_; subst f4_; subst f5_))
 obtain ⟨Ao14, co14, eo14⟩ := Kd.R_slice HO233.out
 (first | subst eo14 | (injection eo14 with f1_ f2_ f3_; have f4_ := f1_.symm; have f5_ := f3_.symm; clear f1_ f2_ f3_; subst f4_; subst f5_))
 refine hK.out _ _ ⟨(blk_cell BK224.out 0).trans rfl, (blk_cell BK224.out 1).trans rfl⟩ (fun hHeld => ?_)
 clear hK K
 refine norm_ (a' := ?_) ?_ ?_
 rotate_left
 ·show Act.put _ (some 15) _ = _
  simp only [Act.put, sA_, sB_, sC_, i64_w, i32_w]
  rfl
 refine one_ (i := 6) (N := some 16) #[true, true, true, true, true, true, true, false] rfl rfl (one_of HT_.out (by kernel_rfl)) (by decide) (fun K hK => ?_)
 refine goes_ Try.func102 (by kernel_rfl) rfl #[.slice Ao13 t228.length co13, .slice Ao14 t231.length co14] (by rfl) rfl rfl (by (try simp only [mA_, mB_, mC_]); first | done | rfl | (simp only [lA_, lB_]; rfl)) ?_
 with_reducible refine (Z33.calls k _ _ t228 _ _ t231 t234 _ ?side1 ?side2 ?side3 ?side4 A5.out).mono ?_
 (case side1 => repeat (first | exact (Kd.R_reads' HO230.out).2.2 | (with_reducible first | refine cA_ ?_ _ | refine cB_ ?_ _ | refine cC_ ?_)))
 (case side2 => exact (Kd.R_reads' HO230.out).2.1)
 (case side3 => repeat (first | exact (Kd.R_reads' HO233.out).2.2 | (with_reducible first | refine cA_ ?_ _ | refine cB_ ?_ _ | refine cC_ ?_)))
 (case side4 => exact (Kd.R_reads' HO233.out).2.1)
 rintro e w15 ⟨v235, rfl, ho0, hb⟩
 refine ⟨_, rfl, ?_⟩
 have n0_ := A_ (Kd.R_elder' (by (with_reducible repeat (first | apply rA_ | apply rB_ | apply rC_)); exact HO227.out) (Kd.R_base ho0) hb)
 have n1_ := A_ (Kd.R_elder' (by (with_reducible repeat (first | apply rA_ | apply rB_ | apply rC_)); exact HO230.out) (Kd.R_base ho0) hb)
 have n2_ := A_ (Kd.R_elder' (by (with_reducible repeat (first | apply rA_ | apply rB_ | apply rC_)); exact HO233.out) (Kd.R_base ho0) hb)
 have n3_ := A_ (rE_ (Kd.R_new' (Kd.R_new' (Kd.R_new' ho0 (Kd.R_lt (by (with_reducible repeat (first | apply rA_ | apply rB_ | apply rC_)); exact HO227.out))) (Kd.R_lt (by (with_reducible repeat (first | apply rA_ | apply rB_ | apply rC_)); exact HO230.out))) (Kd.R_lt (by (with_reducible repeat (first | apply rA_ | apply rB_ | apply rC_)); exact HO233.out))) (bF_ (by repeat (first | (with_reducible first | exact HB.out | apply bA_ | apply bB_ | apply bC_ | refine bD_ ?_ GE224.out) | exact HB.out))))
 have n4_ := A_ (kE_ (g := gb224) (by (with_reducible repeat (first | refine kA_ ?_ _ | refine kB_ ?_ | refine kC_ ?_ _)); exact BK224.out) hb)
 have n5_ := A_ (bE_ (by repeat (first | (with_reducible first | exact HB.out | apply bA_ | apply bB_ | apply bC_ | refine bD_ ?_ GE224.out) | exact HB.out)) hb)
 clear HO227
 clear HO230
 clear HO233
 clear BK224
 clear HB
 have HO227 := n0_
 have HO230 := n1_
 have HO233 := n2_
 have HO236 := n3_
 have BK224 := n4_
 have HB := n5_
 clear n0_ n1_ n2_ n3_ n4_ n5_
 (try clear hb)
 (try clear hb2)
 (try clear hk)
 (try clear hi)
 (try clear ho0)
 refine hK.out _ _ ⟨(blk_cell BK224.out 0).trans rfl, (blk_cell BK224.out 1).trans rfl⟩ (fun hHeld => ?_)
 clear hK K
 refine norm_ (a' := ?_) ?_ ?_
 rotate_left
 ·show Act.put _ (some 16) _ = _
  simp only [Act.put, sA_, sB_, sC_, i64_w, i32_w]
  rfl
 refine pure_ (i := 7) (N := some 4) (v := ?_) (a' := ?_) #[true, true, true, true, true, true, true, true] rfl rfl (any_of HT_.out (by kernel_rfl)) (fun _ _ _ h => h) (Or.inl ⟨by rfl, ?_⟩) ?_ ?_
 rotate_left
 ·intro w'
  go_simp
  with_reducible rfl
 rotate_left
 ·simp only [Act.put, sA_, sB_, sC_, i64_w, i32_w]
  rfl
 refine done_ (done_of HT_.out (by kernel_rfl)) ?_
 obtain ⟨Ao16, co16, eo16⟩ := Kd.R_slice HO227.out
 subst eo16
 obtain ⟨Ao17, co17, eo17⟩ := Kd.R_slice HO236.out
 subst eo17
 try go_wp2_with (first | ((with_reducible refine gA_ (f := 102) rfl ?_); refine goesL_ (some 19) rfl rfl Try.func102 (by kernel_rfl) rfl #[.slice Ao16 t225.length co16, .slice Ao17 t234.length co17] rfl (by (try simp only [mA_, mB_, mC_]); first | done | rfl | (simp only [lA_, lB_]; rfl)) ?_; (with_reducible refine (Z33.calls k _ _ t225 _ _ t234 t237 _ ?side1 ?side2 ?side3 ?side4 A6.out).mono ?_); (case side1 => repeat (first | exact (Kd.R_reads' HO227.out).2.2 | (with_reducible first | refine cA_ ?_ _ | refine cB_ ?_ _ | refine cC_ ?_))); (case side2 => exact (Kd.R_reads' HO227.out).2.1); (case side3 => repeat (first | exact (Kd.R_reads' HO236.out).2.2 | (with_reducible first | refine cA_ ?_ _ | refine cB_ ?_ _ | refine cC_ ?_))); (case side4 => exact (Kd.R_reads' HO236.out).2.1); rintro e w18 ⟨v238, rfl, ho0, hb⟩; refine ⟨_, rfl, ?_⟩; have n0_ := A_ (Kd.R_elder' (by (with_reducible repeat (first | apply rA_ | apply rB_ | apply rC_)); exact HO227.out) (Kd.R_base ho0) hb); have n1_ := A_ (Kd.R_elder' (by (with_reducible repeat (first | apply rA_ | apply rB_ | apply rC_)); exact HO230.out) (Kd.R_base ho0) hb); have n2_ := A_ (Kd.R_elder' (by (with_reducible repeat (first | apply rA_ | apply rB_ | apply rC_)); exact HO233.out) (Kd.R_base ho0) hb); have n3_ := A_ (Kd.R_elder' (by (with_reducible repeat (first | apply rA_ | apply rB_ | apply rC_)); exact HO236.out) (Kd.R_base ho0) hb); have n4_ := A_ (rE_ (Kd.R_new' (Kd.R_new' (Kd.R_new' (Kd.R_new' ho0 (Kd.R_lt (by (with_reducible repeat (first | apply rA_ | apply rB_ | apply rC_)); exact HO227.out))) (Kd.R_lt (by (with_reducible repeat (first | apply rA_ | apply rB_ | apply rC_)); exact HO230.out))) (Kd.R_lt (by (with_reducible repeat (first | apply rA_ | apply rB_ | apply rC_)); exact HO233.out))) (Kd.R_lt (by (with_reducible repeat (first | apply rA_ | apply rB_ | apply rC_)); exact HO236.out))) (bF_ (by repeat (first | (with_reducible first | exact HB.out | apply bA_ | apply bB_ | apply bC_ | refine bD_ ?_ GE224.out) | exact HB.out)))); have n5_ := A_ (kE_ (g := gb224) (by (with_reducible repeat (first | refine kA_ ?_ _ | refine kB_ ?_ | refine kC_ ?_ _)); exact BK224.out) hb); have n6_ := A_ (bE_ (by repeat (first | (with_reducible first | exact HB.out | apply bA_ | apply bB_ | apply bC_ | refine bD_ ?_ GE224.out) | exact HB.out)) hb); clear HO227; clear HO230; clear HO233; clear HO236; clear BK224; clear HB; have HO227 := n0_; have HO230 := n1_; have HO233 := n2_; have HO236 := n3_; have HO239 := n4_; have BK224 := n5_; have HB := n6_; clear n0_ n1_ n2_ n3_ n4_ n5_ n6_; (try clear hb); (try clear hb2); (try clear hk); (try clear hi); (try clear ho0)))
 go_ret
 exact ⟨_, by first | rfl | (simp [errW_none, errW_some] <;> rfl) | (simp [*, errW_none, errW_some] <;> rfl), by (with_reducible repeat (first | apply rA_ | apply rB_ | apply rC_)); exact Kd.R_mono HO239.out (fun _ hk => trivial), by repeat (first | (with_reducible first | exact HB.out | apply bA_ | apply bB_ | apply bC_ | refine bD_ ?_ GE224.out) | exact HB.out)⟩
def Z20.f (k : Nat) (l0_0 : List Int) (l0_1 : List Int) : Option ((List (List Int))) := (Z21.f k l0_0 l0_1).bind fun t241 => (if t241 = true then ((Z22.f k l0_0 l0_1).bind fun t242 => ((Z26.f k t242).bind fun t245 => (some t245))) else (some ([] : List (List Int))))
theorem Z20.mono : ∀ a0 a1 k, LeO (Z20.f k a0 a1) (Z20.f (k + 1) a0 a1) := by
 intro a0 a1 k
 unfold Z20.f
 repeat' first
   | (with_reducible exact Z26.mono _ _)
   | (with_reducible exact Z21.mono _ _ _)
   | (with_reducible exact Z22.mono _ _ _)
   | (with_reducible exact LeO.refl _)
   | (with_reducible exact LeO.none _)
   | (with_reducible refine LeO.ite ?_ ?_)
   | (with_reducible refine LeO.bind ?_ (fun _ => ?_))
   | exact Z26.mono _ _
   | exact Z21.mono _ _ _
   | exact Z22.mono _ _ _
   | exact LeO.none _
   | refine LeO.ite ?_ ?_
   | refine LeO.bind ?_ (fun _ => ?_)
set_option maxHeartbeats 8000000 in
set_option maxRecDepth 100000 in
theorem Z20.calls (k : Nat) (A0_0 : Option Addr) (c0_0 : Nat) (l0_0 : List Int) (A0_1 : Option Addr) (c0_1 : Nat) (l0_1 : List Int) (r : List (List Int)) (w : World) (hr0_0 : Kd.C (Kd.int .i64) w A0_0 l0_0.length l0_0) (hc0_0 : l0_0.length ≤ c0_0) (hr0_1 : Kd.C (Kd.int .i64) w A0_1 l0_1.length l0_1) (hc0_1 : l0_1.length ≤ c0_1) (h : Z20.f k l0_0 l0_1 = some r) :
  Calls Try.prog 138 #[.agg #[.slice A0_0 l0_0.length c0_0, .slice A0_1 l0_1.length c0_1]] w fun e w' => ∃ v0_ : Value, e = .returned (v0_) ∧ Kd.S (Kd.slice 3 (Kd.int .i64)) 22 w' w.heap.size (fun _ => True) v0_ r ∧ Below w.heap.size w w' := by
 have hu27 := Try.underlying27
 have HR0_0 := A_ hr0_0
 have HC0_0 := A_ hc0_0
 clear hr0_0 hc0_0
 have HR0_1 := A_ hr0_1
 have HC0_1 := A_ hc0_1
 clear hr0_1 hc0_1
 have HB := A_ (Below.refl w.heap.size w)
 have H : ((Z21.f k l0_0 l0_1).bind fun t241 => (if t241 = true then ((Z22.f k l0_0 l0_1).bind fun t242 => ((Z26.f k t242).bind fun t245 => (some t245))) else (some ([] : List (List Int))))) = some r := h
 clear h
 replace H := Option.bind_eq_some_iff.mp H
 obtain ⟨t241, A20, H⟩ := H
 replace H : (if t241 = true then ((Z22.f k l0_0 l0_1).bind fun t242 => ((Z26.f k t242).bind fun t245 => (some t245))) else (some ([] : List (List Int)))) = some r := H
 have A2 := A_ A20
 clear A20
 by_cases c3 : t241 = true
 ·subst c3
  have H1 : ((Z22.f k l0_0 l0_1).bind fun t242 => ((Z26.f k t242).bind fun t245 => (some t245))) = some r := by rw [if_pos rfl] at H; exact H
  clear H
  have H := H1
  clear H1
  replace H := Option.bind_eq_some_iff.mp H
  obtain ⟨t242, A40, H⟩ := H
  replace H : ((Z26.f k t242).bind fun t245 => (some t245)) = some r := H
  have A4 := A_ A40
  clear A40
  replace H := Option.bind_eq_some_iff.mp H
  obtain ⟨t245, A50, H⟩ := H
  replace H : (some t245) = some r := H
  have A5 := A_ A50
  clear A50
  obtain rfl := Option.some.inj H
  go_enter Try.func138, Try.ntmps138
  go_wp2_with (first | ((with_reducible refine gB_ (N := 1) rfl ?_); refine xA_ ?hg (N := 1) ?hd (cs := #[.slice A0_0 l0_0.length c0_0, .slice A0_1 l0_1.length c0_1]) (t := 27) ?hr ?_; (case hd => rfl); (case hg => rfl); (case hr => first | (go_simp; done) | (go_simp; rfl)); intro gb240 hg w6 hbox hb; have n0_ := A_ (bE_ (by repeat (first | (with_reducible first | exact HB.out | apply bA_ | apply bB_ | apply bC_) | exact HB.out)) hb); have n1_ := A_ (hbox); have n2_ := A_ ((by rw [hg]; exact (bF_ (by repeat (first | (with_reducible first | exact HB.out | apply bA_ | apply bB_ | apply bC_) | exact HB.out))) : w.heap.size ≤ gb240)); have n3_ := A_ ((by rw [hg]; exact (bF_ (by repeat (first | (with_reducible first | exact HB.out | apply bA_ | apply bB_ | apply bC_) | exact HB.out))) : w.heap.size ≤ gb240)); clear HB; have HB := n0_; have BK240 := n1_; have GW240 := n2_; have GE240 := n3_; clear n0_ n1_ n2_ n3_; clear hb hbox hg; have hcz7_0 := cz0_ BK240.out; have hcz7_1 := cz1_ BK240.out; have hfz7_0 := kD_ BK240.out 0; have hfz7_1 := kD_ BK240.out 1) | ((with_reducible refine gA_ (f := 63) rfl ?_); refine goesL_ (some 4) rfl rfl Try.func63 (by kernel_rfl) rfl #[.agg #[.slice A0_0 l0_0.length c0_0, .slice A0_1 l0_1.length c0_1]] rfl (by (try simp only [mA_, mB_, mC_]); first | done | rfl | (simp only [lA_, lB_]; rfl)) ?_; (with_reducible refine (Z21.calls k _ _ l0_0 _ _ l0_1 true _ ?side1 ?side2 ?side3 ?side4 A2.out).mono ?_); (case side1 => repeat (first | exact (cD_ HR0_0.out HB.out) | (with_reducible first | refine cA_ ?_ _ | refine cB_ ?_ _ | refine cC_ ?_))); (case side2 => exact HC0_0.out); (case side3 => repeat (first | exact (cD_ HR0_1.out HB.out) | (with_reducible first | refine cA_ ?_ _ | refine cB_ ?_ _ | refine cC_ ?_))); (case side4 => exact HC0_1.out); rintro e w8 ⟨rfl, hb⟩; refine ⟨_, rfl, ?_⟩; have n0_ := A_ (kE_ (g := gb240) (by (with_reducible repeat (first | refine kA_ ?_ _ | refine kB_ ?_ | refine kC_ ?_ _)); exact BK240.out) hb); have n1_ := A_ (bE_ (by repeat (first | (with_reducible first | exact HB.out | apply bA_ | apply bB_ | apply bC_ | refine bD_ ?_ GE240.out) | exact HB.out)) hb); clear BK240; clear HB; have BK240 := n0_; have HB := n1_; clear n0_ n1_; (try clear hb); (try clear hb2); (try clear hk); (try clear hi); have hcz9_0 := cz0_ BK240.out; have hcz9_1 := cz1_ BK240.out; have hfz9_0 := kD_ BK240.out 0; have hfz9_1 := kD_ BK240.out 1) | ((with_reducible refine gA_ (f := 142) rfl ?_); refine goesL_ (some 7) rfl rfl Try.func142 (by kernel_rfl) rfl #[.agg #[.slice A0_0 l0_0.length c0_0, .slice A0_1 l0_1.length c0_1]] rfl (by (try simp only [mA_, mB_, mC_]); first | done | rfl | (simp only [lA_, lB_]; rfl)) ?_; (with_reducible refine (Z22.calls k _ _ l0_0 _ _ l0_1 t242 _ ?side1 ?side2 ?side3 ?side4 A4.out).mono ?_); (case side1 => repeat (first | exact (cD_ HR0_0.out HB.out) | (with_reducible first | refine cA_ ?_ _ | refine cB_ ?_ _ | refine cC_ ?_))); (case side2 => exact HC0_0.out); (case side3 => repeat (first | exact (cD_ HR0_1.out HB.out) | (with_reducible first | refine cA_ ?_ _ | refine cB_ ?_ _ | refine cC_ ?_))); (case side4 => exact HC0_1.out); rintro e w10 ⟨v243, rfl, ho0, hb⟩; refine ⟨_, rfl, ?_⟩; have n0_ := A_ (rE_ ho0 (bF_ (by repeat (first | (with_reducible first | exact HB.out | apply bA_ | apply bB_ | apply bC_ | refine bD_ ?_ GE240.out) | exact HB.out)))); have n1_ := A_ (kE_ (g := gb240) (by (with_reducible repeat (first | refine kA_ ?_ _ | refine kB_ ?_ | refine kC_ ?_ _)); exact BK240.out) hb); have n2_ := A_ (bE_ (by repeat (first | (with_reducible first | exact HB.out | apply bA_ | apply bB_ | apply bC_ | refine bD_ ?_ GE240.out) | exact HB.out)) hb); clear BK240; clear HB; have HO244 := n0_; have BK240 := n1_; have HB := n2_; clear n0_ n1_ n2_; (try clear hb); (try clear hb2); (try clear hk); (try clear hi); (try clear ho0); obtain ⟨Ao11, co11, eo11⟩ := Kd.R_slice HO244.out; subst eo11) | ((with_reducible refine gA_ (f := 111) rfl ?_); refine goesL_ (some 8) rfl rfl Try.func111 (by kernel_rfl) rfl #[.slice Ao11 t242.length co11] rfl (by (try simp only [mA_, mB_, mC_]); first | done | rfl | (simp only [lA_, lB_]; rfl)) ?_; (with_reducible refine (Z26.calls k _ _ t242 t245 _ ?side1 ?side2 A5.out).mono ?_); (case side1 => repeat (first | exact (Kd.R_reads' HO244.out).2.2 | (with_reducible first | refine cA_ ?_ _ | refine cB_ ?_ _ | refine cC_ ?_))); (case side2 => exact (Kd.R_reads' HO244.out).2.1); rintro e w12 ⟨v246, rfl, ho0, hb⟩; refine ⟨_, rfl, ?_⟩; have n0_ := A_ (rD_ (by (with_reducible repeat (first | apply rA_ | apply rB_ | apply rC_)); exact HO244.out) hb); have n1_ := A_ (Kd.S_lower (Kd.S_new' ho0 (Kd.R_lt (by (with_reducible repeat (first | apply rA_ | apply rB_ | apply rC_)); exact HO244.out))) (bF_ (by repeat (first | (with_reducible first | exact HB.out | apply bA_ | apply bB_ | apply bC_ | refine bD_ ?_ GE240.out) | exact HB.out)))); have n2_ := A_ (kE_ (g := gb240) (by (with_reducible repeat (first | refine kA_ ?_ _ | refine kB_ ?_ | refine kC_ ?_ _)); exact BK240.out) hb); have n3_ := A_ (bE_ (by repeat (first | (with_reducible first | exact HB.out | apply bA_ | apply bB_ | apply bC_ | refine bD_ ?_ GE240.out) | exact HB.out)) hb); clear HO244; clear BK240; clear HB; have HO244 := n0_; have HO247 := n1_; have BK240 := n2_; have HB := n3_; clear n0_ n1_ n2_ n3_; (try clear hb); (try clear hb2); (try clear hk); (try clear hi); (try clear ho0)))
  go_ret
  exact ⟨_, by first | rfl | (simp [errW_none, errW_some] <;> rfl) | (simp [*, errW_none, errW_some] <;> rfl), by (with_reducible repeat (first | apply Kd.S_alloc | apply Kd.S_drewN | apply Kd.S_drew)); exact Kd.S_mono HO247.out (fun _ hk => trivial), by repeat (first | (with_reducible first | exact HB.out | apply bA_ | apply bB_ | apply bC_ | refine bD_ ?_ GE240.out) | exact HB.out)⟩
 ·replace c3 := Bool.eq_false_iff.mpr c3
  subst c3
  have H1 : (some ([] : List (List Int))) = some r := by rw [if_neg (show ¬ (false = true) by decide)] at H; exact H
  clear H
  have H := H1
  clear H1
  obtain rfl := Option.some.inj H
  go_enter Try.func138, Try.ntmps138
  go_wp2_with (first | ((with_reducible refine gB_ (N := 1) rfl ?_); refine xA_ ?hg (N := 1) ?hd (cs := #[.slice A0_0 l0_0.length c0_0, .slice A0_1 l0_1.length c0_1]) (t := 27) ?hr ?_; (case hd => rfl); (case hg => rfl); (case hr => first | (go_simp; done) | (go_simp; rfl)); intro gb240 hg w13 hbox hb; have n0_ := A_ (bE_ (by repeat (first | (with_reducible first | exact HB.out | apply bA_ | apply bB_ | apply bC_) | exact HB.out)) hb); have n1_ := A_ (hbox); have n2_ := A_ ((by rw [hg]; exact (bF_ (by repeat (first | (with_reducible first | exact HB.out | apply bA_ | apply bB_ | apply bC_) | exact HB.out))) : w.heap.size ≤ gb240)); have n3_ := A_ ((by rw [hg]; exact (bF_ (by repeat (first | (with_reducible first | exact HB.out | apply bA_ | apply bB_ | apply bC_) | exact HB.out))) : w.heap.size ≤ gb240)); clear HB; have HB := n0_; have BK240 := n1_; have GW240 := n2_; have GE240 := n3_; clear n0_ n1_ n2_ n3_; clear hb hbox hg; have hcz14_0 := cz0_ BK240.out; have hcz14_1 := cz1_ BK240.out; have hfz14_0 := kD_ BK240.out 0; have hfz14_1 := kD_ BK240.out 1) | ((with_reducible refine gA_ (f := 63) rfl ?_); refine goesL_ (some 4) rfl rfl Try.func63 (by kernel_rfl) rfl #[.agg #[.slice A0_0 l0_0.length c0_0, .slice A0_1 l0_1.length c0_1]] rfl (by (try simp only [mA_, mB_, mC_]); first | done | rfl | (simp only [lA_, lB_]; rfl)) ?_; (with_reducible refine (Z21.calls k _ _ l0_0 _ _ l0_1 false _ ?side1 ?side2 ?side3 ?side4 A2.out).mono ?_); (case side1 => repeat (first | exact (cD_ HR0_0.out HB.out) | (with_reducible first | refine cA_ ?_ _ | refine cB_ ?_ _ | refine cC_ ?_))); (case side2 => exact HC0_0.out); (case side3 => repeat (first | exact (cD_ HR0_1.out HB.out) | (with_reducible first | refine cA_ ?_ _ | refine cB_ ?_ _ | refine cC_ ?_))); (case side4 => exact HC0_1.out); rintro e w15 ⟨rfl, hb⟩; refine ⟨_, rfl, ?_⟩; have n0_ := A_ (kE_ (g := gb240) (by (with_reducible repeat (first | refine kA_ ?_ _ | refine kB_ ?_ | refine kC_ ?_ _)); exact BK240.out) hb); have n1_ := A_ (bE_ (by repeat (first | (with_reducible first | exact HB.out | apply bA_ | apply bB_ | apply bC_ | refine bD_ ?_ GE240.out) | exact HB.out)) hb); clear BK240; clear HB; have BK240 := n0_; have HB := n1_; clear n0_ n1_; (try clear hb); (try clear hb2); (try clear hk); (try clear hi)))
  go_ret
  exact ⟨_, by first | rfl | (simp [errW_none, errW_some] <;> rfl) | (simp [*, errW_none, errW_some] <;> rfl), by first | exact Kd.S_nil _ _ _ _ _ | exact Kd.N_nil _ _ _ _ _ | exact Kd.V_nil _ _ _ _ _ | exact Kd.Q_nil _ _ _ _ _ | exact Kd.R_nil _ _ _ _ _, by repeat (first | (with_reducible first | exact HB.out | apply bA_ | apply bB_ | apply bC_ | refine bD_ ?_ GE240.out) | exact HB.out)⟩
def Z31.f (k : Nat) (l0_0 : List Int) (l0_1 : List Int) : Option (Int) := (Z21.f k l0_0 l0_1).bind fun t249 => (if t249 = true then ((Z20.f k l0_0 l0_1).bind fun t250 => (some (wrap64 (1 + (wrap64 (Int.tdiv (wrap64 ((l0_0.length : Int) - (t250.length : Int))) 2)))))) else (some (-1)))
theorem Z31.mono : ∀ a0 a1 k, LeO (Z31.f k a0 a1) (Z31.f (k + 1) a0 a1) := by
 intro a0 a1 k
 unfold Z31.f
 repeat' first
   | (with_reducible exact Z20.mono _ _ _)
   | (with_reducible exact Z21.mono _ _ _)
   | (with_reducible exact LeO.refl _)
   | (with_reducible exact LeO.none _)
   | (with_reducible refine LeO.ite ?_ ?_)
   | (with_reducible refine LeO.bind ?_ (fun _ => ?_))
   | exact Z20.mono _ _ _
   | exact Z21.mono _ _ _
   | exact LeO.none _
   | refine LeO.ite ?_ ?_
   | refine LeO.bind ?_ (fun _ => ?_)
def Z31.T3 : Bool × List (List Nat × List Nat) := (true, [([], []), ([0], [0]), ([1], [1]), ([], []), ([3], [3]), ([4], [4]), ([2, 5], [2, 5]), ([6], [6]), ([7], [7]), ([8, 4, 0, 1, 2, 3, 4, 5, 6, 7, 8], [8])])
def Z31.B3 : List Nat := [0, 1, 3, 0, 8, 24, 63, 127, 255, 511]
theorem Z31.tab3 : rtab .any (opsOf Try.f104 3) = Z31.T3 := by kernel_rfl
theorem Z31.bits3 : waitsOk Z31.T3.2 Z31.B3 = true := by kernel_rfl
set_option maxHeartbeats 8000000 in
set_option maxRecDepth 100000 in
theorem Z31.calls (k : Nat) (A0_0 : Option Addr) (c0_0 : Nat) (l0_0 : List Int) (A0_1 : Option Addr) (c0_1 : Nat) (l0_1 : List Int) (r : Int) (w : World) (hr0_0 : Kd.C (Kd.int .i64) w A0_0 l0_0.length l0_0) (hc0_0 : l0_0.length ≤ c0_0) (hr0_1 : Kd.C (Kd.int .i64) w A0_1 l0_1.length l0_1) (hc0_1 : l0_1.length ≤ c0_1) (h : Z31.f k l0_0 l0_1 = some r) :
  Calls Try.prog 104 #[.agg #[.slice A0_0 l0_0.length c0_0, .slice A0_1 l0_1.length c0_1]] w fun e w' => e = .returned (.int .i64 r) ∧ Below w.heap.size w w' := by
 have hu27 := Try.underlying27
 have HR0_0 := A_ hr0_0
 have HC0_0 := A_ hc0_0
 clear hr0_0 hc0_0
 have HR0_1 := A_ hr0_1
 have HC0_1 := A_ hc0_1
 clear hr0_1 hc0_1
 have HB := A_ (Below.refl w.heap.size w)
 have H : ((Z21.f k l0_0 l0_1).bind fun t249 => (if t249 = true then ((Z20.f k l0_0 l0_1).bind fun t250 => (some (wrap64 (1 + (wrap64 (Int.tdiv (wrap64 ((l0_0.length : Int) - (t250.length : Int))) 2)))))) else (some (-1)))) = some r := h
 clear h
 replace H := Option.bind_eq_some_iff.mp H
 obtain ⟨t249, A20, H⟩ := H
 replace H : (if t249 = true then ((Z20.f k l0_0 l0_1).bind fun t250 => (some (wrap64 (1 + (wrap64 (Int.tdiv (wrap64 ((l0_0.length : Int) - (t250.length : Int))) 2)))))) else (some (-1))) = some r := H
 have A2 := A_ A20
 clear A20
 by_cases c3 : t249 = true
 ·subst c3
  have H1 : ((Z20.f k l0_0 l0_1).bind fun t250 => (some (wrap64 (1 + (wrap64 (Int.tdiv (wrap64 ((l0_0.length : Int) - (t250.length : Int))) 2)))))) = some r := by rw [if_pos rfl] at H; exact H
  clear H
  have H := H1
  clear H1
  replace H := Option.bind_eq_some_iff.mp H
  obtain ⟨t250, A40, H⟩ := H
  replace H : (some (wrap64 (1 + (wrap64 (Int.tdiv (wrap64 ((l0_0.length : Int) - (t250.length : Int))) 2))))) = some r := H
  have A4 := A_ A40
  clear A40
  obtain rfl := Option.some.inj H
  go_enter Try.func104, Try.ntmps104
  try go_wp2_with (first | ((with_reducible refine gB_ (N := 1) rfl ?_); refine xA_ ?hg (N := 1) ?hd (cs := #[.slice A0_0 l0_0.length c0_0, .slice A0_1 l0_1.length c0_1]) (t := 27) ?hr ?_; (case hd => rfl); (case hg => rfl); (case hr => first | (go_simp; done) | (go_simp; rfl)); intro gb248 hg w5 hbox hb; have n0_ := A_ (bE_ (by repeat (first | (with_reducible first | exact HB.out | apply bA_ | apply bB_ | apply bC_) | exact HB.out)) hb); have n1_ := A_ (hbox); have n2_ := A_ ((by rw [hg]; exact (bF_ (by repeat (first | (with_reducible first | exact HB.out | apply bA_ | apply bB_ | apply bC_) | exact HB.out))) : w.heap.size ≤ gb248)); have n3_ := A_ ((by rw [hg]; exact (bF_ (by repeat (first | (with_reducible first | exact HB.out | apply bA_ | apply bB_ | apply bC_) | exact HB.out))) : w.heap.size ≤ gb248)); clear HB; have HB := n0_; have BK248 := n1_; have GW248 := n2_; have GE248 := n3_; clear n0_ n1_ n2_ n3_; clear hb hbox hg; have hcz6_0 := cz0_ BK248.out; have hcz6_1 := cz1_ BK248.out; have hfz6_0 := kD_ BK248.out 0; have hfz6_1 := kD_ BK248.out 1) | ((with_reducible refine gA_ (f := 63) rfl ?_); refine goesL_ (some 4) rfl rfl Try.func63 (by kernel_rfl) rfl #[.agg #[.slice A0_0 l0_0.length c0_0, .slice A0_1 l0_1.length c0_1]] rfl (by (try simp only [mA_, mB_, mC_]); first | done | rfl | (simp only [lA_, lB_]; rfl)) ?_; (with_reducible refine (Z21.calls k _ _ l0_0 _ _ l0_1 true _ ?side1 ?side2 ?side3 ?side4 A2.out).mono ?_); (case side1 => repeat (first | exact (cD_ HR0_0.out HB.out) | (with_reducible first | refine cA_ ?_ _ | refine cB_ ?_ _ | refine cC_ ?_))); (case side2 => exact HC0_0.out); (case side3 => repeat (first | exact (cD_ HR0_1.out HB.out) | (with_reducible first | refine cA_ ?_ _ | refine cB_ ?_ _ | refine cC_ ?_))); (case side4 => exact HC0_1.out); rintro e w7 ⟨rfl, hb⟩; refine ⟨_, rfl, ?_⟩; have n0_ := A_ (kE_ (g := gb248) (by (with_reducible repeat (first | refine kA_ ?_ _ | refine kB_ ?_ | refine kC_ ?_ _)); exact BK248.out) hb); have n1_ := A_ (bE_ (by repeat (first | (with_reducible first | exact HB.out | apply bA_ | apply bB_ | apply bC_ | refine bD_ ?_ GE248.out) | exact HB.out)) hb); clear BK248; clear HB; have BK248 := n0_; have HB := n1_; clear n0_ n1_; (try clear hb); (try clear hb2); (try clear hk); (try clear hi)))
  have n0_ := A_ (kB_ BK248.out)
  have n1_ := A_ (bC_ HB.out)
  clear BK248
  clear HB
  have BK248 := n0_
  have HB := n1_
  clear n0_ n1_
  refine start_ (n := 10) (S := fun w' => w'.cell? ⟨gb248, 0, none⟩ = some (.slice A0_0 l0_0.length c0_0) ∧ w'.cell? ⟨gb248, 1, none⟩ = some (.slice A0_1 l0_1.length c0_1)) (ds := []) #[false, false, false, false, false, false, false, false, false, false] (by kernel_rfl) rfl rfl ⟨(blk_cell BK248.out 0).trans rfl, (blk_cell BK248.out 1).trans rfl⟩ (fun hHeld => ?_); refine with_tabW Z31.tab3 Z31.bits3 (fun HT_ HW_ => ?_)
  generalize w7.drew = w8 at BK248 HB hHeld ⊢
  refine pure_ (i := 0) (N := some 6) (v := ?_) (a' := ?_) #[true, false, false, false, false, false, false, false, false, false] rfl rfl (any_of HT_.out (by kernel_rfl)) (fun _ _ _ h => h) (Or.inl ⟨by rfl, ?_⟩) ?_ ?_
  rotate_left
  ·intro w'
   go_simp
   with_reducible rfl
  rotate_left
  ·simp only [Act.put, sA_, sB_, sC_, i64_w, i32_w]
   rfl
  refine take_ (i := 1) (N := some 7) (v := ?_) (a' := ?_) #[true, true, false, false, false, false, false, false, false, false] rfl rfl (take_ofW HT_.out HW_.out (by kernel_rfl)) (fun _ _ _ h => h) (Or.inl ⟨by rfl, ?_⟩) hHeld ?_ ?_
  rotate_left
  ·rintro w' ⟨s0, s1⟩
   go_simp
   with_reducible rfl
  rotate_left
  ·simp only [Act.put, sA_, sB_, sC_, i64_w, i32_w]
   rfl
  refine pure_ (i := 2) (N := some 8) (v := ?_) (a' := ?_) #[true, true, true, false, false, false, false, false, false, false] rfl rfl (any_of HT_.out (by kernel_rfl)) (fun _ _ _ h => h) (Or.inl ⟨by rfl, ?_⟩) ?_ ?_
  rotate_left
  ·intro w'
   go_simp
   with_reducible rfl
  rotate_left
  ·simp only [Act.put, sA_, sB_, sC_, i64_w, i32_w]
   rfl
  refine take_ (i := 3) (N := some 9) (v := ?_) (a' := ?_) #[true, true, true, true, false, false, false, false, false, false] rfl rfl (take_ofW HT_.out HW_.out (by kernel_rfl)) (fun _ _ _ h => h) (Or.inl ⟨by rfl, ?_⟩) hHeld ?_ ?_
  rotate_left
  ·rintro w' ⟨s0, s1⟩
   go_simp
   with_reducible rfl
  rotate_left
  ·simp only [Act.put, sA_, sB_, sC_, i64_w, i32_w]
   rfl
  refine one_ (i := 4) (N := some 10) #[true, true, true, true, true, false, false, false, false, false] rfl rfl (one_of HT_.out (by kernel_rfl)) (by decide) (fun K hK => ?_)
  refine goes_ Try.func138 (by kernel_rfl) rfl #[.agg #[.slice A0_0 l0_0.length c0_0, .slice A0_1 l0_1.length c0_1]] (by rfl) rfl rfl (by (try simp only [mA_, mB_, mC_]); first | done | rfl | (simp only [lA_, lB_]; rfl)) ?_
  with_reducible refine (Z20.calls k _ _ l0_0 _ _ l0_1 t250 _ ?side1 ?side2 ?side3 ?side4 A4.out).mono ?_
  (case side1 => repeat (first | exact (cD_ HR0_0.out HB.out) | (with_reducible first | refine cA_ ?_ _ | refine cB_ ?_ _ | refine cC_ ?_)))
  (case side2 => exact HC0_0.out)
  (case side3 => repeat (first | exact (cD_ HR0_1.out HB.out) | (with_reducible first | refine cA_ ?_ _ | refine cB_ ?_ _ | refine cC_ ?_)))
  (case side4 => exact HC0_1.out)
  rintro e w9 ⟨v251, rfl, ho0, hb⟩
  refine ⟨_, rfl, ?_⟩
  have n0_ := A_ (Kd.S_lower ho0 (bF_ (by repeat (first | (with_reducible first | exact HB.out | apply bA_ | apply bB_ | apply bC_ | refine bD_ ?_ GE248.out) | exact HB.out))))
  have n1_ := A_ (kE_ (g := gb248) (by (with_reducible repeat (first | refine kA_ ?_ _ | refine kB_ ?_ | refine kC_ ?_ _)); exact BK248.out) hb)
  have n2_ := A_ (bE_ (by repeat (first | (with_reducible first | exact HB.out | apply bA_ | apply bB_ | apply bC_ | refine bD_ ?_ GE248.out) | exact HB.out)) hb)
  clear BK248
  clear HB
  have HO252 := n0_
  have BK248 := n1_
  have HB := n2_
  clear n0_ n1_ n2_
  (try clear hb)
  (try clear hb2)
  (try clear hk)
  (try clear hi)
  (try clear ho0)
  obtain ⟨Ao10, co10, eo10⟩ := Kd.S_slice HO252.out
  (first | subst eo10 | (injection eo10 with f1_ f2_ f3_; have f4_ := f1_.symm; have f5_ := f3_.symm; clear f1_ f2_ f3_; subst f4_; subst f5_))
  refine hK.out _ _ ⟨(blk_cell BK248.out 0).trans rfl, (blk_cell BK248.out 1).trans rfl⟩ (fun hHeld => ?_)
  clear hK K
  refine norm_ (a' := ?_) ?_ ?_
  rotate_left
  ·show Act.put _ (some 10) _ = _
   simp only [Act.put, sA_, sB_, sC_, i64_w, i32_w]
   rfl
  refine pure_ (i := 5) (N := some 11) (v := ?_) (a' := ?_) #[true, true, true, true, true, true, false, false, false, false] rfl rfl (any_of HT_.out (by kernel_rfl)) (fun _ _ _ h => h) (Or.inl ⟨by rfl, ?_⟩) ?_ ?_
  rotate_left
  ·intro w'
   go_simp
   with_reducible rfl
  rotate_left
  ·simp only [Act.put, sA_, sB_, sC_, i64_w, i32_w]
   rfl
  refine pure_ (i := 6) (N := some 12) (v := ?_) (a' := ?_) #[true, true, true, true, true, true, true, false, false, false] rfl rfl (any_of HT_.out (by kernel_rfl)) (fun _ _ _ h => h) (Or.inl ⟨by rfl, ?_⟩) ?_ ?_
  rotate_left
  ·intro w'
   go_simp
   with_reducible rfl
  rotate_left
  ·simp only [Act.put, sA_, sB_, sC_, i64_w, i32_w]
   rfl
  refine pure_ (i := 7) (N := some 13) (v := ?_) (a' := ?_) #[true, true, true, true, true, true, true, true, false, false] rfl rfl (any_of HT_.out (by kernel_rfl)) (fun _ _ _ h => h) (Or.inl ⟨by rfl, ?_⟩) ?_ ?_
  rotate_left
  ·intro w'
   go_simp
   with_reducible rfl
  rotate_left
  ·simp only [Act.put, sA_, sB_, sC_, i64_w, i32_w]
   rfl
  refine pure_ (i := 8) (N := some 14) (v := ?_) (a' := ?_) #[true, true, true, true, true, true, true, true, true, false] rfl rfl (any_of HT_.out (by kernel_rfl)) (fun _ _ _ h => h) (Or.inl ⟨by rfl, ?_⟩) ?_ ?_
  rotate_left
  ·intro w'
   go_simp
   with_reducible rfl
  rotate_left
  ·simp only [Act.put, sA_, sB_, sC_, i64_w, i32_w]
   rfl
  refine pure_ (i := 9) (N := some 2) (v := ?_) (a' := ?_) #[true, true, true, true, true, true, true, true, true, true] rfl rfl (any_of HT_.out (by kernel_rfl)) (fun _ _ _ h => h) (Or.inl ⟨by rfl, ?_⟩) ?_ ?_
  rotate_left
  ·intro w'
   go_simp
   with_reducible rfl
  rotate_left
  ·simp only [Act.put, sA_, sB_, sC_, i64_w, i32_w]
   rfl
  refine done_ (done_of HT_.out (by kernel_rfl)) ?_
  try go_wp2
  go_ret
  exact ⟨by first | rfl | (simp [errW_none, errW_some] <;> rfl) | (simp [*, errW_none, errW_some] <;> rfl), by repeat (first | (with_reducible first | exact HB.out | apply bA_ | apply bB_ | apply bC_ | refine bD_ ?_ GE248.out) | exact HB.out)⟩
 ·replace c3 := Bool.eq_false_iff.mpr c3
  subst c3
  have H1 : (some (-1)) = some r := by rw [if_neg (show ¬ (false = true) by decide)] at H; exact H
  clear H
  have H := H1
  clear H1
  obtain rfl := Option.some.inj H
  go_enter Try.func104, Try.ntmps104
  go_wp2_with (first | ((with_reducible refine gB_ (N := 1) rfl ?_); refine xA_ ?hg (N := 1) ?hd (cs := #[.slice A0_0 l0_0.length c0_0, .slice A0_1 l0_1.length c0_1]) (t := 27) ?hr ?_; (case hd => rfl); (case hg => rfl); (case hr => first | (go_simp; done) | (go_simp; rfl)); intro gb248 hg w11 hbox hb; have n0_ := A_ (bE_ (by repeat (first | (with_reducible first | exact HB.out | apply bA_ | apply bB_ | apply bC_) | exact HB.out)) hb); have n1_ := A_ (hbox); have n2_ := A_ ((by rw [hg]; exact (bF_ (by repeat (first | (with_reducible first | exact HB.out | apply bA_ | apply bB_ | apply bC_) | exact HB.out))) : w.heap.size ≤ gb248)); have n3_ := A_ ((by rw [hg]; exact (bF_ (by repeat (first | (with_reducible first | exact HB.out | apply bA_ | apply bB_ | apply bC_) | exact HB.out))) : w.heap.size ≤ gb248)); clear HB; have HB := n0_; have BK248 := n1_; have GW248 := n2_; have GE248 := n3_; clear n0_ n1_ n2_ n3_; clear hb hbox hg; have hcz12_0 := cz0_ BK248.out; have hcz12_1 := cz1_ BK248.out; have hfz12_0 := kD_ BK248.out 0; have hfz12_1 := kD_ BK248.out 1) | ((with_reducible refine gA_ (f := 63) rfl ?_); refine goesL_ (some 4) rfl rfl Try.func63 (by kernel_rfl) rfl #[.agg #[.slice A0_0 l0_0.length c0_0, .slice A0_1 l0_1.length c0_1]] rfl (by (try simp only [mA_, mB_, mC_]); first | done | rfl | (simp only [lA_, lB_]; rfl)) ?_; (with_reducible refine (Z21.calls k _ _ l0_0 _ _ l0_1 false _ ?side1 ?side2 ?side3 ?side4 A2.out).mono ?_); (case side1 => repeat (first | exact (cD_ HR0_0.out HB.out) | (with_reducible first | refine cA_ ?_ _ | refine cB_ ?_ _ | refine cC_ ?_))); (case side2 => exact HC0_0.out); (case side3 => repeat (first | exact (cD_ HR0_1.out HB.out) | (with_reducible first | refine cA_ ?_ _ | refine cB_ ?_ _ | refine cC_ ?_))); (case side4 => exact HC0_1.out); rintro e w13 ⟨rfl, hb⟩; refine ⟨_, rfl, ?_⟩; have n0_ := A_ (kE_ (g := gb248) (by (with_reducible repeat (first | refine kA_ ?_ _ | refine kB_ ?_ | refine kC_ ?_ _)); exact BK248.out) hb); have n1_ := A_ (bE_ (by repeat (first | (with_reducible first | exact HB.out | apply bA_ | apply bB_ | apply bC_ | refine bD_ ?_ GE248.out) | exact HB.out)) hb); clear BK248; clear HB; have BK248 := n0_; have HB := n1_; clear n0_ n1_; (try clear hb); (try clear hb2); (try clear hk); (try clear hi)))
  go_ret
  exact ⟨by first | rfl | (simp [errW_none, errW_some] <;> rfl) | (simp [*, errW_none, errW_some] <;> rfl), by repeat (first | (with_reducible first | exact HB.out | apply bA_ | apply bB_ | apply bC_ | refine bD_ ?_ GE248.out) | exact HB.out)⟩
end Go.Proofs.Ytbdnellgioimbaa.A
end
section
namespace Go.Proofs.Ytbdnellgioimbaa.A
open Go.RowKit Go.Proofs.YtbdnellgioimbaaW.PrintWords Go.Proofs.YtbdnellgioimbaaW.PrintLast Go.Proofs.YtbdnellgioimbaaW.PrintMore
attribute [local go_sem] max2_int min2_int max_two min_two max_three min_three max_four min_four
set_option linter.unusedVariables false
set_option linter.unusedSimpArgs false
mutual
def Z10.l0 : Nat → List Int → List Int → List Int → Int → Int → List Int → List Int → Option (List Int × Bool)
 | 0, _, _, _, _, _, _, _ => none
 | k + 1, x1, x6, x18, x19, x20, x254000, x254001 => if x20 < x19 then (if 0 ≤ x20 then (if x20 < (x18.length : Int) then (if (rd x18 x20) = x20 then (if 0 < (x6.length : Int) then (Z10.j1 k x1 (x6.set (0 : Int).toNat (wrap64 ((rd x6 0) + 1))) x20 (rd x18 x20) x18 x19 x20 x254000 x254001) else (none)) else (Z10.j1 k x1 x6 x20 (rd x18 x20) x18 x19 x20 x254000 x254001)) else (none)) else (none)) else ((Z14.f k x254000).bind fun t270 => ((Z14.f k x254001).bind fun t273 => ((Z20.f k x254000 x254001).bind fun t276 => (Z10.l1 k x1 x6 t270 t273 t276 (t276.length : Int) 0))))
def Z10.j1 : Nat → List Int → List Int → Int → Int → List Int → Int → Int → List Int → List Int → Option (List Int × Bool)
 | 0, _, _, _, _, _, _, _, _, _ => none
 | k + 1, x1, x6, x7, x8, x18, x19, x20, x254000, x254001 => if 0 ≤ x7 then (if x7 < (x254000.length : Int) then (if x8 = (rd x254000 x7) then (if 1 < (x6.length : Int) then ((some (x6.set (1 : Int).toNat (wrap64 ((rd x6 1) + 1)) : List Int)).bind fun y263 => (if x7 < (x254001.length : Int) then (if x8 = (rd x254001 x7) then (if 2 < (x6.length : Int) then (Z10.l0 k x1 (y263.set (2 : Int).toNat (wrap64 ((rd y263 2) + 1))) x18 x19 (wrap64 (x20 + 1)) x254000 x254001) else (none)) else (Z10.l0 k x1 y263 x18 x19 (wrap64 (x20 + 1)) x254000 x254001)) else (none))) else (none)) else (if x7 < (x254001.length : Int) then (if x8 = (rd x254001 x7) then (if 2 < (x6.length : Int) then (Z10.l0 k x1 (x6.set (2 : Int).toNat (wrap64 ((rd x6 2) + 1))) x18 x19 (wrap64 (x20 + 1)) x254000 x254001) else (none)) else (Z10.l0 k x1 x6 x18 x19 (wrap64 (x20 + 1)) x254000 x254001)) else (none))) else (none)) else (none)
def Z10.l1 : Nat → List Int → List Int → List Int → List Int → List (List Int) → Int → Int → Option (List Int × Bool)
 | 0, _, _, _, _, _, _, _ => none
 | k + 1, x1, x6, x9, x10, x65, x66, x67 => if x67 < x66 then (if 0 ≤ x67 then (if x67 < (x65.length : Int) then (if 0 < ((rd_L1 x65 x67).length : Int) then (if 0 ≤ (rd (rd_L1 x65 x67) 0) then (if (rd (rd_L1 x65 x67) 0) < (x1.length : Int) then (if 0 ≤ (rd x1 (rd (rd_L1 x65 x67) 0)) then (if (rd x1 (rd (rd_L1 x65 x67) 0)) < (x9.length : Int) then (if 0 ≤ (rd x9 (rd x1 (rd (rd_L1 x65 x67) 0))) then (if (rd x9 (rd x1 (rd (rd_L1 x65 x67) 0))) < (x10.length : Int) then ((Z44.f k (rd_L1 x65 x67) (rd x10 (rd x9 (rd x1 (rd (rd_L1 x65 x67) 0))))).bind fun t284 => (if t284 = true then (if 3 < (x6.length : Int) then (Z10.l1 k x1 (x6.set (3 : Int).toNat (wrap64 ((rd x6 3) + 1))) x9 x10 x65 x66 (wrap64 (x67 + 1))) else (none)) else (Z10.l1 k x1 x6 x9 x10 x65 x66 (wrap64 (x67 + 1))))) else (none)) else (none)) else (none)) else (none)) else (none)) else (none)) else (none)) else (none)) else (none)) else (some (x6, true))
end
def Z10.f (k : Nat) (l0_0 : List Int) (l0_1 : List Int) (l1 : List Int) : Option (List Int × Bool) := (Z42.f k l0_0 l0_1 l1).bind fun t254 => (if t254 = true then (Z10.l0 k l1 (([0, 0, 0, 0] : List Int)) l1 (l1.length : Int) 0 l0_0 l0_1) else (some (([] : List Int), false)))
theorem Z10.mono_l : ∀ k, (∀ y0 y1 y2 y3 y4 y5 y6, LeO (Z10.l0 k y0 y1 y2 y3 y4 y5 y6) (Z10.l0 (k + 1) y0 y1 y2 y3 y4 y5 y6)) ∧ (∀ y0 y1 y2 y3 y4 y5 y6 y7 y8, LeO (Z10.j1 k y0 y1 y2 y3 y4 y5 y6 y7 y8) (Z10.j1 (k + 1) y0 y1 y2 y3 y4 y5 y6 y7 y8)) ∧ (∀ y0 y1 y2 y3 y4 y5 y6, LeO (Z10.l1 k y0 y1 y2 y3 y4 y5 y6) (Z10.l1 (k + 1) y0 y1 y2 y3 y4 y5 y6))
 | 0 => ⟨fun _ _ _ _ _ _ _ r h => by simp [Z10.l0] at h, fun _ _ _ _ _ _ _ _ _ r h => by simp [Z10.j1] at h, fun _ _ _ _ _ _ _ r h => by simp [Z10.l1] at h⟩
 | k + 1 => by
  obtain ⟨ih0, ih1, ih2⟩ := Z10.mono_l k
  refine ⟨?_, ?_, ?_⟩
  ·intro y0 y1 y2 y3 y4 y5 y6
   unfold Z10.l0
   repeat' first
   | (with_reducible exact ih0 _ _ _ _ _ _ _)
   | (with_reducible exact ih1 _ _ _ _ _ _ _ _ _)
   | (with_reducible exact ih2 _ _ _ _ _ _ _)
   | (with_reducible exact Z20.mono _ _ _)
   | (with_reducible exact Z42.mono _ _ _ _)
   | (with_reducible exact Z44.mono _ _ _)
   | (with_reducible exact Z14.mono _ _)
   | (with_reducible exact LeO.refl _)
   | (with_reducible exact LeO.none _)
   | (with_reducible refine LeO.ite ?_ ?_)
   | (with_reducible refine LeO.bind ?_ (fun _ => ?_))
   | exact ih0 _ _ _ _ _ _ _
   | exact ih1 _ _ _ _ _ _ _ _ _
   | exact ih2 _ _ _ _ _ _ _
   | exact Z20.mono _ _ _
   | exact Z42.mono _ _ _ _
   | exact Z44.mono _ _ _
   | exact Z14.mono _ _
   | exact LeO.none _
   | refine LeO.ite ?_ ?_
   | refine LeO.bind ?_ (fun _ => ?_)
  ·intro y0 y1 y2 y3 y4 y5 y6 y7 y8
   unfold Z10.j1
   repeat' first
   | (with_reducible exact ih0 _ _ _ _ _ _ _)
   | (with_reducible exact ih1 _ _ _ _ _ _ _ _ _)
   | (with_reducible exact ih2 _ _ _ _ _ _ _)
   | (with_reducible exact Z20.mono _ _ _)
   | (with_reducible exact Z42.mono _ _ _ _)
   | (with_reducible exact Z44.mono _ _ _)
   | (with_reducible exact Z14.mono _ _)
   | (with_reducible exact LeO.refl _)
   | (with_reducible exact LeO.none _)
   | (with_reducible refine LeO.ite ?_ ?_)
   | (with_reducible refine LeO.bind ?_ (fun _ => ?_))
   | exact ih0 _ _ _ _ _ _ _
   | exact ih1 _ _ _ _ _ _ _ _ _
   | exact ih2 _ _ _ _ _ _ _
   | exact Z20.mono _ _ _
   | exact Z42.mono _ _ _ _
   | exact Z44.mono _ _ _
   | exact Z14.mono _ _
   | exact LeO.none _
   | refine LeO.ite ?_ ?_
   | refine LeO.bind ?_ (fun _ => ?_)
  ·intro y0 y1 y2 y3 y4 y5 y6
   unfold Z10.l1
   repeat' first
   | (with_reducible exact ih0 _ _ _ _ _ _ _)
   | (with_reducible exact ih1 _ _ _ _ _ _ _ _ _)
   | (with_reducible exact ih2 _ _ _ _ _ _ _)
   | (with_reducible exact Z20.mono _ _ _)
   | (with_reducible exact Z42.mono _ _ _ _)
   | (with_reducible exact Z44.mono _ _ _)
   | (with_reducible exact Z14.mono _ _)
   | (with_reducible exact LeO.refl _)
   | (with_reducible exact LeO.none _)
   | (with_reducible refine LeO.ite ?_ ?_)
   | (with_reducible refine LeO.bind ?_ (fun _ => ?_))
   | exact ih0 _ _ _ _ _ _ _
   | exact ih1 _ _ _ _ _ _ _ _ _
   | exact ih2 _ _ _ _ _ _ _
   | exact Z20.mono _ _ _
   | exact Z42.mono _ _ _ _
   | exact Z44.mono _ _ _
   | exact Z14.mono _ _
   | exact LeO.none _
   | refine LeO.ite ?_ ?_
   | refine LeO.bind ?_ (fun _ => ?_)
theorem Z10.mono : ∀ a0 a1 a2 k, LeO (Z10.f k a0 a1 a2) (Z10.f (k + 1) a0 a1 a2) := by
 intro a0 a1 a2 k
 obtain ⟨ih0, ih1, ih2⟩ := Z10.mono_l k
 unfold Z10.f
 repeat' first
   | (with_reducible exact ih0 _ _ _ _ _ _ _)
   | (with_reducible exact ih1 _ _ _ _ _ _ _ _ _)
   | (with_reducible exact ih2 _ _ _ _ _ _ _)
   | (with_reducible exact Z20.mono _ _ _)
   | (with_reducible exact Z42.mono _ _ _ _)
   | (with_reducible exact Z44.mono _ _ _)
   | (with_reducible exact Z14.mono _ _)
   | (with_reducible exact LeO.refl _)
   | (with_reducible exact LeO.none _)
   | (with_reducible refine LeO.ite ?_ ?_)
   | (with_reducible refine LeO.bind ?_ (fun _ => ?_))
   | exact ih0 _ _ _ _ _ _ _
   | exact ih1 _ _ _ _ _ _ _ _ _
   | exact ih2 _ _ _ _ _ _ _
   | exact Z20.mono _ _ _
   | exact Z42.mono _ _ _ _
   | exact Z44.mono _ _ _
   | exact Z14.mono _ _
   | exact LeO.none _
   | refine LeO.ite ?_ ?_
   | refine LeO.bind ?_ (fun _ => ?_)
set_option maxHeartbeats 8000000 in
set_option maxRecDepth 100000 in
theorem Z10.calls (k : Nat) (A0_0 : Option Addr) (c0_0 : Nat) (l0_0 : List Int) (A0_1 : Option Addr) (c0_1 : Nat) (l0_1 : List Int) (A1 : Option Addr) (c1 : Nat) (l1 : List Int) (r1 : List Int) (r2 : Bool) (w : World) (hr0_0 : Kd.C (Kd.int .i64) w A0_0 l0_0.length l0_0) (hc0_0 : l0_0.length ≤ c0_0) (hr0_1 : Kd.C (Kd.int .i64) w A0_1 l0_1.length l0_1) (hc0_1 : l0_1.length ≤ c0_1) (hr1 : Kd.C (Kd.int .i64) w A1 l1.length l1) (hc1 : l1.length ≤ c1) (h : Z10.f k l0_0 l0_1 l1 = some (r1, r2)) :
  Calls Try.prog 139 #[.agg #[.slice A0_0 l0_0.length c0_0, .slice A0_1 l0_1.length c0_1], .slice A1 l1.length c1] w fun e w' => ∃ v0_ : Value, e = .returned (.tuple #[v0_, .bool r2]) ∧ Kd.R (Kd.int .i64) 3 w' w.heap.size (fun _ => True) v0_ r1 ∧ Below w.heap.size w w' := by
 have hu27 := Try.underlying27
 have HR0_0 := A_ hr0_0
 have HC0_0 := A_ hc0_0
 clear hr0_0 hc0_0
 have HR0_1 := A_ hr0_1
 have HC0_1 := A_ hc0_1
 clear hr0_1 hc0_1
 have HR1 := A_ hr1
 have HC1 := A_ hc1
 clear hr1 hc1
 have HB := A_ (Below.refl w.heap.size w)
 have H : ((Z42.f k l0_0 l0_1 l1).bind fun t254 => (if t254 = true then (Z10.l0 k l1 (([0, 0, 0, 0] : List Int)) l1 (l1.length : Int) 0 l0_0 l0_1) else (some (([] : List Int), false)))) = some (r1, r2) := h
 clear h
 replace H := Option.bind_eq_some_iff.mp H
 obtain ⟨t254, A30, H⟩ := H
 replace H : (if t254 = true then (Z10.l0 k l1 (([0, 0, 0, 0] : List Int)) l1 (l1.length : Int) 0 l0_0 l0_1) else (some (([] : List Int), false))) = some (r1, r2) := H
 have A3 := A_ A30
 clear A30
 by_cases c4 : t254 = true
 ·subst c4
  have H1 : (Z10.l0 k l1 (([0, 0, 0, 0] : List Int)) l1 (l1.length : Int) 0 l0_0 l0_1) = some (r1, r2) := by rw [if_pos rfl] at H; exact H
  clear H
  have H := H1
  clear H1
  obtain ⟨y255, hy255⟩ : ∃ y_ : List Int, y_ = (([0, 0, 0, 0] : List Int)) := ⟨_, rfl⟩
  replace H : (Z10.l0 k l1 y255 l1 (l1.length : Int) 0 l0_0 l0_1) = some (r1, r2) := by first | (rw [hy255]; with_reducible exact H) | (have H2_ := (oA_ _ _).symm.trans H; rw [hy255]; with_reducible exact H2_) | (have H2_ := (oA_ _ _).symm.trans H; with_reducible exact H2_) | with_reducible exact H | (rw [hy255]; exact H) | exact H
  have Ny255 := A_ hy255
  clear hy255
  have H' := A_ H
  clear H
  go_enter Try.func139, Try.ntmps139
  go_wp2_with (first | ((with_reducible refine gB_ (N := 2) rfl ?_); refine xA_ ?hg (N := 2) ?hd (cs := #[.slice A0_0 l0_0.length c0_0, .slice A0_1 l0_1.length c0_1]) (t := 27) ?hr ?_; (case hd => rfl); (case hg => rfl); (case hr => first | (go_simp; done) | (go_simp; rfl)); intro gb253 hg w5 hbox hb; have n0_ := A_ (bE_ (by repeat (first | (with_reducible first | exact HB.out | apply bA_ | apply bB_ | apply bC_) | exact HB.out)) hb); have n1_ := A_ (hbox); have n2_ := A_ ((by rw [hg]; exact (bF_ (by repeat (first | (with_reducible first | exact HB.out | apply bA_ | apply bB_ | apply bC_) | exact HB.out))) : w.heap.size ≤ gb253)); have n3_ := A_ ((by rw [hg]; exact (bF_ (by repeat (first | (with_reducible first | exact HB.out | apply bA_ | apply bB_ | apply bC_) | exact HB.out))) : w.heap.size ≤ gb253)); clear HB; have HB := n0_; have BK253 := n1_; have GW253 := n2_; have GE253 := n3_; clear n0_ n1_ n2_ n3_; clear hb hbox hg; have hcz6_0 := cz0_ BK253.out; have hcz6_1 := cz1_ BK253.out; have hfz6_0 := kD_ BK253.out 0; have hfz6_1 := kD_ BK253.out 1) | ((with_reducible refine gA_ (f := 100) rfl ?_); refine goesL_ (some 15) rfl rfl Try.func100 (by kernel_rfl) rfl #[.agg #[.slice A0_0 l0_0.length c0_0, .slice A0_1 l0_1.length c0_1], .slice A1 l1.length c1] rfl (by (try simp only [mA_, mB_, mC_]); first | done | rfl | (simp only [lA_, lB_]; rfl)) ?_; (with_reducible refine (Z42.calls k _ _ l0_0 _ _ l0_1 _ _ l1 true _ ?side1 ?side2 ?side3 ?side4 ?side5 ?side6 A3.out).mono ?_); (case side1 => repeat (first | exact (cD_ HR0_0.out HB.out) | (with_reducible first | refine cA_ ?_ _ | refine cB_ ?_ _ | refine cC_ ?_))); (case side2 => exact HC0_0.out); (case side3 => repeat (first | exact (cD_ HR0_1.out HB.out) | (with_reducible first | refine cA_ ?_ _ | refine cB_ ?_ _ | refine cC_ ?_))); (case side4 => exact HC0_1.out); (case side5 => repeat (first | exact (cD_ HR1.out HB.out) | (with_reducible first | refine cA_ ?_ _ | refine cB_ ?_ _ | refine cC_ ?_))); (case side6 => exact HC1.out); rintro e w7 ⟨rfl, hb⟩; refine ⟨_, rfl, ?_⟩; have n0_ := A_ (kE_ (g := gb253) (by (with_reducible repeat (first | refine kA_ ?_ _ | refine kB_ ?_ | refine kC_ ?_ _)); exact BK253.out) hb); have n1_ := A_ (bE_ (by repeat (first | (with_reducible first | exact HB.out | apply bA_ | apply bB_ | apply bC_ | refine bD_ ?_ GE253.out) | exact HB.out)) hb); clear BK253; clear HB; have BK253 := n0_; have HB := n1_; clear n0_ n1_; (try clear hb); (try clear hb2); (try clear hk); (try clear hi)) | ((with_reducible refine gB_ (N := 17) rfl ?_); refine Kd.R_lit (Kd.int .i64) _ 3 ?hg (N := 17) ?hd (xs := ([0, 0, 0, 0] : List Int)) (inner := [.int .i64 0, .int .i64 0, .int .i64 0, .int .i64 0]) (ok := fun _ => True) (okp := fun _ => True) ?hr ?hp (fun _ hk => hk) trivial (Below.refl _ _) (nA_ _) (by simp) ?_; (case hd => rfl); (case hg => rfl); (case hr => first | (go_simp; done) | (go_simp; rfl)); (case hp => exact (Reps.one (show Kd.M (Kd.int .i64) _ _ _ 0 [.int .i64 0] from rfl) (Reps.one (show Kd.M (Kd.int .i64) _ _ _ 0 [.int .i64 0] from rfl) (Reps.one (show Kd.M (Kd.int .i64) _ _ _ 0 [.int .i64 0] from rfl) (Reps.one (show Kd.M (Kd.int .i64) _ _ _ 0 [.int .i64 0] from rfl) (Reps.none _ _)))))); intro v256 w8 ho9 hb hg_ hnew_; clear hg_ hnew_; (first | rw [← Ny255.out] at ho9 | (simp only [Int.reduceToNat] at ho9; rw [← Ny255.out] at ho9)); have n0_ := A_ (rE_ ho9 (bF_ (by repeat (first | (with_reducible first | exact HB.out | apply bA_ | apply bB_ | apply bC_ | refine bD_ ?_ GE253.out) | exact HB.out)))); have n1_ := A_ (kE_ (g := gb253) (by (with_reducible repeat (first | refine kA_ ?_ _ | refine kB_ ?_ | refine kC_ ?_ _)); exact BK253.out) hb); have n2_ := A_ (bE_ (by repeat (first | (with_reducible first | exact HB.out | apply bA_ | apply bB_ | apply bC_ | refine bD_ ?_ GE253.out) | exact HB.out)) hb); clear BK253; clear HB; have HO257 := n0_; have BK253 := n1_; have HB := n2_; clear n0_ n1_ n2_; clear hb ho9))
  go_loopg [20] k (fun kq v20 w' => ∃ (x6_1 : List Int) (x20_1 : Int), v20 = .int .i64 x20_1 ∧ Aside0 (Z10.l0 kq l1 x6_1 l1 (l1.length : Int) x20_1 l0_0 l0_1 = some (r1, r2)) ∧ Aside0 (kq ≤ k) ∧ Aside0 (Kd.R (Kd.int .i64) 3 w' w.heap.size (fun _ => True) v256 x6_1) ∧ Aside0 (w'.heap[gb253]? = some (.cells #[(.slice A0_0 l0_0.length c0_0), (.slice A0_1 l0_1.length c0_1)] 27 (0, 0))) ∧ Aside0 (Below w.heap.size w w'))
  case atStart => exact ⟨(y255), (0), (by first | rfl | (simp; done) | (simp [*]; done)), H', ⟨nA_ _⟩, ⟨by (with_reducible repeat (first | apply rA_ | apply rB_ | apply rC_)); exact HO257.out⟩, ⟨by (with_reducible repeat (first | refine kA_ ?_ _ | refine kB_ ?_ | refine kC_ ?_ _)); exact BK253.out⟩, ⟨by repeat (first | (with_reducible first | exact HB.out | apply bA_ | apply bB_ | apply bC_ | refine bD_ ?_ GE253.out) | exact HB.out)⟩⟩
  case round =>
   clear H'
   (try clear c1); (try clear p2); (try clear c4); (try clear hcz6_0); (try clear hcz6_1); (try clear hfz6_0); (try clear hfz6_1)
   obtain ⟨x6_1, x20_1, rfl, HA, HK1, HO_6, BK253, HB⟩ := hrel
   cases gk with
   | zero => exact absurd HA.out (by simp [Z10.l0])
   | succ k1 =>
    have H := HA.out
    clear HA
    simp only [Z10.l0] at H
    by_cases c10 : x20_1 < (l1.length : Int)
    ·rw [if_pos c10] at H
     have c10b0 : decide (x20_1 < (l1.length : Int)) = true := oC_ c10
     clear c10
     by_cases c11 : 0 ≤ x20_1
     ·rw [if_pos c11] at H
      have c11b0 : decide (0 ≤ x20_1) = true := oC_ c11
      clear c11
      by_cases c12 : x20_1 < (l1.length : Int)
      ·rw [if_pos c12] at H
       have c12b0 : decide (x20_1 < (l1.length : Int)) = true := oC_ c12
       clear c12
       have HC13 := A_ H
       clear H
       have p258 : 0 ≤ (x20_1 : Int) := oB_ (by first | (with_reducible assumption) | assumption)
       have q258 : x20_1 < (l1.length : Int) := oB_ (by first | (with_reducible assumption) | assumption)
       obtain ⟨ad258, e258, hx258_0⟩ := Kd.at_int HR1.out x20_1 p258 q258
       cases e258
       replace hx258_0 := (HB.out.cell (World.block_lt_of_cell? w _ hx258_0)).trans hx258_0
       replace p258 := eq_true p258
       replace q258 := eq_true q258
       go_upto_if 27 with (fail)
       go_cut [] (fun wc => ∃ (kq : Nat) (x6_12 : List Int), Aside0 (Z10.j1 kq l1 x6_12 x20_1 (rd l1 x20_1) l1 (l1.length : Int) x20_1 l0_0 l0_1 = some (r1, r2)) ∧ Aside0 (kq ≤ k1) ∧ Aside0 (Kd.R (Kd.int .i64) 3 wc w.heap.size (fun _ => True) v256 x6_12) ∧ Aside0 (wc.heap[gb253]? = some (.cells #[(.slice A0_0 l0_0.length c0_0), (.slice A0_1 l0_1.length c0_1)] 27 (0, 0))) ∧ Aside0 (Below w.heap.size w wc))
       case first =>
        have H := HC13.out
        clear HC13
        by_cases c14 : (rd l1 x20_1) = x20_1
        ·rw [if_pos c14] at H
         have c14b0 : ((rd l1 x20_1) == x20_1) = true := beq_iff_eq.mpr c14
         have c14b1 : ((rd l1 x20_1) != x20_1) = false := bne_eq_false_iff_eq.mpr c14
         clear c14
         (first | rw [c14b0] | (simp only [i64_w, i32_w]; rw [c14b0]) | skip)
         by_cases c15 : 0 < (x6_1.length : Int)
         ·rw [if_pos c15] at H
          have c15b0 : decide (0 < (x6_1.length : Int)) = true := oC_ c15
          have c15b1 : decide (0 < x6_1.length) = true := oC_ (by omega)
          clear c15
          obtain ⟨y260, hy260⟩ : ∃ y_ : List Int, y_ = (x6_1.set (0 : Int).toNat (wrap64 ((rd x6_1 0) + 1))) := ⟨_, rfl⟩
          replace H : (Z10.j1 k1 l1 y260 x20_1 (rd l1 x20_1) l1 (l1.length : Int) x20_1 l0_0 l0_1) = some (r1, r2) := by first | (rw [hy260]; with_reducible exact H) | (have H2_ := (oA_ _ _).symm.trans H; rw [hy260]; with_reducible exact H2_) | (have H2_ := (oA_ _ _).symm.trans H; with_reducible exact H2_) | with_reducible exact H | (rw [hy260]; exact H) | exact H
          have Ny260 := A_ hy260
          clear hy260
          have H' := A_ H
          clear H
          obtain ⟨Ao17, co17, eo17⟩ := Kd.R_slice HO_6.out
          subst eo17
          have p259 : 0 ≤ (0 : Int) := (by omega)
          have q259 : 0 < (x6_1.length : Int) := oB_ (by first | (with_reducible assumption) | assumption)
          obtain ⟨ad259, e259, hx259_0⟩ := Kd.at_int (Kd.R_reads' HO_6.out).2.2 0 p259 q259
          cases e259
          have qi259 : (0 < x6_1.length) = True := eq_true (by omega)
          (try rw [show ((0 : Int)).toNat = 0 from rfl] at hx259_0)
          (try rw [Addr.add_zero'] at hx259_0)
          replace p259 := eq_true p259
          replace q259 := eq_true q259
          have p16 : 0 ≤ (0 : Int) := (by omega)
          have q16 : (0 : Int) < ((x6_1.length : Int) : Int) := oB_ (by first | (with_reducible assumption) | assumption)
          have qi16 : (0 < x6_1.length) = True := eq_true (by omega)
          obtain ⟨go16, co16, eo16, gb16, gl16, cl16, HG16⟩ := Kd.R_form HO_6.out (by omega)
          (first | cases eo16 | (injection eo16 with ea_ en_ ec_; (first | subst ea_ | (injection ea_ with ea_; subst ea_)); subst ec_; clear en_))
          have GB16 := A_ gb16
          have GG16 := A_ HG16
          clear gb16 gl16 HG16
          (first | simp only [add_plain] at hx259_0 | skip)
          obtain ⟨hx16_0, hf16_0⟩ := Kd.R_celln 0 HO_6.out (0 : Int) p16 q16
          (try rw [show ((0 : Int)).toNat = 0 from rfl] at hx16_0)
          (try simp only [Nat.reduceMul, Nat.zero_mul, Nat.zero_add, Nat.reduceAdd] at hx16_0)
          (try rw [show ((0 : Int)).toNat = 0 from rfl] at hf16_0)
          (try simp only [Nat.reduceMul, Nat.zero_mul, Nat.zero_add, Nat.reduceAdd] at hf16_0)
          replace p16 := eq_true p16
          replace q16 := eq_true q16
          have HP18 := Kd.R_putg HO_6.out (0 : Int) (wrap64 ((rd x6_1 0) + 1))
          go_wp2_with (first | ((with_reducible refine gate_store (t := 3) (p := 32) rfl ?_); refine store_event (t := 3) (p := 32) (v := ?vo_w19) (w1 := (wr.setCell ⟨go16, (0 : Int).toNat, none⟩ (.int .i64 (wrap64 ((rd x6_1 0) + 1))))) ?hg ?ho ?hn ?hr ?_; (case ho => rfl); (case hg => rfl); (case hn => rfl); (case hr => first | (go_simp; done) | (go_simp; rfl)); intro w19 hw; have hg : wr.grownBy w19 (some go16) := (by rw [hw]; exact HP18.2); have hp_ : Kd.R (Kd.int .i64) 3 w19 w.heap.size (fun _ => True) (.slice (some ⟨go16, 0, none⟩) x6_1.length co17) y260 := (by rw [hw, Ny260.out]; first | exact HP18.1 | exact Kd.R_mono HP18.1 (fun _ hk => by revert hk; (try simp only [and_imp]); intros; (repeat' apply And.intro) <;> assumption)); clear HP18; have n0_ := A_ (hp_); have n1_ := A_ (blk_grown (g := gb253) (o := .cells #[.slice A0_0 l0_0.length c0_0, .slice A0_1 l0_1.length c0_1] 27 (0, 0)) (by (with_reducible repeat (first | refine kA_ ?_ _ | refine kB_ ?_ | refine kC_ ?_ _)); exact BK253.out) hg (Kd.R_ne HO_6.out BK253.out (by decide))); have n2_ := A_ ((by rw [hw]; exact bD_ (HB.out) GB16.out : Below w.heap.size w w19)); clear HO_6; clear BK253; clear HB; have HO_6 := n0_; have BK253 := n1_; have HB := n2_; clear n0_ n1_ n2_; clear hg hw hp_))
          go_meet
          case rel => exact ⟨_, (y260), H', ⟨by have := HK1.out; first | omega | exact nA_ _⟩, ⟨by (with_reducible repeat (first | apply rA_ | apply rB_ | apply rC_)); exact HO_6.out⟩, ⟨by (with_reducible repeat (first | refine kA_ ?_ _ | refine kB_ ?_ | refine kC_ ?_ _)); exact BK253.out⟩, ⟨by repeat (first | (with_reducible first | exact HB.out | apply bA_ | apply bB_ | apply bC_ | refine bD_ ?_ GE253.out) | exact HB.out)⟩⟩
         ·rw [if_neg c15] at H
          exact absurd H (by simp)
        ·rw [if_neg c14] at H
         have c14b0 : ((rd l1 x20_1) == x20_1) = false := beq_eq_false_iff_ne.mpr c14
         have c14b1 : ((rd l1 x20_1) != x20_1) = true := bne_iff_ne.mpr c14
         (first | rw [c14b0] | (simp only [i64_w, i32_w]; rw [c14b0]) | skip)
         have H' := A_ H
         clear H
         go_wp2
         go_meet
         case rel => exact ⟨_, (x6_1), H', ⟨by have := HK1.out; first | omega | exact nA_ _⟩, ⟨by (with_reducible repeat (first | apply rA_ | apply rB_ | apply rC_)); exact HO_6.out⟩, ⟨by (with_reducible repeat (first | refine kA_ ?_ _ | refine kB_ ?_ | refine kC_ ?_ _)); exact BK253.out⟩, ⟨by repeat (first | (with_reducible first | exact HB.out | apply bA_ | apply bB_ | apply bC_ | refine bD_ ?_ GE253.out) | exact HB.out)⟩⟩
       case rest =>
        clear HC13
        (try clear c1); (try clear p1); (try clear q1); (try clear hx1); (try clear qi1); (try clear p2); (try clear q2); (try clear hx2); (try clear qi2); (try clear c4); (try clear p6); (try clear c10); (try clear c10b0); (try clear c11); (try clear c11b0); (try clear c12); (try clear c12b0); (try clear c13); (try clear c14); (try clear c14b0); (try clear c14b1); (try clear c15); (try clear c15b0); (try clear c15b1); (try clear p16); (try clear q16); (try clear hx16); (try clear qi16); (try clear hf16); (try clear hcz6_0); (try clear hcz6_1); (try clear hfz6_0); (try clear hfz6_1); (try clear hx16_0); (try clear hx258_0); (try clear hx259_0); (try clear p16); (try clear p2); (try clear p258); (try clear p259); (try clear q16); (try clear q258); (try clear q259)
        obtain ⟨kq, x6_12, HA, HJ12, HO_6, BK253, HB⟩ := hcut
        cases kq with
        | zero => exact absurd HA.out (by simp [Z10.j1])
        | succ kj12 =>
         have H := HA.out
         clear HA
         simp only [Z10.j1] at H
         by_cases c20 : 0 ≤ x20_1
         ·rw [if_pos c20] at H
          have c20b0 : decide (0 ≤ x20_1) = true := oC_ c20
          clear c20
          by_cases c21 : x20_1 < (l0_0.length : Int)
          ·rw [if_pos c21] at H
           have c21b0 : decide (x20_1 < (l0_0.length : Int)) = true := oC_ c21
           clear c21
           by_cases c22 : (rd l1 x20_1) = (rd l0_0 x20_1)
           ·rw [if_pos c22] at H
            have c22b0 : ((rd l1 x20_1) == (rd l0_0 x20_1)) = true := beq_iff_eq.mpr c22
            have c22b1 : ((rd l1 x20_1) != (rd l0_0 x20_1)) = false := bne_eq_false_iff_eq.mpr c22
            clear c22
            by_cases c23 : 1 < (x6_12.length : Int)
            ·rw [if_pos c23] at H
             have c23b0 : decide (1 < (x6_12.length : Int)) = true := oC_ c23
             have c23b1 : decide (1 < x6_12.length) = true := oC_ (by omega)
             clear c23
             obtain ⟨y263, hy263⟩ : ∃ y_ : List Int, y_ = (x6_12.set (1 : Int).toNat (wrap64 ((rd x6_12 1) + 1))) := ⟨_, rfl⟩
             replace H : (if x20_1 < (l0_1.length : Int) then (if (rd l1 x20_1) = (rd l0_1 x20_1) then (if 2 < (x6_12.length : Int) then (Z10.l0 kj12 l1 (y263.set (2 : Int).toNat (wrap64 ((rd y263 2) + 1))) l1 (l1.length : Int) (wrap64 (x20_1 + 1)) l0_0 l0_1) else (none)) else (Z10.l0 kj12 l1 y263 l1 (l1.length : Int) (wrap64 (x20_1 + 1)) l0_0 l0_1)) else (none)) = some (r1, r2) := by first | (rw [hy263]; with_reducible exact H) | (have H2_ := (oA_ _ _).symm.trans H; rw [hy263]; with_reducible exact H2_) | (have H2_ := (oA_ _ _).symm.trans H; with_reducible exact H2_) | with_reducible exact H | (rw [hy263]; exact H) | exact H
             have Ny263 := A_ hy263
             clear hy263
             by_cases c25 : x20_1 < (l0_1.length : Int)
             ·rw [if_pos c25] at H
              have c25b0 : decide (x20_1 < (l0_1.length : Int)) = true := oC_ c25
              clear c25
              by_cases c26 : (rd l1 x20_1) = (rd l0_1 x20_1)
              ·rw [if_pos c26] at H
               have c26b0 : ((rd l1 x20_1) == (rd l0_1 x20_1)) = true := beq_iff_eq.mpr c26
               have c26b1 : ((rd l1 x20_1) != (rd l0_1 x20_1)) = false := bne_eq_false_iff_eq.mpr c26
               clear c26
               by_cases c27 : 2 < (x6_12.length : Int)
               ·rw [if_pos c27] at H
                have c27b0 : decide (2 < (x6_12.length : Int)) = true := oC_ c27
                have c27b1 : decide (2 < x6_12.length) = true := oC_ (by omega)
                clear c27
                obtain ⟨y266, hy266⟩ : ∃ y_ : List Int, y_ = (y263.set (2 : Int).toNat (wrap64 ((rd y263 2) + 1))) := ⟨_, rfl⟩
                replace H : (Z10.l0 kj12 l1 y266 l1 (l1.length : Int) (wrap64 (x20_1 + 1)) l0_0 l0_1) = some (r1, r2) := by first | (rw [hy266]; with_reducible exact H) | (have H2_ := (oA_ _ _).symm.trans H; rw [hy266]; with_reducible exact H2_) | (have H2_ := (oA_ _ _).symm.trans H; with_reducible exact H2_) | with_reducible exact H | (rw [hy266]; exact H) | exact H
                have Ny266 := A_ hy266
                clear hy266
                have H' := A_ H
                clear H
                have hcz29_0 := cz0_ BK253.out
                have hcz29_1 := cz1_ BK253.out
                have hfz29_0 := kD_ BK253.out 0
                have hfz29_1 := kD_ BK253.out 1
                have p261 : 0 ≤ (x20_1 : Int) := oB_ (by first | (with_reducible assumption) | assumption)
                have q261 : x20_1 < (l0_0.length : Int) := oB_ (by first | (with_reducible assumption) | assumption)
                obtain ⟨ad261, e261, hx261_0⟩ := Kd.at_int HR0_0.out x20_1 p261 q261
                cases e261
                replace hx261_0 := (HB.out.cell (World.block_lt_of_cell? w _ hx261_0)).trans hx261_0
                replace p261 := eq_true p261
                replace q261 := eq_true q261
                obtain ⟨Ao30, co30, eo30⟩ := Kd.R_slice HO_6.out
                subst eo30
                have p262 : 0 ≤ (1 : Int) := (by omega)
                have q262 : 1 < (x6_12.length : Int) := oB_ (by first | (with_reducible assumption) | assumption)
                obtain ⟨ad262, e262, hx262_0⟩ := Kd.at_int (Kd.R_reads' HO_6.out).2.2 1 p262 q262
                cases e262
                (try simp only [show (1 : Int).toNat = 1 from rfl, Nat.reduceMul, Nat.reduceEqDiff, Go.Addr.add, ↓reduceIte] at hx262_0)
                have qi262 : (1 < x6_12.length) = True := eq_true (by omega)
                (try rw [show ((1 : Int)).toNat = 1 from rfl] at hx262_0)
                replace p262 := eq_true p262
                replace q262 := eq_true q262
                have p24 : 0 ≤ (1 : Int) := (by omega)
                have q24 : (1 : Int) < ((x6_12.length : Int) : Int) := oB_ (by first | (with_reducible assumption) | assumption)
                have qi24 : (1 < x6_12.length) = True := eq_true (by omega)
                obtain ⟨go24, co24, eo24, gb24, gl24, cl24, HG24⟩ := Kd.R_form HO_6.out (by omega)
                (first | cases eo24 | (injection eo24 with ea_ en_ ec_; (first | subst ea_ | (injection ea_ with ea_; subst ea_)); subst ec_; clear en_))
                have GB24 := A_ gb24
                have GG24 := A_ HG24
                clear gb24 gl24 HG24
                (first | simp only [add_plain] at hx262_0 | skip)
                obtain ⟨hx24_0, hf24_0⟩ := Kd.R_celln 0 HO_6.out (1 : Int) p24 q24
                (try rw [show ((1 : Int)).toNat = 1 from rfl] at hx24_0)
                (try simp only [Nat.reduceMul, Nat.zero_mul, Nat.zero_add, Nat.reduceAdd] at hx24_0)
                (try rw [show ((1 : Int)).toNat = 1 from rfl] at hf24_0)
                (try simp only [Nat.reduceMul, Nat.zero_mul, Nat.zero_add, Nat.reduceAdd] at hf24_0)
                replace p24 := eq_true p24
                replace q24 := eq_true q24
                have HP31 := Kd.R_putg HO_6.out (1 : Int) (wrap64 ((rd x6_12 1) + 1))
                go_wp2_with (first | ((with_reducible refine gate_store (t := 3) (p := 44) rfl ?_); refine store_event (t := 3) (p := 44) (v := ?vo_w32) (w1 := (wc.setCell ⟨go24, (1 : Int).toNat, none⟩ (.int .i64 (wrap64 ((rd x6_12 1) + 1))))) ?hg ?ho ?hn ?hr ?_; (case ho => rfl); (case hg => rfl); (case hn => rfl); (case hr => first | (go_simp; done) | (go_simp; rfl)); intro w32 hw; have hg : wc.grownBy w32 (some go24) := (by rw [hw]; exact HP31.2); have hp_ : Kd.R (Kd.int .i64) 3 w32 w.heap.size (fun _ => True) (.slice (some ⟨go24, 0, none⟩) x6_12.length co30) y263 := (by rw [hw, Ny263.out]; first | exact HP31.1 | exact Kd.R_mono HP31.1 (fun _ hk => by revert hk; (try simp only [and_imp]); intros; (repeat' apply And.intro) <;> assumption)); clear HP31; have n0_ := A_ (hp_); have n1_ := A_ (blk_grown (g := gb253) (o := .cells #[.slice (some ad261) l0_0.length c0_0, .slice A0_1 l0_1.length c0_1] 27 (0, 0)) (by (with_reducible repeat (first | refine kA_ ?_ _ | refine kB_ ?_ | refine kC_ ?_ _)); exact BK253.out) hg (Kd.R_ne HO_6.out BK253.out (by decide))); have n2_ := A_ ((by rw [hw]; exact bD_ (HB.out) GB24.out : Below w.heap.size w w32)); clear HO_6; clear BK253; clear HB; have HO_6 := n0_; have BK253 := n1_; have HB := n2_; clear n0_ n1_ n2_; clear hg hw hp_; have hcz33_0 := cz0_ BK253.out; have hcz33_1 := cz1_ BK253.out; have hfz33_0 := kD_ BK253.out 0; have hfz33_1 := kD_ BK253.out 1; have p264 : 0 ≤ (x20_1 : Int) := oB_ (by first | (with_reducible assumption) | assumption); have q264 : x20_1 < (l0_1.length : Int) := oB_ (by first | (with_reducible assumption) | assumption); obtain ⟨ad264, e264, hx264_0⟩ := Kd.at_int HR0_1.out x20_1 p264 q264; cases e264; replace hx264_0 := (HB.out.cell (World.block_lt_of_cell? w _ hx264_0)).trans hx264_0; replace p264 := eq_true p264; replace q264 := eq_true q264; have p265 : 0 ≤ (2 : Int) := (by omega); have q265 : 2 < (y263.length : Int) := (by have h_ : (2 : Int) < ((x6_12.length : Int) : Int) := oB_ (by first | (with_reducible assumption) | assumption); first | (have e_ := (Kd.R_reads' HO_6.out).1; omega) | simpa only [Ny263.out, List.length_set] using h_); have ql265 : ((2 : Int) < ((x6_12.length : Int) : Int)) = True := eq_true (oB_ (by first | (with_reducible assumption) | assumption)); (try have qn265 : (2 < x6_12.length) = True := eq_true (by have h_ : (2 : Int) < ((x6_12.length : Int) : Int) := oB_ (by first | (with_reducible assumption) | assumption); omega)); obtain ⟨ad265, e265, hx265_0⟩ := Kd.at_int (Kd.R_reads' HO_6.out).2.2 2 p265 q265; obtain rfl : (⟨go24, 0, none⟩ : Addr) = ad265 := (by injection e265); (first | simp only [add_plain] at hx265_0 | simp only [add_at] at hx265_0 | simp only [Addr.add, Nat.zero_add] at hx265_0 | skip); have qi265 : (2 < y263.length) = True := eq_true (by omega); (try rw [show ((2 : Int)).toNat = 2 from rfl] at hx265_0); replace p265 := eq_true p265; replace q265 := eq_true q265; have p28 : 0 ≤ (2 : Int) := (by omega); have q28 : (2 : Int) < ((x6_12.length : Int) : Int) := oB_ (by first | (with_reducible assumption) | assumption); have qi28 : (2 < x6_12.length) = True := eq_true (by omega); obtain ⟨hx28_0, hf28_0⟩ := Kd.R_celln 0 HO_6.out (2 : Int) p28 q28; (try rw [show ((2 : Int)).toNat = 2 from rfl] at hx28_0); (try simp only [Nat.reduceMul, Nat.zero_mul, Nat.zero_add, Nat.reduceAdd] at hx28_0); (try rw [show ((2 : Int)).toNat = 2 from rfl] at hf28_0); (try simp only [Nat.reduceMul, Nat.zero_mul, Nat.zero_add, Nat.reduceAdd] at hf28_0); replace p28 := eq_true p28; replace q28 := eq_true q28; obtain ⟨hy34_, hz34_⟩ := Kd.R_celln 0 HO_6.out (2 : Int) (by omega) (oB_ (by first | (with_reducible assumption) | assumption)); (try simp only [Int.reduceToNat, Int.toNat_zero, Int.toNat_ofNat, Nat.reduceMul, Nat.zero_mul, Nat.zero_add] at hy34_ hz34_); (try rw [show ((2 : Int)).toNat = 2 from rfl] at hy34_); (try rw [show ((2 : Int)).toNat = 2 from rfl] at hz34_); have HP34 := Kd.R_putg HO_6.out (2 : Int) (wrap64 ((rd y263 2) + 1))) | ((with_reducible refine gate_store (t := 3) (p := 56) rfl ?_); refine store_event (t := 3) (p := 56) (v := ?vo_w35) (w1 := (w32.setCell ⟨go24, (2 : Int).toNat, none⟩ (.int .i64 (wrap64 ((rd y263 2) + 1))))) ?hg ?ho ?hn ?hr ?_; (case ho => rfl); (case hg => rfl); (case hn => rfl); (case hr => first | (go_simp; done) | (go_simp; rfl)); intro w35 hw; have hg : w32.grownBy w35 (some go24) := (by rw [hw]; exact HP34.2); have hp_ : Kd.R (Kd.int .i64) 3 w35 w.heap.size (fun _ => True) (.slice (some ⟨go24, 0, none⟩) x6_12.length co30) y266 := (by rw [hw, Ny266.out]; first | exact HP34.1 | exact Kd.R_mono HP34.1 (fun _ hk => by revert hk; (try simp only [and_imp]); intros; (repeat' apply And.intro) <;> assumption)); clear HP34; have n0_ := A_ (hp_); have n1_ := A_ (blk_grown (g := gb253) (o := .cells #[.slice (some ad261) l0_0.length c0_0, .slice (some ad264) l0_1.length c0_1] 27 (0, 0)) (by (with_reducible repeat (first | refine kA_ ?_ _ | refine kB_ ?_ | refine kC_ ?_ _)); exact BK253.out) hg (Kd.R_ne HO_6.out BK253.out (by decide))); have n2_ := A_ ((by rw [hw]; exact bD_ (HB.out) GB24.out : Below w.heap.size w w35)); clear HO_6; clear BK253; clear HB; have HO_6 := n0_; have BK253 := n1_; have HB := n2_; clear n0_ n1_ n2_; clear hg hw hp_))
                go_roundg kj12
                case measure => have := HK1.out; have := HJ12.out; omega
                case rel => exact ⟨(y266), (wrap64 (x20_1 + 1)), (by first | rfl | (simp; done) | (simp [*]; done)), H', ⟨by have := HK1.out; have := HJ12.out; omega⟩, ⟨by (with_reducible repeat (first | apply rA_ | apply rB_ | apply rC_)); exact HO_6.out⟩, ⟨by (with_reducible repeat (first | refine kA_ ?_ _ | refine kB_ ?_ | refine kC_ ?_ _)); exact BK253.out⟩, ⟨by repeat (first | (with_reducible first | exact HB.out | apply bA_ | apply bB_ | apply bC_ | refine bD_ ?_ GE253.out) | exact HB.out)⟩⟩
               ·rw [if_neg c27] at H
                exact absurd H (by simp)
              ·rw [if_neg c26] at H
               have c26b0 : ((rd l1 x20_1) == (rd l0_1 x20_1)) = false := beq_eq_false_iff_ne.mpr c26
               have c26b1 : ((rd l1 x20_1) != (rd l0_1 x20_1)) = true := bne_iff_ne.mpr c26
               have H' := A_ H
               clear H
               have hcz36_0 := cz0_ BK253.out
               have hcz36_1 := cz1_ BK253.out
               have hfz36_0 := kD_ BK253.out 0
               have hfz36_1 := kD_ BK253.out 1
               have p261 : 0 ≤ (x20_1 : Int) := oB_ (by first | (with_reducible assumption) | assumption)
               have q261 : x20_1 < (l0_0.length : Int) := oB_ (by first | (with_reducible assumption) | assumption)
               obtain ⟨ad261, e261, hx261_0⟩ := Kd.at_int HR0_0.out x20_1 p261 q261
               cases e261
               replace hx261_0 := (HB.out.cell (World.block_lt_of_cell? w _ hx261_0)).trans hx261_0
               replace p261 := eq_true p261
               replace q261 := eq_true q261
               obtain ⟨Ao37, co37, eo37⟩ := Kd.R_slice HO_6.out
               subst eo37
               have p262 : 0 ≤ (1 : Int) := (by omega)
               have q262 : 1 < (x6_12.length : Int) := oB_ (by first | (with_reducible assumption) | assumption)
               obtain ⟨ad262, e262, hx262_0⟩ := Kd.at_int (Kd.R_reads' HO_6.out).2.2 1 p262 q262
               cases e262
               (try simp only [show (1 : Int).toNat = 1 from rfl, Nat.reduceMul, Nat.reduceEqDiff, Go.Addr.add, ↓reduceIte] at hx262_0)
               have qi262 : (1 < x6_12.length) = True := eq_true (by omega)
               (try rw [show ((1 : Int)).toNat = 1 from rfl] at hx262_0)
               replace p262 := eq_true p262
               replace q262 := eq_true q262
               have p24 : 0 ≤ (1 : Int) := (by omega)
               have q24 : (1 : Int) < ((x6_12.length : Int) : Int) := oB_ (by first | (with_reducible assumption) | assumption)
               have qi24 : (1 < x6_12.length) = True := eq_true (by omega)
               obtain ⟨go24, co24, eo24, gb24, gl24, cl24, HG24⟩ := Kd.R_form HO_6.out (by omega)
               (first | cases eo24 | (injection eo24 with ea_ en_ ec_; (first | subst ea_ | (injection ea_ with ea_; subst ea_)); subst ec_; clear en_))
               have GB24 := A_ gb24
               have GG24 := A_ HG24
               clear gb24 gl24 HG24
               (first | simp only [add_plain] at hx262_0 | skip)
               obtain ⟨hx24_0, hf24_0⟩ := Kd.R_celln 0 HO_6.out (1 : Int) p24 q24
               (try rw [show ((1 : Int)).toNat = 1 from rfl] at hx24_0)
               (try simp only [Nat.reduceMul, Nat.zero_mul, Nat.zero_add, Nat.reduceAdd] at hx24_0)
               (try rw [show ((1 : Int)).toNat = 1 from rfl] at hf24_0)
               (try simp only [Nat.reduceMul, Nat.zero_mul, Nat.zero_add, Nat.reduceAdd] at hf24_0)
               replace p24 := eq_true p24
               replace q24 := eq_true q24
               have HP38 := Kd.R_putg HO_6.out (1 : Int) (wrap64 ((rd x6_12 1) + 1))
               go_wp2_with (first | ((with_reducible refine gate_store (t := 3) (p := 44) rfl ?_); refine store_event (t := 3) (p := 44) (v := ?vo_w39) (w1 := (wc.setCell ⟨go24, (1 : Int).toNat, none⟩ (.int .i64 (wrap64 ((rd x6_12 1) + 1))))) ?hg ?ho ?hn ?hr ?_; (case ho => rfl); (case hg => rfl); (case hn => rfl); (case hr => first | (go_simp; done) | (go_simp; rfl)); intro w39 hw; have hg : wc.grownBy w39 (some go24) := (by rw [hw]; exact HP38.2); have hp_ : Kd.R (Kd.int .i64) 3 w39 w.heap.size (fun _ => True) (.slice (some ⟨go24, 0, none⟩) x6_12.length co37) y263 := (by rw [hw, Ny263.out]; first | exact HP38.1 | exact Kd.R_mono HP38.1 (fun _ hk => by revert hk; (try simp only [and_imp]); intros; (repeat' apply And.intro) <;> assumption)); clear HP38; have n0_ := A_ (hp_); have n1_ := A_ (blk_grown (g := gb253) (o := .cells #[.slice (some ad261) l0_0.length c0_0, .slice A0_1 l0_1.length c0_1] 27 (0, 0)) (by (with_reducible repeat (first | refine kA_ ?_ _ | refine kB_ ?_ | refine kC_ ?_ _)); exact BK253.out) hg (Kd.R_ne HO_6.out BK253.out (by decide))); have n2_ := A_ ((by rw [hw]; exact bD_ (HB.out) GB24.out : Below w.heap.size w w39)); clear HO_6; clear BK253; clear HB; have HO_6 := n0_; have BK253 := n1_; have HB := n2_; clear n0_ n1_ n2_; clear hg hw hp_; have hcz40_0 := cz0_ BK253.out; have hcz40_1 := cz1_ BK253.out; have hfz40_0 := kD_ BK253.out 0; have hfz40_1 := kD_ BK253.out 1; have p264 : 0 ≤ (x20_1 : Int) := oB_ (by first | (with_reducible assumption) | assumption); have q264 : x20_1 < (l0_1.length : Int) := oB_ (by first | (with_reducible assumption) | assumption); obtain ⟨ad264, e264, hx264_0⟩ := Kd.at_int HR0_1.out x20_1 p264 q264; cases e264; replace hx264_0 := (HB.out.cell (World.block_lt_of_cell? w _ hx264_0)).trans hx264_0; replace p264 := eq_true p264; replace q264 := eq_true q264))
               go_roundg kj12
               case measure => have := HK1.out; have := HJ12.out; omega
               case rel => exact ⟨(y263), (wrap64 (x20_1 + 1)), (by first | rfl | (simp; done) | (simp [*]; done)), H', ⟨by have := HK1.out; have := HJ12.out; omega⟩, ⟨by (with_reducible repeat (first | apply rA_ | apply rB_ | apply rC_)); exact HO_6.out⟩, ⟨by (with_reducible repeat (first | refine kA_ ?_ _ | refine kB_ ?_ | refine kC_ ?_ _)); exact BK253.out⟩, ⟨by repeat (first | (with_reducible first | exact HB.out | apply bA_ | apply bB_ | apply bC_ | refine bD_ ?_ GE253.out) | exact HB.out)⟩⟩
             ·rw [if_neg c25] at H
              exact absurd H (by simp)
            ·rw [if_neg c23] at H
             exact absurd H (by simp)
           ·rw [if_neg c22] at H
            have c22b0 : ((rd l1 x20_1) == (rd l0_0 x20_1)) = false := beq_eq_false_iff_ne.mpr c22
            have c22b1 : ((rd l1 x20_1) != (rd l0_0 x20_1)) = true := bne_iff_ne.mpr c22
            by_cases c41 : x20_1 < (l0_1.length : Int)
            ·rw [if_pos c41] at H
             have c41b0 : decide (x20_1 < (l0_1.length : Int)) = true := oC_ c41
             clear c41
             by_cases c42 : (rd l1 x20_1) = (rd l0_1 x20_1)
             ·rw [if_pos c42] at H
              have c42b0 : ((rd l1 x20_1) == (rd l0_1 x20_1)) = true := beq_iff_eq.mpr c42
              have c42b1 : ((rd l1 x20_1) != (rd l0_1 x20_1)) = false := bne_eq_false_iff_eq.mpr c42
              clear c42
              by_cases c43 : 2 < (x6_12.length : Int)
              ·rw [if_pos c43] at H
               have c43b0 : decide (2 < (x6_12.length : Int)) = true := oC_ c43
               have c43b1 : decide (2 < x6_12.length) = true := oC_ (by omega)
               clear c43
               obtain ⟨y269, hy269⟩ : ∃ y_ : List Int, y_ = (x6_12.set (2 : Int).toNat (wrap64 ((rd x6_12 2) + 1))) := ⟨_, rfl⟩
               replace H : (Z10.l0 kj12 l1 y269 l1 (l1.length : Int) (wrap64 (x20_1 + 1)) l0_0 l0_1) = some (r1, r2) := by first | (rw [hy269]; with_reducible exact H) | (have H2_ := (oA_ _ _).symm.trans H; rw [hy269]; with_reducible exact H2_) | (have H2_ := (oA_ _ _).symm.trans H; with_reducible exact H2_) | with_reducible exact H | (rw [hy269]; exact H) | exact H
               have Ny269 := A_ hy269
               clear hy269
               have H' := A_ H
               clear H
               have hcz45_0 := cz0_ BK253.out
               have hcz45_1 := cz1_ BK253.out
               have hfz45_0 := kD_ BK253.out 0
               have hfz45_1 := kD_ BK253.out 1
               have p261 : 0 ≤ (x20_1 : Int) := oB_ (by first | (with_reducible assumption) | assumption)
               have q261 : x20_1 < (l0_0.length : Int) := oB_ (by first | (with_reducible assumption) | assumption)
               obtain ⟨ad261, e261, hx261_0⟩ := Kd.at_int HR0_0.out x20_1 p261 q261
               cases e261
               replace hx261_0 := (HB.out.cell (World.block_lt_of_cell? w _ hx261_0)).trans hx261_0
               replace p261 := eq_true p261
               replace q261 := eq_true q261
               have p267 : 0 ≤ (x20_1 : Int) := oB_ (by first | (with_reducible assumption) | assumption)
               have q267 : x20_1 < (l0_1.length : Int) := oB_ (by first | (with_reducible assumption) | assumption)
               obtain ⟨ad267, e267, hx267_0⟩ := Kd.at_int HR0_1.out x20_1 p267 q267
               cases e267
               replace hx267_0 := (HB.out.cell (World.block_lt_of_cell? w _ hx267_0)).trans hx267_0
               replace p267 := eq_true p267
               replace q267 := eq_true q267
               obtain ⟨Ao46, co46, eo46⟩ := Kd.R_slice HO_6.out
               subst eo46
               have p268 : 0 ≤ (2 : Int) := (by omega)
               have q268 : 2 < (x6_12.length : Int) := oB_ (by first | (with_reducible assumption) | assumption)
               obtain ⟨ad268, e268, hx268_0⟩ := Kd.at_int (Kd.R_reads' HO_6.out).2.2 2 p268 q268
               cases e268
               (try simp only [show (2 : Int).toNat = 2 from rfl, Nat.reduceMul, Nat.reduceEqDiff, Go.Addr.add, ↓reduceIte] at hx268_0)
               have qi268 : (2 < x6_12.length) = True := eq_true (by omega)
               (try rw [show ((2 : Int)).toNat = 2 from rfl] at hx268_0)
               replace p268 := eq_true p268
               replace q268 := eq_true q268
               have p44 : 0 ≤ (2 : Int) := (by omega)
               have q44 : (2 : Int) < ((x6_12.length : Int) : Int) := oB_ (by first | (with_reducible assumption) | assumption)
               have qi44 : (2 < x6_12.length) = True := eq_true (by omega)
               obtain ⟨go44, co44, eo44, gb44, gl44, cl44, HG44⟩ := Kd.R_form HO_6.out (by omega)
               (first | cases eo44 | (injection eo44 with ea_ en_ ec_; (first | subst ea_ | (injection ea_ with ea_; subst ea_)); subst ec_; clear en_))
               have GB44 := A_ gb44
               have GG44 := A_ HG44
               clear gb44 gl44 HG44
               (first | simp only [add_plain] at hx268_0 | skip)
               obtain ⟨hx44_0, hf44_0⟩ := Kd.R_celln 0 HO_6.out (2 : Int) p44 q44
               (try rw [show ((2 : Int)).toNat = 2 from rfl] at hx44_0)
               (try simp only [Nat.reduceMul, Nat.zero_mul, Nat.zero_add, Nat.reduceAdd] at hx44_0)
               (try rw [show ((2 : Int)).toNat = 2 from rfl] at hf44_0)
               (try simp only [Nat.reduceMul, Nat.zero_mul, Nat.zero_add, Nat.reduceAdd] at hf44_0)
               replace p44 := eq_true p44
               replace q44 := eq_true q44
               have HP47 := Kd.R_putg HO_6.out (2 : Int) (wrap64 ((rd x6_12 2) + 1))
               go_wp2_with (first | ((with_reducible refine gate_store (t := 3) (p := 56) rfl ?_); refine store_event (t := 3) (p := 56) (v := ?vo_w48) (w1 := (wc.setCell ⟨go44, (2 : Int).toNat, none⟩ (.int .i64 (wrap64 ((rd x6_12 2) + 1))))) ?hg ?ho ?hn ?hr ?_; (case ho => rfl); (case hg => rfl); (case hn => rfl); (case hr => first | (go_simp; done) | (go_simp; rfl)); intro w48 hw; have hg : wc.grownBy w48 (some go44) := (by rw [hw]; exact HP47.2); have hp_ : Kd.R (Kd.int .i64) 3 w48 w.heap.size (fun _ => True) (.slice (some ⟨go44, 0, none⟩) x6_12.length co46) y269 := (by rw [hw, Ny269.out]; first | exact HP47.1 | exact Kd.R_mono HP47.1 (fun _ hk => by revert hk; (try simp only [and_imp]); intros; (repeat' apply And.intro) <;> assumption)); clear HP47; have n0_ := A_ (hp_); have n1_ := A_ (blk_grown (g := gb253) (o := .cells #[.slice (some ad261) l0_0.length c0_0, .slice (some ad267) l0_1.length c0_1] 27 (0, 0)) (by (with_reducible repeat (first | refine kA_ ?_ _ | refine kB_ ?_ | refine kC_ ?_ _)); exact BK253.out) hg (Kd.R_ne HO_6.out BK253.out (by decide))); have n2_ := A_ ((by rw [hw]; exact bD_ (HB.out) GB44.out : Below w.heap.size w w48)); clear HO_6; clear BK253; clear HB; have HO_6 := n0_; have BK253 := n1_; have HB := n2_; clear n0_ n1_ n2_; clear hg hw hp_))
               go_roundg kj12
               case measure => have := HK1.out; have := HJ12.out; omega
               case rel => exact ⟨(y269), (wrap64 (x20_1 + 1)), (by first | rfl | (simp; done) | (simp [*]; done)), H', ⟨by have := HK1.out; have := HJ12.out; omega⟩, ⟨by (with_reducible repeat (first | apply rA_ | apply rB_ | apply rC_)); exact HO_6.out⟩, ⟨by (with_reducible repeat (first | refine kA_ ?_ _ | refine kB_ ?_ | refine kC_ ?_ _)); exact BK253.out⟩, ⟨by repeat (first | (with_reducible first | exact HB.out | apply bA_ | apply bB_ | apply bC_ | refine bD_ ?_ GE253.out) | exact HB.out)⟩⟩
              ·rw [if_neg c43] at H
               exact absurd H (by simp)
             ·rw [if_neg c42] at H
              have c42b0 : ((rd l1 x20_1) == (rd l0_1 x20_1)) = false := beq_eq_false_iff_ne.mpr c42
              have c42b1 : ((rd l1 x20_1) != (rd l0_1 x20_1)) = true := bne_iff_ne.mpr c42
              have H' := A_ H
              clear H
              have hcz49_0 := cz0_ BK253.out
              have hcz49_1 := cz1_ BK253.out
              have hfz49_0 := kD_ BK253.out 0
              have hfz49_1 := kD_ BK253.out 1
              have p261 : 0 ≤ (x20_1 : Int) := oB_ (by first | (with_reducible assumption) | assumption)
              have q261 : x20_1 < (l0_0.length : Int) := oB_ (by first | (with_reducible assumption) | assumption)
              obtain ⟨ad261, e261, hx261_0⟩ := Kd.at_int HR0_0.out x20_1 p261 q261
              cases e261
              replace hx261_0 := (HB.out.cell (World.block_lt_of_cell? w _ hx261_0)).trans hx261_0
              replace p261 := eq_true p261
              replace q261 := eq_true q261
              have p267 : 0 ≤ (x20_1 : Int) := oB_ (by first | (with_reducible assumption) | assumption)
              have q267 : x20_1 < (l0_1.length : Int) := oB_ (by first | (with_reducible assumption) | assumption)
              obtain ⟨ad267, e267, hx267_0⟩ := Kd.at_int HR0_1.out x20_1 p267 q267
              cases e267
              replace hx267_0 := (HB.out.cell (World.block_lt_of_cell? w _ hx267_0)).trans hx267_0
              replace p267 := eq_true p267
              replace q267 := eq_true q267
              go_wp2
              go_roundg kj12
              case measure => have := HK1.out; have := HJ12.out; omega
              case rel => exact ⟨(x6_12), (wrap64 (x20_1 + 1)), (by first | rfl | (simp; done) | (simp [*]; done)), H', ⟨by have := HK1.out; have := HJ12.out; omega⟩, ⟨by (with_reducible repeat (first | apply rA_ | apply rB_ | apply rC_)); exact HO_6.out⟩, ⟨by (with_reducible repeat (first | refine kA_ ?_ _ | refine kB_ ?_ | refine kC_ ?_ _)); exact BK253.out⟩, ⟨by repeat (first | (with_reducible first | exact HB.out | apply bA_ | apply bB_ | apply bC_ | refine bD_ ?_ GE253.out) | exact HB.out)⟩⟩
            ·rw [if_neg c41] at H
             exact absurd H (by simp)
          ·rw [if_neg c21] at H
           exact absurd H (by simp)
         ·rw [if_neg c20] at H
          exact absurd H (by simp)
      ·rw [if_neg c12] at H
       exact absurd H (by simp)
     ·rw [if_neg c11] at H
      exact absurd H (by simp)
    ·rw [if_neg c10] at H
     have c10b0 : decide (x20_1 < (l1.length : Int)) = false := oD_ c10
     clear c10
     replace H := Option.bind_eq_some_iff.mp H
     obtain ⟨t270, A500, H⟩ := H
     replace H : ((Z14.f k1 l0_1).bind fun t273 => ((Z20.f k1 l0_0 l0_1).bind fun t276 => (Z10.l1 k1 l1 x6_1 t270 t273 t276 (t276.length : Int) 0))) = some (r1, r2) := H
     have A50 := A_ A500
     clear A500
     replace H := Option.bind_eq_some_iff.mp H
     obtain ⟨t273, A510, H⟩ := H
     replace H : ((Z20.f k1 l0_0 l0_1).bind fun t276 => (Z10.l1 k1 l1 x6_1 t270 t273 t276 (t276.length : Int) 0)) = some (r1, r2) := H
     have A51 := A_ A510
     clear A510
     replace H := Option.bind_eq_some_iff.mp H
     obtain ⟨t276, A520, H⟩ := H
     replace H : (Z10.l1 k1 l1 x6_1 t270 t273 t276 (t276.length : Int) 0) = some (r1, r2) := H
     have A52 := A_ A520
     clear A520
     have H' := A_ H
     clear H
     have hcz53_0 := cz0_ BK253.out
     have hcz53_1 := cz1_ BK253.out
     have hfz53_0 := kD_ BK253.out 0
     have hfz53_1 := kD_ BK253.out 1
     go_wp2_with (first | ((with_reducible refine gA_ (f := 116) rfl ?_); refine goesL_ (some 60) rfl rfl Try.func116 (by kernel_rfl) rfl #[.slice A0_0 l0_0.length c0_0] rfl (by (try simp only [mA_, mB_, mC_]); first | done | rfl | (simp only [lA_, lB_]; rfl)) ?_; (with_reducible refine (Z14.calls k1 _ _ l0_0 t270 _ ?side1 ?side2 A50.out).mono ?_); (case side1 => repeat (first | exact (cD_ HR0_0.out HB.out) | (with_reducible first | refine cA_ ?_ _ | refine cB_ ?_ _ | refine cC_ ?_))); (case side2 => exact HC0_0.out); rintro e w54 ⟨v271, rfl, ho0, hb⟩; refine ⟨_, rfl, ?_⟩; have n0_ := A_ (Kd.R_elder' (by (with_reducible repeat (first | apply rA_ | apply rB_ | apply rC_)); exact HO_6.out) (Kd.R_base ho0) hb); have n1_ := A_ (rE_ (Kd.R_new' ho0 (Kd.R_lt (by (with_reducible repeat (first | apply rA_ | apply rB_ | apply rC_)); exact HO_6.out))) (bF_ (by repeat (first | (with_reducible first | exact HB.out | apply bA_ | apply bB_ | apply bC_ | refine bD_ ?_ GE253.out) | exact HB.out)))); have n2_ := A_ (kE_ (g := gb253) (by (with_reducible repeat (first | refine kA_ ?_ _ | refine kB_ ?_ | refine kC_ ?_ _)); exact BK253.out) hb); have n3_ := A_ (bE_ (by repeat (first | (with_reducible first | exact HB.out | apply bA_ | apply bB_ | apply bC_ | refine bD_ ?_ GE253.out) | exact HB.out)) hb); clear HO_6; clear BK253; clear HB; have HO_6 := n0_; have HO272 := n1_; have BK253 := n2_; have HB := n3_; clear n0_ n1_ n2_ n3_; (try clear hb); (try clear hb2); (try clear hk); (try clear hi); (try clear ho0); have hcz55_0 := cz0_ BK253.out; have hcz55_1 := cz1_ BK253.out; have hfz55_0 := kD_ BK253.out 0; have hfz55_1 := kD_ BK253.out 1) | ((with_reducible refine gA_ (f := 116) rfl ?_); refine goesL_ (some 63) rfl rfl Try.func116 (by kernel_rfl) rfl #[.slice A0_1 l0_1.length c0_1] rfl (by (try simp only [mA_, mB_, mC_]); first | done | rfl | (simp only [lA_, lB_]; rfl)) ?_; (with_reducible refine (Z14.calls k1 _ _ l0_1 t273 _ ?side1 ?side2 A51.out).mono ?_); (case side1 => repeat (first | exact (cD_ HR0_1.out HB.out) | (with_reducible first | refine cA_ ?_ _ | refine cB_ ?_ _ | refine cC_ ?_))); (case side2 => exact HC0_1.out); rintro e w56 ⟨v274, rfl, ho0, hb⟩; refine ⟨_, rfl, ?_⟩; have n0_ := A_ (Kd.R_elder' (by (with_reducible repeat (first | apply rA_ | apply rB_ | apply rC_)); exact HO_6.out) (Kd.R_base ho0) hb); have n1_ := A_ (Kd.R_elder' (by (with_reducible repeat (first | apply rA_ | apply rB_ | apply rC_)); exact HO272.out) (Kd.R_base ho0) hb); have n2_ := A_ (rE_ (Kd.R_new' (Kd.R_new' ho0 (Kd.R_lt (by (with_reducible repeat (first | apply rA_ | apply rB_ | apply rC_)); exact HO_6.out))) (Kd.R_lt (by (with_reducible repeat (first | apply rA_ | apply rB_ | apply rC_)); exact HO272.out))) (bF_ (by repeat (first | (with_reducible first | exact HB.out | apply bA_ | apply bB_ | apply bC_ | refine bD_ ?_ GE253.out) | exact HB.out)))); have n3_ := A_ (kE_ (g := gb253) (by (with_reducible repeat (first | refine kA_ ?_ _ | refine kB_ ?_ | refine kC_ ?_ _)); exact BK253.out) hb); have n4_ := A_ (bE_ (by repeat (first | (with_reducible first | exact HB.out | apply bA_ | apply bB_ | apply bC_ | refine bD_ ?_ GE253.out) | exact HB.out)) hb); clear HO_6; clear HO272; clear BK253; clear HB; have HO_6 := n0_; have HO272 := n1_; have HO275 := n2_; have BK253 := n3_; have HB := n4_; clear n0_ n1_ n2_ n3_ n4_; (try clear hb); (try clear hb2); (try clear hk); (try clear hi); (try clear ho0); have hcz57_0 := cz0_ BK253.out; have hcz57_1 := cz1_ BK253.out; have hfz57_0 := kD_ BK253.out 0; have hfz57_1 := kD_ BK253.out 1) | ((with_reducible refine gA_ (f := 138) rfl ?_); refine goesL_ (some 65) rfl rfl Try.func138 (by kernel_rfl) rfl #[.agg #[.slice A0_0 l0_0.length c0_0, .slice A0_1 l0_1.length c0_1]] rfl (by (try simp only [mA_, mB_, mC_]); first | done | rfl | (simp only [lA_, lB_]; rfl)) ?_; (with_reducible refine (Z20.calls k1 _ _ l0_0 _ _ l0_1 t276 _ ?side1 ?side2 ?side3 ?side4 A52.out).mono ?_); (case side1 => repeat (first | exact (cD_ HR0_0.out HB.out) | (with_reducible first | refine cA_ ?_ _ | refine cB_ ?_ _ | refine cC_ ?_))); (case side2 => exact HC0_0.out); (case side3 => repeat (first | exact (cD_ HR0_1.out HB.out) | (with_reducible first | refine cA_ ?_ _ | refine cB_ ?_ _ | refine cC_ ?_))); (case side4 => exact HC0_1.out); rintro e w58 ⟨v277, rfl, ho0, hb⟩; refine ⟨_, rfl, ?_⟩; have n0_ := A_ (rD_ (by (with_reducible repeat (first | apply rA_ | apply rB_ | apply rC_)); exact HO_6.out) hb); have n1_ := A_ (rD_ (by (with_reducible repeat (first | apply rA_ | apply rB_ | apply rC_)); exact HO272.out) hb); have n2_ := A_ (rD_ (by (with_reducible repeat (first | apply rA_ | apply rB_ | apply rC_)); exact HO275.out) hb); have n3_ := A_ (Kd.S_lower (Kd.S_new' (Kd.S_new' (Kd.S_new' ho0 (Kd.R_lt (by (with_reducible repeat (first | apply rA_ | apply rB_ | apply rC_)); exact HO_6.out))) (Kd.R_lt (by (with_reducible repeat (first | apply rA_ | apply rB_ | apply rC_)); exact HO272.out))) (Kd.R_lt (by (with_reducible repeat (first | apply rA_ | apply rB_ | apply rC_)); exact HO275.out))) (bF_ (by repeat (first | (with_reducible first | exact HB.out | apply bA_ | apply bB_ | apply bC_ | refine bD_ ?_ GE253.out) | exact HB.out)))); have n4_ := A_ (kE_ (g := gb253) (by (with_reducible repeat (first | refine kA_ ?_ _ | refine kB_ ?_ | refine kC_ ?_ _)); exact BK253.out) hb); have n5_ := A_ (bE_ (by repeat (first | (with_reducible first | exact HB.out | apply bA_ | apply bB_ | apply bC_ | refine bD_ ?_ GE253.out) | exact HB.out)) hb); clear HO_6; clear HO272; clear HO275; clear BK253; clear HB; have HO_6 := n0_; have HO272 := n1_; have HO275 := n2_; have HO278 := n3_; have BK253 := n4_; have HB := n5_; clear n0_ n1_ n2_ n3_ n4_ n5_; (try clear hb); (try clear hb2); (try clear hk); (try clear hi); (try clear ho0); obtain ⟨Ao59, co59, eo59⟩ := Kd.S_slice HO278.out; subst eo59))
     go_loopg [67] k1 (fun kq v67 w' => ∃ (x6_2 : List Int) (x67_2 : Int), v67 = .int .i64 x67_2 ∧ Aside0 (Z10.l1 kq l1 x6_2 t270 t273 t276 (t276.length : Int) x67_2 = some (r1, r2)) ∧ Aside0 (kq ≤ k1) ∧ Aside0 (Kd.R (Kd.int .i64) 3 w' w.heap.size (fun k_ => some k_ ≠ (v271 : Value).ownBlock ∧ some k_ ≠ (v274 : Value).ownBlock) v256 x6_2) ∧ Aside0 (Kd.R (Kd.int .i64) 3 w' w.heap.size (fun k_ => some k_ ≠ (v256 : Value).ownBlock ∧ some k_ ≠ (v274 : Value).ownBlock) v271 t270) ∧ Aside0 (Kd.R (Kd.int .i64) 3 w' w.heap.size (fun k_ => some k_ ≠ (v256 : Value).ownBlock ∧ some k_ ≠ (v271 : Value).ownBlock) v274 t273) ∧ Aside0 (Kd.S (Kd.slice 3 (Kd.int .i64)) 22 w' w.heap.size (fun k_ => some k_ ≠ (v256 : Value).ownBlock ∧ some k_ ≠ (v271 : Value).ownBlock ∧ some k_ ≠ (v274 : Value).ownBlock) (.slice Ao59 t276.length co59) t276) ∧ Aside0 (w'.heap[gb253]? = some (.cells #[(.slice A0_0 l0_0.length c0_0), (.slice A0_1 l0_1.length c0_1)] 27 (0, 0))) ∧ Aside0 (Below w.heap.size w w'))
     case atStart => exact ⟨(x6_1), (0), (by first | rfl | (simp; done) | (simp [*]; done)), H', ⟨nA_ _⟩, ⟨by (with_reducible repeat (first | apply rA_ | apply rB_ | apply rC_)); exact Kd.R_mono HO_6.out (fun _ hk => ⟨hk.1.2, hk.2⟩)⟩, ⟨by (with_reducible repeat (first | apply rA_ | apply rB_ | apply rC_)); exact Kd.R_mono HO272.out (fun _ hk => ⟨hk.1.2, hk.2⟩)⟩, ⟨by (with_reducible repeat (first | apply rA_ | apply rB_ | apply rC_)); exact Kd.R_mono HO275.out (fun _ hk => ⟨hk.1.2, hk.2⟩)⟩, ⟨by (with_reducible repeat (first | apply Kd.S_alloc | apply Kd.S_drewN | apply Kd.S_drew)); exact Kd.S_mono HO278.out (fun _ hk => ⟨hk.1.1.2, ⟨hk.1.2, hk.2⟩⟩)⟩, ⟨by (with_reducible repeat (first | refine kA_ ?_ _ | refine kB_ ?_ | refine kC_ ?_ _)); exact BK253.out⟩, ⟨by repeat (first | (with_reducible first | exact HB.out | apply bA_ | apply bB_ | apply bC_ | refine bD_ ?_ GE253.out) | exact HB.out)⟩⟩
     case round =>
      clear H'
      (try clear c1); (try clear p1); (try clear q1); (try clear hx1); (try clear qi1); (try clear c2); (try clear p2); (try clear q2); (try clear hx2); (try clear qi2); (try clear hf2); (try clear c4); (try clear p4); (try clear q4); (try clear hx4); (try clear qi4); (try clear hf4); (try clear p6); (try clear c10); (try clear c10b0); (try clear c11); (try clear c11b0); (try clear c12); (try clear c12b0); (try clear c13); (try clear c14); (try clear c14b0); (try clear c14b1); (try clear c15); (try clear c15b0); (try clear c15b1); (try clear p16); (try clear q16); (try clear hx16); (try clear qi16); (try clear hf16); (try clear c20); (try clear c20b0); (try clear c21); (try clear c21b0); (try clear c22); (try clear c22b0); (try clear c22b1); (try clear c23); (try clear c23b0); (try clear c23b1); (try clear p24); (try clear q24); (try clear hx24); (try clear qi24); (try clear hf24); (try clear c25); (try clear c25b0); (try clear p25); (try clear q25); (try clear hx25); (try clear qi25); (try clear c26); (try clear c26b0); (try clear c26b1); (try clear p26); (try clear q26); (try clear hx26); (try clear qi26); (try clear c27); (try clear c27b0); (try clear c27b1); (try clear p28); (try clear q28); (try clear hx28); (try clear qi28); (try clear hf28); (try clear c41); (try clear c41b0); (try clear c42); (try clear c42b0); (try clear c42b1); (try clear c43); (try clear c43b0); (try clear c43b1); (try clear p44); (try clear q44); (try clear hx44); (try clear qi44); (try clear hf44); (try clear hcz29_0); (try clear hcz29_1); (try clear hcz33_0); (try clear hcz33_1); (try clear hcz36_0); (try clear hcz36_1); (try clear hcz40_0); (try clear hcz40_1); (try clear hcz45_0); (try clear hcz45_1); (try clear hcz49_0); (try clear hcz49_1); (try clear hcz53_0); (try clear hcz53_1); (try clear hcz55_0); (try clear hcz55_1); (try clear hcz57_0); (try clear hcz57_1); (try clear hcz6_0); (try clear hcz6_1); (try clear hfz29_0); (try clear hfz29_1); (try clear hfz33_0); (try clear hfz33_1); (try clear hfz36_0); (try clear hfz36_1); (try clear hfz40_0); (try clear hfz40_1); (try clear hfz45_0); (try clear hfz45_1); (try clear hfz49_0); (try clear hfz49_1); (try clear hfz53_0); (try clear hfz53_1); (try clear hfz55_0); (try clear hfz55_1); (try clear hfz57_0); (try clear hfz57_1); (try clear hfz6_0); (try clear hfz6_1); (try clear hx16_0); (try clear hx24_0); (try clear hx258_0); (try clear hx259_0); (try clear hx261_0); (try clear hx262_0); (try clear hx264_0); (try clear hx265_0); (try clear hx267_0); (try clear hx268_0); (try clear hx28_0); (try clear hx44_0); (try clear p1); (try clear p16); (try clear p2); (try clear p24); (try clear p258); (try clear p259); (try clear p261); (try clear p262); (try clear p264); (try clear p265); (try clear p267); (try clear p268); (try clear p28); (try clear p44); (try clear p6); (try clear q1); (try clear q16); (try clear q2); (try clear q24); (try clear q258); (try clear q259); (try clear q261); (try clear q262); (try clear q264); (try clear q265); (try clear q267); (try clear q268); (try clear q28); (try clear q44)
      obtain ⟨x6_2, x67_2, rfl, HA, HK2, HO_6, HO_9, HO_10, HO_65, BK253, HB⟩ := hrel
      cases gk with
      | zero => exact absurd HA.out (by simp [Z10.l1])
      | succ k2 =>
       have H := HA.out
       clear HA
       simp only [Z10.l1] at H
       by_cases c60 : x67_2 < (t276.length : Int)
       ·rw [if_pos c60] at H
        have c60b0 : decide (x67_2 < (t276.length : Int)) = true := oC_ c60
        clear c60
        by_cases c61 : 0 ≤ x67_2
        ·rw [if_pos c61] at H
         have c61b0 : decide (0 ≤ x67_2) = true := oC_ c61
         clear c61
         by_cases c62 : x67_2 < (t276.length : Int)
         ·rw [if_pos c62] at H
          have c62b0 : decide (x67_2 < (t276.length : Int)) = true := oC_ c62
          clear c62
          by_cases c63 : 0 < ((rd_L1 t276 x67_2).length : Int)
          ·rw [if_pos c63] at H
           have c63b0 : decide (0 < ((rd_L1 t276 x67_2).length : Int)) = true := oC_ c63
           have c63b1 : decide (0 < (rd_L1 t276 x67_2).length) = true := oC_ (by omega)
           clear c63
           by_cases c64 : 0 ≤ (rd (rd_L1 t276 x67_2) 0)
           ·rw [if_pos c64] at H
            have c64b0 : decide (0 ≤ (rd (rd_L1 t276 x67_2) 0)) = true := oC_ c64
            clear c64
            by_cases c65 : (rd (rd_L1 t276 x67_2) 0) < (l1.length : Int)
            ·rw [if_pos c65] at H
             have c65b0 : decide ((rd (rd_L1 t276 x67_2) 0) < (l1.length : Int)) = true := oC_ c65
             clear c65
             by_cases c66 : 0 ≤ (rd l1 (rd (rd_L1 t276 x67_2) 0))
             ·rw [if_pos c66] at H
              have c66b0 : decide (0 ≤ (rd l1 (rd (rd_L1 t276 x67_2) 0))) = true := oC_ c66
              clear c66
              by_cases c67 : (rd l1 (rd (rd_L1 t276 x67_2) 0)) < (t270.length : Int)
              ·rw [if_pos c67] at H
               have c67b0 : decide ((rd l1 (rd (rd_L1 t276 x67_2) 0)) < (t270.length : Int)) = true := oC_ c67
               clear c67
               by_cases c68 : 0 ≤ (rd t270 (rd l1 (rd (rd_L1 t276 x67_2) 0)))
               ·rw [if_pos c68] at H
                have c68b0 : decide (0 ≤ (rd t270 (rd l1 (rd (rd_L1 t276 x67_2) 0)))) = true := oC_ c68
                clear c68
                by_cases c69 : (rd t270 (rd l1 (rd (rd_L1 t276 x67_2) 0))) < (t273.length : Int)
                ·rw [if_pos c69] at H
                 have c69b0 : decide ((rd t270 (rd l1 (rd (rd_L1 t276 x67_2) 0))) < (t273.length : Int)) = true := oC_ c69
                 clear c69
                 replace H := Option.bind_eq_some_iff.mp H
                 obtain ⟨t284, A700, H⟩ := H
                 replace H : (if t284 = true then (if 3 < (x6_2.length : Int) then (Z10.l1 k2 l1 (x6_2.set (3 : Int).toNat (wrap64 ((rd x6_2 3) + 1))) t270 t273 t276 (t276.length : Int) (wrap64 (x67_2 + 1))) else (none)) else (Z10.l1 k2 l1 x6_2 t270 t273 t276 (t276.length : Int) (wrap64 (x67_2 + 1)))) = some (r1, r2) := H
                 have A70 := A_ A700
                 clear A700
                 by_cases c71 : t284 = true
                 ·subst c71
                  have H1 : (if 3 < (x6_2.length : Int) then (Z10.l1 k2 l1 (x6_2.set (3 : Int).toNat (wrap64 ((rd x6_2 3) + 1))) t270 t273 t276 (t276.length : Int) (wrap64 (x67_2 + 1))) else (none)) = some (r1, r2) := by rw [if_pos rfl] at H; exact H
                  clear H
                  have H := H1
                  clear H1
                  by_cases c72 : 3 < (x6_2.length : Int)
                  ·rw [if_pos c72] at H
                   have c72b0 : decide (3 < (x6_2.length : Int)) = true := oC_ c72
                   have c72b1 : decide (3 < x6_2.length) = true := oC_ (by omega)
                   clear c72
                   obtain ⟨y286, hy286⟩ : ∃ y_ : List Int, y_ = (x6_2.set (3 : Int).toNat (wrap64 ((rd x6_2 3) + 1))) := ⟨_, rfl⟩
                   replace H : (Z10.l1 k2 l1 y286 t270 t273 t276 (t276.length : Int) (wrap64 (x67_2 + 1))) = some (r1, r2) := by first | (rw [hy286]; with_reducible exact H) | (have H2_ := (oA_ _ _).symm.trans H; rw [hy286]; with_reducible exact H2_) | (have H2_ := (oA_ _ _).symm.trans H; with_reducible exact H2_) | with_reducible exact H | (rw [hy286]; exact H) | exact H
                   have Ny286 := A_ hy286
                   clear hy286
                   have H' := A_ H
                   clear H
                   have p279 : 0 ≤ (x67_2 : Int) := oB_ (by first | (with_reducible assumption) | assumption)
                   have q279 : x67_2 < (t276.length : Int) := oB_ (by first | (with_reducible assumption) | assumption)
                   obtain ⟨ad279, A279_0, c279_0, e279, hx279_0, hl279_0, hi279_0⟩ := at_L1 (Kd.S_reads' HO_65.out).2.2 x67_2 p279 q279
                   cases e279
                   obtain ⟨ce279, hce279, hMe279, hcc279⟩ := Kd.S_get HO_65.out [] x67_2 p279 (by first | exact q279 | exact oB_ (by first | (with_reducible assumption) | assumption) | (have e_ := (Kd.S_reads' HO_65.out).1; omega))
                   obtain ⟨ve279_0, rfl, ge279_0⟩ := hMe279
                   have hv279_0 := hcc279 0 _ rfl
                   rw [Nat.add_zero, show ((Kd.slice 3 (Kd.int .i64))).sz = 1 from rfl, Nat.mul_one] at hv279_0
                   replace hv279_0 := Option.some.inj (hv279_0.symm.trans hx279_0)
                   rw [hv279_0] at ge279_0
                   have HL279_0 := A_ (show Kd.R (Kd.int .i64) 3 _ _ _ _ (rd_L1 t276 x67_2) from ge279_0)
                   clear hv279_0 ge279_0
                   clear hcc279 hce279
                   have HR279_0 := A_ hi279_0
                   have HC279_0 := A_ hl279_0
                   clear hi279_0 hl279_0
                   replace p279 := eq_true p279
                   replace q279 := eq_true q279
                   have p280 : 0 ≤ (0 : Int) := (by omega)
                   have q280 : 0 < ((rd_L1 t276 x67_2).length : Int) := oB_ (by first | (with_reducible assumption) | assumption)
                   obtain ⟨ad280, e280, hx280_0⟩ := Kd.at_int (by repeat (first | (with_reducible exact HR279_0.out) | (with_reducible refine cA_ ?_ _) | (with_reducible refine cB_ ?_ _) | (with_reducible refine cC_ ?_) | exact HR279_0.out)) 0 p280 q280
                   cases e280
                   have qi280 : (0 < (rd_L1 t276 x67_2).length) = True := eq_true (by omega)
                   (try rw [show ((0 : Int)).toNat = 0 from rfl] at hx280_0)
                   (try rw [Addr.add_zero'] at hx280_0)
                   replace p280 := eq_true p280
                   replace q280 := eq_true q280
                   have p281 : 0 ≤ ((rd (rd_L1 t276 x67_2) 0) : Int) := oB_ (by first | (with_reducible assumption) | assumption)
                   have q281 : (rd (rd_L1 t276 x67_2) 0) < (l1.length : Int) := oB_ (by first | (with_reducible assumption) | assumption)
                   obtain ⟨ad281, e281, hx281_0⟩ := Kd.at_int HR1.out (rd (rd_L1 t276 x67_2) 0) p281 q281
                   cases e281
                   replace hx281_0 := (HB.out.cell (World.block_lt_of_cell? w _ hx281_0)).trans hx281_0
                   replace p281 := eq_true p281
                   replace q281 := eq_true q281
                   obtain ⟨Ao74, co74, eo74⟩ := Kd.R_slice HO_9.out
                   subst eo74
                   have p282 : 0 ≤ ((rd l1 (rd (rd_L1 t276 x67_2) 0)) : Int) := oB_ (by first | (with_reducible assumption) | assumption)
                   have q282 : (rd l1 (rd (rd_L1 t276 x67_2) 0)) < (t270.length : Int) := oB_ (by first | (with_reducible assumption) | assumption)
                   obtain ⟨ad282, e282, hx282_0⟩ := Kd.at_int (Kd.R_reads' HO_9.out).2.2 (rd l1 (rd (rd_L1 t276 x67_2) 0)) p282 q282
                   cases e282
                   replace p282 := eq_true p282
                   replace q282 := eq_true q282
                   obtain ⟨Ao75, co75, eo75⟩ := Kd.R_slice HO_10.out
                   subst eo75
                   have p283 : 0 ≤ ((rd t270 (rd l1 (rd (rd_L1 t276 x67_2) 0))) : Int) := oB_ (by first | (with_reducible assumption) | assumption)
                   have q283 : (rd t270 (rd l1 (rd (rd_L1 t276 x67_2) 0))) < (t273.length : Int) := oB_ (by first | (with_reducible assumption) | assumption)
                   obtain ⟨ad283, e283, hx283_0⟩ := Kd.at_int (Kd.R_reads' HO_10.out).2.2 (rd t270 (rd l1 (rd (rd_L1 t276 x67_2) 0))) p283 q283
                   cases e283
                   replace p283 := eq_true p283
                   replace q283 := eq_true q283
                   go_wp2_with (first | ((with_reducible refine gA_ (f := 155) rfl ?_); refine goesL_ (some 84) rfl rfl Try.func155 (by kernel_rfl) rfl #[.slice (some ad280) (rd_L1 t276 x67_2).length c279_0, .int .i64 (rd t273 (rd t270 (rd l1 (rd (rd_L1 t276 x67_2) 0))))] rfl (by (try simp only [mA_, mB_, mC_]); first | done | rfl | (simp only [lA_, lB_]; rfl)) ?_; (with_reducible refine (Z44.calls k2 _ _ (rd_L1 t276 x67_2) (rd t273 (rd t270 (rd l1 (rd (rd_L1 t276 x67_2) 0)))) true _ ?side1 ?side2 A70.out).mono ?_); (case side1 => repeat (first | exact (by repeat (first | (with_reducible exact HR279_0.out) | (with_reducible refine cA_ ?_ _) | (with_reducible refine cB_ ?_ _) | (with_reducible refine cC_ ?_) | exact HR279_0.out)) | (with_reducible first | refine cA_ ?_ _ | refine cB_ ?_ _ | refine cC_ ?_))); (case side2 => exact HC279_0.out); rintro e w' ⟨rfl, ⟨nd, rfl⟩⟩; refine ⟨_, rfl, ?_⟩; (try (rw [drewN_self wr]; generalize hq_ : World.drewN wr _ = wr; have n0_ : Aside0 (Kd.R (Kd.int .i64) 3 wr w.heap.size (fun k_ => some k_ ≠ (.slice (some ad283) t273.length co75 : Value).ownBlock ∧ some k_ ≠ (v256 : Value).ownBlock ∧ some k_ ≠ (.slice (some ad279) t276.length co59 : Value).ownBlock ∧ some k_ ≠ (.slice (some ad282) t270.length co74 : Value).ownBlock) (.slice (some ad280) (rd_L1 t276 x67_2).length c279_0) (rd_L1 t276 x67_2)) := ⟨by rw [← hq_]; exact (by (with_reducible repeat (first | apply rA_ | apply rB_ | apply rC_)); exact Kd.R_mono HL279_0.out (fun _ hk => by revert hk; (try simp only [and_imp]); intros; (repeat' apply And.intro) <;> assumption))⟩; have n1_ : Aside0 (Kd.R (Kd.int .i64) 3 wr w.heap.size (fun k_ => some k_ ≠ (v256 : Value).ownBlock ∧ some k_ ≠ (.slice (some ad282) t270.length co74 : Value).ownBlock) (.slice (some ad283) t273.length co75) t273) := ⟨by rw [← hq_]; exact (by (with_reducible repeat (first | apply rA_ | apply rB_ | apply rC_)); exact HO_10.out)⟩; have n2_ : Aside0 (Kd.R (Kd.int .i64) 3 wr w.heap.size (fun k_ => some k_ ≠ (.slice (some ad283) t273.length co75 : Value).ownBlock ∧ some k_ ≠ (.slice (some ad282) t270.length co74 : Value).ownBlock) v256 x6_2) := ⟨by rw [← hq_]; exact (by (with_reducible repeat (first | apply rA_ | apply rB_ | apply rC_)); exact Kd.R_mono HO_6.out (fun _ hk => by revert hk; (try simp only [and_imp]); intros; (repeat' apply And.intro) <;> assumption))⟩; have n3_ : Aside0 (Kd.S (Kd.slice 3 (Kd.int .i64)) 22 wr w.heap.size (fun k_ => some k_ ≠ (.slice (some ad283) t273.length co75 : Value).ownBlock ∧ some k_ ≠ (v256 : Value).ownBlock ∧ some k_ ≠ (.slice (some ad282) t270.length co74 : Value).ownBlock) (.slice (some ad279) t276.length co59) t276) := ⟨by rw [← hq_]; exact (by (with_reducible repeat (first | apply Kd.S_alloc | apply Kd.S_drewN | apply Kd.S_drew)); exact Kd.S_mono HO_65.out (fun _ hk => by revert hk; (try simp only [and_imp]); intros; (repeat' apply And.intro) <;> assumption))⟩; have n4_ : Aside0 (Kd.R (Kd.int .i64) 3 wr w.heap.size (fun k_ => some k_ ≠ (.slice (some ad283) t273.length co75 : Value).ownBlock ∧ some k_ ≠ (v256 : Value).ownBlock) (.slice (some ad282) t270.length co74) t270) := ⟨by rw [← hq_]; exact (by (with_reducible repeat (first | apply rA_ | apply rB_ | apply rC_)); exact Kd.R_mono HO_9.out (fun _ hk => by revert hk; (try simp only [and_imp]); intros; (repeat' apply And.intro) <;> assumption))⟩; have n5_ : Aside0 (wr.heap[gb253]? = some (.cells #[.slice A0_0 l0_0.length c0_0, .slice A0_1 l0_1.length c0_1] 27 (0, 0))) := ⟨by rw [← hq_]; exact (by (with_reducible repeat (first | refine kA_ ?_ _ | refine kB_ ?_ | refine kC_ ?_ _)); exact BK253.out)⟩; have n6_ : Aside0 (Below w.heap.size w wr) := ⟨by rw [← hq_]; exact (by repeat (first | (with_reducible first | exact HB.out | apply bA_ | apply bB_ | apply bC_ | refine bD_ ?_ GE253.out) | exact HB.out))⟩; have n7_ : Aside0 (Kd.C (Kd.int .i64) wr (some ad280) (rd_L1 t276 x67_2).length (rd_L1 t276 x67_2)) := ⟨by rw [← hq_]; exact (by repeat (first | (with_reducible exact HR279_0.out) | (with_reducible refine cA_ ?_ _) | (with_reducible refine cB_ ?_ _) | (with_reducible refine cC_ ?_) | exact HR279_0.out))⟩; clear HL279_0 HO_10 HO_6 HO_65 HO_9 BK253 HB HR279_0 hq_; have HL279_0 := n0_; have HO_10 := n1_; have HO_6 := n2_; have HO_65 := n3_; have HO_9 := n4_; have BK253 := n5_; have HB := n6_; have HR279_0 := n7_; clear n0_ n1_ n2_ n3_ n4_ n5_ n6_ n7_)); obtain ⟨Ao76, co76, eo76⟩ := Kd.R_slice HO_6.out; subst eo76; have p285 : 0 ≤ (3 : Int) := (by omega); have q285 : 3 < (x6_2.length : Int) := oB_ (by first | (with_reducible assumption) | assumption); obtain ⟨ad285, e285, hx285_0⟩ := Kd.at_int (Kd.R_reads' HO_6.out).2.2 3 p285 q285; cases e285; (try simp only [show (3 : Int).toNat = 3 from rfl, Nat.reduceMul, Nat.reduceEqDiff, Go.Addr.add, ↓reduceIte] at hx285_0); have qi285 : (3 < x6_2.length) = True := eq_true (by omega); (try rw [show ((3 : Int)).toNat = 3 from rfl] at hx285_0); replace p285 := eq_true p285; replace q285 := eq_true q285; have p73 : 0 ≤ (3 : Int) := (by omega); have q73 : (3 : Int) < ((x6_2.length : Int) : Int) := oB_ (by first | (with_reducible assumption) | assumption); have qi73 : (3 < x6_2.length) = True := eq_true (by omega); obtain ⟨go73, co73, eo73, gb73, gl73, cl73, HG73⟩ := Kd.R_form HO_6.out (by omega); (first | cases eo73 | (injection eo73 with ea_ en_ ec_; (first | subst ea_ | (injection ea_ with ea_; subst ea_)); subst ec_; clear en_)); have GB73 := A_ gb73; have GG73 := A_ HG73; clear gb73 gl73 HG73; (first | simp only [add_plain] at hx285_0 | skip); obtain ⟨hx73_0, hf73_0⟩ := Kd.R_celln 0 HO_6.out (3 : Int) p73 q73; (try rw [show ((3 : Int)).toNat = 3 from rfl] at hx73_0); (try simp only [Nat.reduceMul, Nat.zero_mul, Nat.zero_add, Nat.reduceAdd] at hx73_0); (try rw [show ((3 : Int)).toNat = 3 from rfl] at hf73_0); (try simp only [Nat.reduceMul, Nat.zero_mul, Nat.zero_add, Nat.reduceAdd] at hf73_0); replace p73 := eq_true p73; replace q73 := eq_true q73; obtain ⟨hy77_, hz77_⟩ := Kd.R_celln 0 HO_6.out (3 : Int) (by omega) (oB_ (by first | (with_reducible assumption) | assumption)); (try simp only [Int.reduceToNat, Int.toNat_zero, Int.toNat_ofNat, Nat.reduceMul, Nat.zero_mul, Nat.zero_add] at hy77_ hz77_); (try rw [show ((3 : Int)).toNat = 3 from rfl] at hy77_); (try rw [show ((3 : Int)).toNat = 3 from rfl] at hz77_); have HP77 := Kd.R_putg HO_6.out (3 : Int) (wrap64 ((rd x6_2 3) + 1))) | ((with_reducible refine gate_store (t := 3) (p := 89) rfl ?_); refine store_event (t := 3) (p := 89) (v := ?vo_w78) (w1 := (wr.setCell ⟨go73, (3 : Int).toNat, none⟩ (.int .i64 (wrap64 ((rd x6_2 3) + 1))))) ?hg ?ho ?hn ?hr ?_; (case ho => rfl); (case hg => rfl); (case hn => rfl); (case hr => first | (go_simp; done) | (go_simp; rfl)); intro w78 hw; have hg : wr.grownBy w78 (some go73) := (by rw [hw]; exact HP77.2); have hp_ : Kd.R (Kd.int .i64) 3 w78 w.heap.size (fun k_ => some k_ ≠ (.slice (some ad282) t270.length co74 : Value).ownBlock ∧ some k_ ≠ (.slice (some ad283) t273.length co75 : Value).ownBlock) (.slice (some ⟨go73, 0, none⟩) x6_2.length co76) y286 := (by rw [hw, Ny286.out]; first | exact HP77.1 | exact Kd.R_mono HP77.1 (fun _ hk => by revert hk; (try simp only [and_imp]); intros; (repeat' apply And.intro) <;> assumption)); clear HP77; have n0_ := A_ (hp_); have n1_ := A_ (Kd.R_after (v := (.slice (some ⟨go73, 0, none⟩) x6_2.length co76)) (v1 := (.slice (some ⟨go73, 0, none⟩) x6_2.length co76)) (ok := (fun k_ => some k_ ≠ (.slice (some ad283) t273.length co75 : Value).ownBlock)) (by (with_reducible repeat (first | apply rA_ | apply rB_ | apply rC_)); exact Kd.R_mono HO_9.out (fun _ hk => by revert hk; (try simp only [and_imp]); intros; (repeat' apply And.intro) <;> assumption)) hg (.inl rfl)); have n2_ := A_ (Kd.R_after (v := (.slice (some ⟨go73, 0, none⟩) x6_2.length co76)) (v1 := (.slice (some ⟨go73, 0, none⟩) x6_2.length co76)) (ok := (fun k_ => some k_ ≠ (.slice (some ad282) t270.length co74 : Value).ownBlock)) (by (with_reducible repeat (first | apply rA_ | apply rB_ | apply rC_)); exact Kd.R_mono HO_10.out (fun _ hk => by revert hk; (try simp only [and_imp]); intros; (repeat' apply And.intro) <;> assumption)) hg (.inl rfl)); have n3_ := A_ (Kd.S_after (v := (.slice (some ⟨go73, 0, none⟩) x6_2.length co76)) (v1 := (.slice (some ⟨go73, 0, none⟩) x6_2.length co76)) (ok := (fun k_ => some k_ ≠ (.slice (some ad282) t270.length co74 : Value).ownBlock ∧ some k_ ≠ (.slice (some ad283) t273.length co75 : Value).ownBlock)) (by (with_reducible repeat (first | apply Kd.S_alloc | apply Kd.S_drewN | apply Kd.S_drew)); exact Kd.S_mono HO_65.out (fun _ hk => by revert hk; (try simp only [and_imp]); intros; (repeat' apply And.intro) <;> assumption)) hg (.inl rfl)); have n4_ := A_ (blk_grown (g := gb253) (o := .cells #[.slice A0_0 l0_0.length c0_0, .slice A0_1 l0_1.length c0_1] 27 (0, 0)) (by (with_reducible repeat (first | refine kA_ ?_ _ | refine kB_ ?_ | refine kC_ ?_ _)); exact BK253.out) hg (Kd.R_ne HO_6.out BK253.out (by decide))); have n5_ := A_ (Kd.R_after (v := (.slice (some ⟨go73, 0, none⟩) x6_2.length co76)) (v1 := (.slice (some ⟨go73, 0, none⟩) x6_2.length co76)) (ok := (fun k_ => some k_ ≠ (.slice (some ad282) t270.length co74 : Value).ownBlock ∧ some k_ ≠ (.slice (some ad283) t273.length co75 : Value).ownBlock ∧ some k_ ≠ (.slice (some ad279) t276.length co59 : Value).ownBlock)) (by (with_reducible repeat (first | apply rA_ | apply rB_ | apply rC_)); exact Kd.R_mono HL279_0.out (fun _ hk => by revert hk; (try simp only [and_imp]); intros; (repeat' apply And.intro) <;> assumption)) hg (.inl rfl)); have n6_ := A_ ((by rw [hw]; exact bD_ (HB.out) GB73.out : Below w.heap.size w w78)); clear HO_6; clear HO_9; clear HO_10; clear HO_65; clear BK253; clear HL279_0; clear HB; have HO_6 := n0_; have HO_9 := n1_; have HO_10 := n2_; have HO_65 := n3_; have BK253 := n4_; have HL279_0 := n5_; have HB := n6_; clear n0_ n1_ n2_ n3_ n4_ n5_ n6_; clear hg hw hp_))
                   go_roundg k2
                   case measure => have := HK1.out; have := HK2.out; omega
                   case rel => exact ⟨(y286), (wrap64 (x67_2 + 1)), (by first | rfl | (simp; done) | (simp [*]; done)), H', ⟨by have := HK1.out; have := HK2.out; omega⟩, ⟨by (with_reducible repeat (first | apply rA_ | apply rB_ | apply rC_)); exact HO_6.out⟩, ⟨by (with_reducible repeat (first | apply rA_ | apply rB_ | apply rC_)); exact Kd.R_mono HO_9.out (fun _ hk => by revert hk; (try simp only [and_imp]); intros; (repeat' apply And.intro) <;> assumption)⟩, ⟨by (with_reducible repeat (first | apply rA_ | apply rB_ | apply rC_)); exact Kd.R_mono HO_10.out (fun _ hk => by revert hk; (try simp only [and_imp]); intros; (repeat' apply And.intro) <;> assumption)⟩, ⟨by (with_reducible repeat (first | apply Kd.S_alloc | apply Kd.S_drewN | apply Kd.S_drew)); exact Kd.S_mono HO_65.out (fun _ hk => by revert hk; (try simp only [and_imp]); intros; (repeat' apply And.intro) <;> assumption)⟩, ⟨by (with_reducible repeat (first | refine kA_ ?_ _ | refine kB_ ?_ | refine kC_ ?_ _)); exact BK253.out⟩, ⟨by repeat (first | (with_reducible first | exact HB.out | apply bA_ | apply bB_ | apply bC_ | refine bD_ ?_ GE253.out) | exact HB.out)⟩⟩
                  ·rw [if_neg c72] at H
                   exact absurd H (by simp)
                 ·replace c71 := Bool.eq_false_iff.mpr c71
                  subst c71
                  have H1 : (Z10.l1 k2 l1 x6_2 t270 t273 t276 (t276.length : Int) (wrap64 (x67_2 + 1))) = some (r1, r2) := by rw [if_neg (show ¬ (false = true) by decide)] at H; exact H
                  clear H
                  have H := H1
                  clear H1
                  have H' := A_ H
                  clear H
                  have p279 : 0 ≤ (x67_2 : Int) := oB_ (by first | (with_reducible assumption) | assumption)
                  have q279 : x67_2 < (t276.length : Int) := oB_ (by first | (with_reducible assumption) | assumption)
                  obtain ⟨ad279, A279_0, c279_0, e279, hx279_0, hl279_0, hi279_0⟩ := at_L1 (Kd.S_reads' HO_65.out).2.2 x67_2 p279 q279
                  cases e279
                  obtain ⟨ce279, hce279, hMe279, hcc279⟩ := Kd.S_get HO_65.out [] x67_2 p279 (by first | exact q279 | exact oB_ (by first | (with_reducible assumption) | assumption) | (have e_ := (Kd.S_reads' HO_65.out).1; omega))
                  obtain ⟨ve279_0, rfl, ge279_0⟩ := hMe279
                  have hv279_0 := hcc279 0 _ rfl
                  rw [Nat.add_zero, show ((Kd.slice 3 (Kd.int .i64))).sz = 1 from rfl, Nat.mul_one] at hv279_0
                  replace hv279_0 := Option.some.inj (hv279_0.symm.trans hx279_0)
                  rw [hv279_0] at ge279_0
                  have HL279_0 := A_ (show Kd.R (Kd.int .i64) 3 _ _ _ _ (rd_L1 t276 x67_2) from ge279_0)
                  clear hv279_0 ge279_0
                  clear hcc279 hce279
                  have HR279_0 := A_ hi279_0
                  have HC279_0 := A_ hl279_0
                  clear hi279_0 hl279_0
                  replace p279 := eq_true p279
                  replace q279 := eq_true q279
                  have p280 : 0 ≤ (0 : Int) := (by omega)
                  have q280 : 0 < ((rd_L1 t276 x67_2).length : Int) := oB_ (by first | (with_reducible assumption) | assumption)
                  obtain ⟨ad280, e280, hx280_0⟩ := Kd.at_int (by repeat (first | (with_reducible exact HR279_0.out) | (with_reducible refine cA_ ?_ _) | (with_reducible refine cB_ ?_ _) | (with_reducible refine cC_ ?_) | exact HR279_0.out)) 0 p280 q280
                  cases e280
                  have qi280 : (0 < (rd_L1 t276 x67_2).length) = True := eq_true (by omega)
                  (try rw [show ((0 : Int)).toNat = 0 from rfl] at hx280_0)
                  (try rw [Addr.add_zero'] at hx280_0)
                  replace p280 := eq_true p280
                  replace q280 := eq_true q280
                  have p281 : 0 ≤ ((rd (rd_L1 t276 x67_2) 0) : Int) := oB_ (by first | (with_reducible assumption) | assumption)
                  have q281 : (rd (rd_L1 t276 x67_2) 0) < (l1.length : Int) := oB_ (by first | (with_reducible assumption) | assumption)
                  obtain ⟨ad281, e281, hx281_0⟩ := Kd.at_int HR1.out (rd (rd_L1 t276 x67_2) 0) p281 q281
                  cases e281
                  replace hx281_0 := (HB.out.cell (World.block_lt_of_cell? w _ hx281_0)).trans hx281_0
                  replace p281 := eq_true p281
                  replace q281 := eq_true q281
                  obtain ⟨Ao79, co79, eo79⟩ := Kd.R_slice HO_9.out
                  subst eo79
                  have p282 : 0 ≤ ((rd l1 (rd (rd_L1 t276 x67_2) 0)) : Int) := oB_ (by first | (with_reducible assumption) | assumption)
                  have q282 : (rd l1 (rd (rd_L1 t276 x67_2) 0)) < (t270.length : Int) := oB_ (by first | (with_reducible assumption) | assumption)
                  obtain ⟨ad282, e282, hx282_0⟩ := Kd.at_int (Kd.R_reads' HO_9.out).2.2 (rd l1 (rd (rd_L1 t276 x67_2) 0)) p282 q282
                  cases e282
                  replace p282 := eq_true p282
                  replace q282 := eq_true q282
                  obtain ⟨Ao80, co80, eo80⟩ := Kd.R_slice HO_10.out
                  subst eo80
                  have p283 : 0 ≤ ((rd t270 (rd l1 (rd (rd_L1 t276 x67_2) 0))) : Int) := oB_ (by first | (with_reducible assumption) | assumption)
                  have q283 : (rd t270 (rd l1 (rd (rd_L1 t276 x67_2) 0))) < (t273.length : Int) := oB_ (by first | (with_reducible assumption) | assumption)
                  obtain ⟨ad283, e283, hx283_0⟩ := Kd.at_int (Kd.R_reads' HO_10.out).2.2 (rd t270 (rd l1 (rd (rd_L1 t276 x67_2) 0))) p283 q283
                  cases e283
                  replace p283 := eq_true p283
                  replace q283 := eq_true q283
                  go_wp2_with (first | ((with_reducible refine gA_ (f := 155) rfl ?_); refine goesL_ (some 84) rfl rfl Try.func155 (by kernel_rfl) rfl #[.slice (some ad280) (rd_L1 t276 x67_2).length c279_0, .int .i64 (rd t273 (rd t270 (rd l1 (rd (rd_L1 t276 x67_2) 0))))] rfl (by (try simp only [mA_, mB_, mC_]); first | done | rfl | (simp only [lA_, lB_]; rfl)) ?_; (with_reducible refine (Z44.calls k2 _ _ (rd_L1 t276 x67_2) (rd t273 (rd t270 (rd l1 (rd (rd_L1 t276 x67_2) 0)))) false _ ?side1 ?side2 A70.out).mono ?_); (case side1 => repeat (first | exact (by repeat (first | (with_reducible exact HR279_0.out) | (with_reducible refine cA_ ?_ _) | (with_reducible refine cB_ ?_ _) | (with_reducible refine cC_ ?_) | exact HR279_0.out)) | (with_reducible first | refine cA_ ?_ _ | refine cB_ ?_ _ | refine cC_ ?_))); (case side2 => exact HC279_0.out); rintro e w' ⟨rfl, ⟨nd, rfl⟩⟩; refine ⟨_, rfl, ?_⟩))
                  go_roundg k2
                  case measure => have := HK1.out; have := HK2.out; omega
                  case rel => exact ⟨(x6_2), (wrap64 (x67_2 + 1)), (by first | rfl | (simp; done) | (simp [*]; done)), H', ⟨by have := HK1.out; have := HK2.out; omega⟩, ⟨by (with_reducible repeat (first | apply rA_ | apply rB_ | apply rC_)); exact HO_6.out⟩, ⟨by (with_reducible repeat (first | apply rA_ | apply rB_ | apply rC_)); exact HO_9.out⟩, ⟨by (with_reducible repeat (first | apply rA_ | apply rB_ | apply rC_)); exact HO_10.out⟩, ⟨by (with_reducible repeat (first | apply Kd.S_alloc | apply Kd.S_drewN | apply Kd.S_drew)); exact HO_65.out⟩, ⟨by (with_reducible repeat (first | refine kA_ ?_ _ | refine kB_ ?_ | refine kC_ ?_ _)); exact BK253.out⟩, ⟨by repeat (first | (with_reducible first | exact HB.out | apply bA_ | apply bB_ | apply bC_ | refine bD_ ?_ GE253.out) | exact HB.out)⟩⟩
                ·rw [if_neg c69] at H
                 exact absurd H (by simp)
               ·rw [if_neg c68] at H
                exact absurd H (by simp)
              ·rw [if_neg c67] at H
               exact absurd H (by simp)
             ·rw [if_neg c66] at H
              exact absurd H (by simp)
            ·rw [if_neg c65] at H
             exact absurd H (by simp)
           ·rw [if_neg c64] at H
            exact absurd H (by simp)
          ·rw [if_neg c63] at H
           exact absurd H (by simp)
         ·rw [if_neg c62] at H
          exact absurd H (by simp)
        ·rw [if_neg c61] at H
         exact absurd H (by simp)
       ·rw [if_neg c60] at H
        have c60b0 : decide (x67_2 < (t276.length : Int)) = false := oD_ c60
        clear c60
        simp only [Option.some.injEq, Prod.mk.injEq] at H
        obtain ⟨rfl, rfl⟩ := H
        go_wp2
        go_ret2
        exact ⟨_, by first | rfl | (simp [errW_none, errW_some] <;> rfl) | (simp [*, errW_none, errW_some] <;> rfl), by (with_reducible repeat (first | apply rA_ | apply rB_ | apply rC_)); exact Kd.R_mono HO_6.out (fun _ hk => trivial), by repeat (first | (with_reducible first | exact HB.out | apply bA_ | apply bB_ | apply bC_ | refine bD_ ?_ GE253.out) | exact HB.out)⟩
 ·replace c4 := Bool.eq_false_iff.mpr c4
  subst c4
  have H1 : (some (([] : List Int), false)) = some (r1, r2) := by rw [if_neg (show ¬ (false = true) by decide)] at H; exact H
  clear H
  have H := H1
  clear H1
  simp only [Option.some.injEq, Prod.mk.injEq] at H
  obtain ⟨rfl, rfl⟩ := H
  go_enter Try.func139, Try.ntmps139
  go_wp2_with (first | ((with_reducible refine gB_ (N := 2) rfl ?_); refine xA_ ?hg (N := 2) ?hd (cs := #[.slice A0_0 l0_0.length c0_0, .slice A0_1 l0_1.length c0_1]) (t := 27) ?hr ?_; (case hd => rfl); (case hg => rfl); (case hr => first | (go_simp; done) | (go_simp; rfl)); intro gb253 hg w81 hbox hb; have n0_ := A_ (bE_ (by repeat (first | (with_reducible first | exact HB.out | apply bA_ | apply bB_ | apply bC_) | exact HB.out)) hb); have n1_ := A_ (hbox); have n2_ := A_ ((by rw [hg]; exact (bF_ (by repeat (first | (with_reducible first | exact HB.out | apply bA_ | apply bB_ | apply bC_) | exact HB.out))) : w.heap.size ≤ gb253)); have n3_ := A_ ((by rw [hg]; exact (bF_ (by repeat (first | (with_reducible first | exact HB.out | apply bA_ | apply bB_ | apply bC_) | exact HB.out))) : w.heap.size ≤ gb253)); clear HB; have HB := n0_; have BK253 := n1_; have GW253 := n2_; have GE253 := n3_; clear n0_ n1_ n2_ n3_; clear hb hbox hg; have hcz82_0 := cz0_ BK253.out; have hcz82_1 := cz1_ BK253.out; have hfz82_0 := kD_ BK253.out 0; have hfz82_1 := kD_ BK253.out 1) | ((with_reducible refine gA_ (f := 100) rfl ?_); refine goesL_ (some 15) rfl rfl Try.func100 (by kernel_rfl) rfl #[.agg #[.slice A0_0 l0_0.length c0_0, .slice A0_1 l0_1.length c0_1], .slice A1 l1.length c1] rfl (by (try simp only [mA_, mB_, mC_]); first | done | rfl | (simp only [lA_, lB_]; rfl)) ?_; (with_reducible refine (Z42.calls k _ _ l0_0 _ _ l0_1 _ _ l1 false _ ?side1 ?side2 ?side3 ?side4 ?side5 ?side6 A3.out).mono ?_); (case side1 => repeat (first | exact (cD_ HR0_0.out HB.out) | (with_reducible first | refine cA_ ?_ _ | refine cB_ ?_ _ | refine cC_ ?_))); (case side2 => exact HC0_0.out); (case side3 => repeat (first | exact (cD_ HR0_1.out HB.out) | (with_reducible first | refine cA_ ?_ _ | refine cB_ ?_ _ | refine cC_ ?_))); (case side4 => exact HC0_1.out); (case side5 => repeat (first | exact (cD_ HR1.out HB.out) | (with_reducible first | refine cA_ ?_ _ | refine cB_ ?_ _ | refine cC_ ?_))); (case side6 => exact HC1.out); rintro e w83 ⟨rfl, hb⟩; refine ⟨_, rfl, ?_⟩; have n0_ := A_ (kE_ (g := gb253) (by (with_reducible repeat (first | refine kA_ ?_ _ | refine kB_ ?_ | refine kC_ ?_ _)); exact BK253.out) hb); have n1_ := A_ (bE_ (by repeat (first | (with_reducible first | exact HB.out | apply bA_ | apply bB_ | apply bC_ | refine bD_ ?_ GE253.out) | exact HB.out)) hb); clear BK253; clear HB; have BK253 := n0_; have HB := n1_; clear n0_ n1_; (try clear hb); (try clear hb2); (try clear hk); (try clear hi)))
  go_ret2
  exact ⟨_, by first | rfl | (simp [errW_none, errW_some] <;> rfl) | (simp [*, errW_none, errW_some] <;> rfl), by first | exact Kd.R_nil _ _ _ _ _ | exact Kd.N_nil _ _ _ _ _ | exact Kd.V_nil _ _ _ _ _ | exact Kd.Q_nil _ _ _ _ _ | exact Kd.S_nil _ _ _ _ _, by repeat (first | (with_reducible first | exact HB.out | apply bA_ | apply bB_ | apply bC_ | refine bD_ ?_ GE253.out) | exact HB.out)⟩
end Go.Proofs.Ytbdnellgioimbaa.A
end
section
namespace Go.Proofs.Ytbdnellgioimbaa.A
open Go.RowKit Go.Proofs.YtbdnellgioimbaaW.PrintWords Go.Proofs.YtbdnellgioimbaaW.PrintLast Go.Proofs.YtbdnellgioimbaaW.PrintMore
attribute [local go_sem] max2_int min2_int max_two min_two max_three min_three max_four min_four
set_option linter.unusedVariables false
set_option linter.unusedSimpArgs false
def Z13.f (k : Nat) (l0_0 : List Int) (l0_1 : List Int) (l1 : List Int) : Option (Int) := (Z10.f k l0_0 l0_1 l1).bind fun bt288 => (if bt288.2 = true then (if 0 < (bt288.1.length : Int) then (if 1 < (bt288.1.length : Int) then (if 2 < (bt288.1.length : Int) then (if 3 < (bt288.1.length : Int) then (some (wrap64 ((wrap64 ((wrap64 ((rd bt288.1 0) + (rd bt288.1 1))) + (rd bt288.1 2))) + (rd bt288.1 3)))) else (none)) else (none)) else (none)) else (none)) else (some (-1)))
theorem Z13.mono : ∀ a0 a1 a2 k, LeO (Z13.f k a0 a1 a2) (Z13.f (k + 1) a0 a1 a2) := by
 intro a0 a1 a2 k
 unfold Z13.f
 repeat' first
   | (with_reducible exact Z10.mono _ _ _ _)
   | (with_reducible exact LeO.refl _)
   | (with_reducible exact LeO.none _)
   | (with_reducible refine LeO.ite ?_ ?_)
   | (with_reducible refine LeO.bind ?_ (fun _ => ?_))
   | exact Z10.mono _ _ _ _
   | exact LeO.none _
   | refine LeO.ite ?_ ?_
   | refine LeO.bind ?_ (fun _ => ?_)
set_option maxHeartbeats 8000000 in
set_option maxRecDepth 100000 in
theorem Z13.calls (k : Nat) (A0_0 : Option Addr) (c0_0 : Nat) (l0_0 : List Int) (A0_1 : Option Addr) (c0_1 : Nat) (l0_1 : List Int) (A1 : Option Addr) (c1 : Nat) (l1 : List Int) (r : Int) (w : World) (hr0_0 : Kd.C (Kd.int .i64) w A0_0 l0_0.length l0_0) (hc0_0 : l0_0.length ≤ c0_0) (hr0_1 : Kd.C (Kd.int .i64) w A0_1 l0_1.length l0_1) (hc0_1 : l0_1.length ≤ c0_1) (hr1 : Kd.C (Kd.int .i64) w A1 l1.length l1) (hc1 : l1.length ≤ c1) (h : Z13.f k l0_0 l0_1 l1 = some r) :
  Calls Try.prog 105 #[.agg #[.slice A0_0 l0_0.length c0_0, .slice A0_1 l0_1.length c0_1], .slice A1 l1.length c1] w fun e w' => e = .returned (.int .i64 r) ∧ Below w.heap.size w w' := by
 have hu27 := Try.underlying27
 have HR0_0 := A_ hr0_0
 have HC0_0 := A_ hc0_0
 clear hr0_0 hc0_0
 have HR0_1 := A_ hr0_1
 have HC0_1 := A_ hc0_1
 clear hr0_1 hc0_1
 have HR1 := A_ hr1
 have HC1 := A_ hc1
 clear hr1 hc1
 have HB := A_ (Below.refl w.heap.size w)
 have H : ((Z10.f k l0_0 l0_1 l1).bind fun bt288 => (if bt288.2 = true then (if 0 < (bt288.1.length : Int) then (if 1 < (bt288.1.length : Int) then (if 2 < (bt288.1.length : Int) then (if 3 < (bt288.1.length : Int) then (some (wrap64 ((wrap64 ((wrap64 ((rd bt288.1 0) + (rd bt288.1 1))) + (rd bt288.1 2))) + (rd bt288.1 3)))) else (none)) else (none)) else (none)) else (none)) else (some (-1)))) = some r := h
 clear h
 replace H := Option.bind_eq_some_iff.mp H
 obtain ⟨⟨t288, t291⟩, A30, H⟩ := H
 replace H : (if t291 = true then (if 0 < (t288.length : Int) then (if 1 < (t288.length : Int) then (if 2 < (t288.length : Int) then (if 3 < (t288.length : Int) then (some (wrap64 ((wrap64 ((wrap64 ((rd t288 0) + (rd t288 1))) + (rd t288 2))) + (rd t288 3)))) else (none)) else (none)) else (none)) else (none)) else (some (-1))) = some r := H
 have A3 := A_ A30
 clear A30
 by_cases c4 : t291 = true
 ·subst c4
  have H1 : (if 0 < (t288.length : Int) then (if 1 < (t288.length : Int) then (if 2 < (t288.length : Int) then (if 3 < (t288.length : Int) then (some (wrap64 ((wrap64 ((wrap64 ((rd t288 0) + (rd t288 1))) + (rd t288 2))) + (rd t288 3)))) else (none)) else (none)) else (none)) else (none)) = some r := by rw [if_pos rfl] at H; exact H
  clear H
  have H := H1
  clear H1
  by_cases c5 : 0 < (t288.length : Int)
  ·rw [if_pos c5] at H
   have c5b0 : decide (0 < (t288.length : Int)) = true := oC_ c5
   have c5b1 : decide (0 < t288.length) = true := oC_ (by omega)
   clear c5
   by_cases c6 : 1 < (t288.length : Int)
   ·rw [if_pos c6] at H
    have c6b0 : decide (1 < (t288.length : Int)) = true := oC_ c6
    have c6b1 : decide (1 < t288.length) = true := oC_ (by omega)
    clear c6
    by_cases c7 : 2 < (t288.length : Int)
    ·rw [if_pos c7] at H
     have c7b0 : decide (2 < (t288.length : Int)) = true := oC_ c7
     have c7b1 : decide (2 < t288.length) = true := oC_ (by omega)
     clear c7
     by_cases c8 : 3 < (t288.length : Int)
     ·rw [if_pos c8] at H
      have c8b0 : decide (3 < (t288.length : Int)) = true := oC_ c8
      have c8b1 : decide (3 < t288.length) = true := oC_ (by omega)
      clear c8
      obtain rfl := Option.some.inj H
      go_enter Try.func105, Try.ntmps105
      go_wp2_with (first | ((with_reducible refine gB_ (N := 2) rfl ?_); refine xA_ ?hg (N := 2) ?hd (cs := #[.slice A0_0 l0_0.length c0_0, .slice A0_1 l0_1.length c0_1]) (t := 27) ?hr ?_; (case hd => rfl); (case hg => rfl); (case hr => first | (go_simp; done) | (go_simp; rfl)); intro gb287 hg w9 hbox hb; have n0_ := A_ (bE_ (by repeat (first | (with_reducible first | exact HB.out | apply bA_ | apply bB_ | apply bC_) | exact HB.out)) hb); have n1_ := A_ (hbox); have n2_ := A_ ((by rw [hg]; exact (bF_ (by repeat (first | (with_reducible first | exact HB.out | apply bA_ | apply bB_ | apply bC_) | exact HB.out))) : w.heap.size ≤ gb287)); have n3_ := A_ ((by rw [hg]; exact (bF_ (by repeat (first | (with_reducible first | exact HB.out | apply bA_ | apply bB_ | apply bC_) | exact HB.out))) : w.heap.size ≤ gb287)); clear HB; have HB := n0_; have BK287 := n1_; have GW287 := n2_; have GE287 := n3_; clear n0_ n1_ n2_ n3_; clear hb hbox hg; have hcz10_0 := cz0_ BK287.out; have hcz10_1 := cz1_ BK287.out; have hfz10_0 := kD_ BK287.out 0; have hfz10_1 := kD_ BK287.out 1) | (go_at_call 139; (with_reducible refine (Z10.calls k _ _ l0_0 _ _ l0_1 _ _ l1 t288 true _ ?side1 ?side2 ?side3 ?side4 ?side5 ?side6 A3.out).mono ?_); (case side1 => repeat (first | exact (cD_ HR0_0.out HB.out) | (with_reducible first | refine cA_ ?_ _ | refine cB_ ?_ _ | refine cC_ ?_))); (case side2 => exact HC0_0.out); (case side3 => repeat (first | exact (cD_ HR0_1.out HB.out) | (with_reducible first | refine cA_ ?_ _ | refine cB_ ?_ _ | refine cC_ ?_))); (case side4 => exact HC0_1.out); (case side5 => repeat (first | exact (cD_ HR1.out HB.out) | (with_reducible first | refine cA_ ?_ _ | refine cB_ ?_ _ | refine cC_ ?_))); (case side6 => exact HC1.out); rintro e w11 ⟨v289, rfl, ho0, hb⟩; have n0_ := A_ (rE_ ho0 (bF_ (by repeat (first | (with_reducible first | exact HB.out | apply bA_ | apply bB_ | apply bC_ | refine bD_ ?_ GE287.out) | exact HB.out)))); have n1_ := A_ (kE_ (g := gb287) (by (with_reducible repeat (first | refine kA_ ?_ _ | refine kB_ ?_ | refine kC_ ?_ _)); exact BK287.out) hb); have n2_ := A_ (bE_ (by repeat (first | (with_reducible first | exact HB.out | apply bA_ | apply bB_ | apply bC_ | refine bD_ ?_ GE287.out) | exact HB.out)) hb); clear BK287; clear HB; have HO290 := n0_; have BK287 := n1_; have HB := n2_; clear n0_ n1_ n2_; (try clear hb); (try clear hb2); (try clear hk); (try clear hi); (try clear ho0); obtain ⟨Ao12, co12, eo12⟩ := Kd.R_slice HO290.out; subst eo12; have p292 : 0 ≤ (0 : Int) := (by omega); have q292 : 0 < (t288.length : Int) := oB_ (by first | (with_reducible assumption) | assumption); obtain ⟨ad292, e292, hx292_0⟩ := Kd.at_int (Kd.R_reads' HO290.out).2.2 0 p292 q292; cases e292; have qi292 : (0 < t288.length) = True := eq_true (by omega); (try rw [show ((0 : Int)).toNat = 0 from rfl] at hx292_0); (try rw [Addr.add_zero'] at hx292_0); replace p292 := eq_true p292; replace q292 := eq_true q292; have p293 : 0 ≤ (1 : Int) := (by omega); have q293 : 1 < (t288.length : Int) := oB_ (by first | (with_reducible assumption) | assumption); obtain ⟨ad293, e293, hx293_0⟩ := Kd.at_int (Kd.R_reads' HO290.out).2.2 1 p293 q293; obtain rfl : ad292 = ad293 := (by injection e293); (try simp only [show (1 : Int).toNat = 1 from rfl, Nat.reduceMul, Nat.reduceEqDiff, Go.Addr.add, ↓reduceIte] at hx293_0); have qi293 : (1 < t288.length) = True := eq_true (by omega); (try rw [show ((1 : Int)).toNat = 1 from rfl] at hx293_0); replace p293 := eq_true p293; replace q293 := eq_true q293; have p294 : 0 ≤ (2 : Int) := (by omega); have q294 : 2 < (t288.length : Int) := oB_ (by first | (with_reducible assumption) | assumption); obtain ⟨ad294, e294, hx294_0⟩ := Kd.at_int (Kd.R_reads' HO290.out).2.2 2 p294 q294; obtain rfl : ad292 = ad294 := (by injection e294); (try simp only [show (2 : Int).toNat = 2 from rfl, Nat.reduceMul, Nat.reduceEqDiff, Go.Addr.add, ↓reduceIte] at hx294_0); have qi294 : (2 < t288.length) = True := eq_true (by omega); (try rw [show ((2 : Int)).toNat = 2 from rfl] at hx294_0); replace p294 := eq_true p294; replace q294 := eq_true q294; have p295 : 0 ≤ (3 : Int) := (by omega); have q295 : 3 < (t288.length : Int) := oB_ (by first | (with_reducible assumption) | assumption); obtain ⟨ad295, e295, hx295_0⟩ := Kd.at_int (Kd.R_reads' HO290.out).2.2 3 p295 q295; obtain rfl : ad292 = ad295 := (by injection e295); (try simp only [show (3 : Int).toNat = 3 from rfl, Nat.reduceMul, Nat.reduceEqDiff, Go.Addr.add, ↓reduceIte] at hx295_0); have qi295 : (3 < t288.length) = True := eq_true (by omega); (try rw [show ((3 : Int)).toNat = 3 from rfl] at hx295_0); replace p295 := eq_true p295; replace q295 := eq_true q295))
      repeat (go_quiet (first | ((with_reducible refine gB_ (N := 2) rfl ?_); refine xA_ ?hg (N := 2) ?hd (cs := #[.slice A0_0 l0_0.length c0_0, .slice A0_1 l0_1.length c0_1]) (t := 27) ?hr ?_; (case hd => rfl); (case hg => rfl); (case hr => first | (go_simp; done) | (go_simp; rfl)); intro gb287 hg w9 hbox hb; have n0_ := A_ (bE_ (by repeat (first | (with_reducible first | exact HB.out | apply bA_ | apply bB_ | apply bC_) | exact HB.out)) hb); have n1_ := A_ (hbox); have n2_ := A_ ((by rw [hg]; exact (bF_ (by repeat (first | (with_reducible first | exact HB.out | apply bA_ | apply bB_ | apply bC_) | exact HB.out))) : w.heap.size ≤ gb287)); have n3_ := A_ ((by rw [hg]; exact (bF_ (by repeat (first | (with_reducible first | exact HB.out | apply bA_ | apply bB_ | apply bC_) | exact HB.out))) : w.heap.size ≤ gb287)); clear HB; have HB := n0_; have BK287 := n1_; have GW287 := n2_; have GE287 := n3_; clear n0_ n1_ n2_ n3_; clear hb hbox hg; have hcz10_0 := cz0_ BK287.out; have hcz10_1 := cz1_ BK287.out; have hfz10_0 := kD_ BK287.out 0; have hfz10_1 := kD_ BK287.out 1) | (go_at_call 139; (with_reducible refine (Z10.calls k _ _ l0_0 _ _ l0_1 _ _ l1 t288 true _ ?side1 ?side2 ?side3 ?side4 ?side5 ?side6 A3.out).mono ?_); (case side1 => repeat (first | exact (cD_ HR0_0.out HB.out) | (with_reducible first | refine cA_ ?_ _ | refine cB_ ?_ _ | refine cC_ ?_))); (case side2 => exact HC0_0.out); (case side3 => repeat (first | exact (cD_ HR0_1.out HB.out) | (with_reducible first | refine cA_ ?_ _ | refine cB_ ?_ _ | refine cC_ ?_))); (case side4 => exact HC0_1.out); (case side5 => repeat (first | exact (cD_ HR1.out HB.out) | (with_reducible first | refine cA_ ?_ _ | refine cB_ ?_ _ | refine cC_ ?_))); (case side6 => exact HC1.out); rintro e w11 ⟨v289, rfl, ho0, hb⟩; have n0_ := A_ (rE_ ho0 (bF_ (by repeat (first | (with_reducible first | exact HB.out | apply bA_ | apply bB_ | apply bC_ | refine bD_ ?_ GE287.out) | exact HB.out)))); have n1_ := A_ (kE_ (g := gb287) (by (with_reducible repeat (first | refine kA_ ?_ _ | refine kB_ ?_ | refine kC_ ?_ _)); exact BK287.out) hb); have n2_ := A_ (bE_ (by repeat (first | (with_reducible first | exact HB.out | apply bA_ | apply bB_ | apply bC_ | refine bD_ ?_ GE287.out) | exact HB.out)) hb); clear BK287; clear HB; have HO290 := n0_; have BK287 := n1_; have HB := n2_; clear n0_ n1_ n2_; (try clear hb); (try clear hb2); (try clear hk); (try clear hi); (try clear ho0); obtain ⟨Ao12, co12, eo12⟩ := Kd.R_slice HO290.out; subst eo12; have p292 : 0 ≤ (0 : Int) := (by omega); have q292 : 0 < (t288.length : Int) := oB_ (by first | (with_reducible assumption) | assumption); obtain ⟨ad292, e292, hx292_0⟩ := Kd.at_int (Kd.R_reads' HO290.out).2.2 0 p292 q292; cases e292; have qi292 : (0 < t288.length) = True := eq_true (by omega); (try rw [show ((0 : Int)).toNat = 0 from rfl] at hx292_0); (try rw [Addr.add_zero'] at hx292_0); replace p292 := eq_true p292; replace q292 := eq_true q292; have p293 : 0 ≤ (1 : Int) := (by omega); have q293 : 1 < (t288.length : Int) := oB_ (by first | (with_reducible assumption) | assumption); obtain ⟨ad293, e293, hx293_0⟩ := Kd.at_int (Kd.R_reads' HO290.out).2.2 1 p293 q293; obtain rfl : ad292 = ad293 := (by injection e293); (try simp only [show (1 : Int).toNat = 1 from rfl, Nat.reduceMul, Nat.reduceEqDiff, Go.Addr.add, ↓reduceIte] at hx293_0); have qi293 : (1 < t288.length) = True := eq_true (by omega); (try rw [show ((1 : Int)).toNat = 1 from rfl] at hx293_0); replace p293 := eq_true p293; replace q293 := eq_true q293; have p294 : 0 ≤ (2 : Int) := (by omega); have q294 : 2 < (t288.length : Int) := oB_ (by first | (with_reducible assumption) | assumption); obtain ⟨ad294, e294, hx294_0⟩ := Kd.at_int (Kd.R_reads' HO290.out).2.2 2 p294 q294; obtain rfl : ad292 = ad294 := (by injection e294); (try simp only [show (2 : Int).toNat = 2 from rfl, Nat.reduceMul, Nat.reduceEqDiff, Go.Addr.add, ↓reduceIte] at hx294_0); have qi294 : (2 < t288.length) = True := eq_true (by omega); (try rw [show ((2 : Int)).toNat = 2 from rfl] at hx294_0); replace p294 := eq_true p294; replace q294 := eq_true q294; have p295 : 0 ≤ (3 : Int) := (by omega); have q295 : 3 < (t288.length : Int) := oB_ (by first | (with_reducible assumption) | assumption); obtain ⟨ad295, e295, hx295_0⟩ := Kd.at_int (Kd.R_reads' HO290.out).2.2 3 p295 q295; obtain rfl : ad292 = ad295 := (by injection e295); (try simp only [show (3 : Int).toNat = 3 from rfl, Nat.reduceMul, Nat.reduceEqDiff, Go.Addr.add, ↓reduceIte] at hx295_0); have qi295 : (3 < t288.length) = True := eq_true (by omega); (try rw [show ((3 : Int)).toNat = 3 from rfl] at hx295_0); replace p295 := eq_true p295; replace q295 := eq_true q295)); try go_wp2_with (first | ((with_reducible refine gB_ (N := 2) rfl ?_); refine xA_ ?hg (N := 2) ?hd (cs := #[.slice A0_0 l0_0.length c0_0, .slice A0_1 l0_1.length c0_1]) (t := 27) ?hr ?_; (case hd => rfl); (case hg => rfl); (case hr => first | (go_simp; done) | (go_simp; rfl)); intro gb287 hg w9 hbox hb; have n0_ := A_ (bE_ (by repeat (first | (with_reducible first | exact HB.out | apply bA_ | apply bB_ | apply bC_) | exact HB.out)) hb); have n1_ := A_ (hbox); have n2_ := A_ ((by rw [hg]; exact (bF_ (by repeat (first | (with_reducible first | exact HB.out | apply bA_ | apply bB_ | apply bC_) | exact HB.out))) : w.heap.size ≤ gb287)); have n3_ := A_ ((by rw [hg]; exact (bF_ (by repeat (first | (with_reducible first | exact HB.out | apply bA_ | apply bB_ | apply bC_) | exact HB.out))) : w.heap.size ≤ gb287)); clear HB; have HB := n0_; have BK287 := n1_; have GW287 := n2_; have GE287 := n3_; clear n0_ n1_ n2_ n3_; clear hb hbox hg; have hcz10_0 := cz0_ BK287.out; have hcz10_1 := cz1_ BK287.out; have hfz10_0 := kD_ BK287.out 0; have hfz10_1 := kD_ BK287.out 1) | (go_at_call 139; (with_reducible refine (Z10.calls k _ _ l0_0 _ _ l0_1 _ _ l1 t288 true _ ?side1 ?side2 ?side3 ?side4 ?side5 ?side6 A3.out).mono ?_); (case side1 => repeat (first | exact (cD_ HR0_0.out HB.out) | (with_reducible first | refine cA_ ?_ _ | refine cB_ ?_ _ | refine cC_ ?_))); (case side2 => exact HC0_0.out); (case side3 => repeat (first | exact (cD_ HR0_1.out HB.out) | (with_reducible first | refine cA_ ?_ _ | refine cB_ ?_ _ | refine cC_ ?_))); (case side4 => exact HC0_1.out); (case side5 => repeat (first | exact (cD_ HR1.out HB.out) | (with_reducible first | refine cA_ ?_ _ | refine cB_ ?_ _ | refine cC_ ?_))); (case side6 => exact HC1.out); rintro e w11 ⟨v289, rfl, ho0, hb⟩; have n0_ := A_ (rE_ ho0 (bF_ (by repeat (first | (with_reducible first | exact HB.out | apply bA_ | apply bB_ | apply bC_ | refine bD_ ?_ GE287.out) | exact HB.out)))); have n1_ := A_ (kE_ (g := gb287) (by (with_reducible repeat (first | refine kA_ ?_ _ | refine kB_ ?_ | refine kC_ ?_ _)); exact BK287.out) hb); have n2_ := A_ (bE_ (by repeat (first | (with_reducible first | exact HB.out | apply bA_ | apply bB_ | apply bC_ | refine bD_ ?_ GE287.out) | exact HB.out)) hb); clear BK287; clear HB; have HO290 := n0_; have BK287 := n1_; have HB := n2_; clear n0_ n1_ n2_; (try clear hb); (try clear hb2); (try clear hk); (try clear hi); (try clear ho0); obtain ⟨Ao12, co12, eo12⟩ := Kd.R_slice HO290.out; subst eo12; have p292 : 0 ≤ (0 : Int) := (by omega); have q292 : 0 < (t288.length : Int) := oB_ (by first | (with_reducible assumption) | assumption); obtain ⟨ad292, e292, hx292_0⟩ := Kd.at_int (Kd.R_reads' HO290.out).2.2 0 p292 q292; cases e292; have qi292 : (0 < t288.length) = True := eq_true (by omega); (try rw [show ((0 : Int)).toNat = 0 from rfl] at hx292_0); (try rw [Addr.add_zero'] at hx292_0); replace p292 := eq_true p292; replace q292 := eq_true q292; have p293 : 0 ≤ (1 : Int) := (by omega); have q293 : 1 < (t288.length : Int) := oB_ (by first | (with_reducible assumption) | assumption); obtain ⟨ad293, e293, hx293_0⟩ := Kd.at_int (Kd.R_reads' HO290.out).2.2 1 p293 q293; obtain rfl : ad292 = ad293 := (by injection e293); (try simp only [show (1 : Int).toNat = 1 from rfl, Nat.reduceMul, Nat.reduceEqDiff, Go.Addr.add, ↓reduceIte] at hx293_0); have qi293 : (1 < t288.length) = True := eq_true (by omega); (try rw [show ((1 : Int)).toNat = 1 from rfl] at hx293_0); replace p293 := eq_true p293; replace q293 := eq_true q293; have p294 : 0 ≤ (2 : Int) := (by omega); have q294 : 2 < (t288.length : Int) := oB_ (by first | (with_reducible assumption) | assumption); obtain ⟨ad294, e294, hx294_0⟩ := Kd.at_int (Kd.R_reads' HO290.out).2.2 2 p294 q294; obtain rfl : ad292 = ad294 := (by injection e294); (try simp only [show (2 : Int).toNat = 2 from rfl, Nat.reduceMul, Nat.reduceEqDiff, Go.Addr.add, ↓reduceIte] at hx294_0); have qi294 : (2 < t288.length) = True := eq_true (by omega); (try rw [show ((2 : Int)).toNat = 2 from rfl] at hx294_0); replace p294 := eq_true p294; replace q294 := eq_true q294; have p295 : 0 ≤ (3 : Int) := (by omega); have q295 : 3 < (t288.length : Int) := oB_ (by first | (with_reducible assumption) | assumption); obtain ⟨ad295, e295, hx295_0⟩ := Kd.at_int (Kd.R_reads' HO290.out).2.2 3 p295 q295; obtain rfl : ad292 = ad295 := (by injection e295); (try simp only [show (3 : Int).toNat = 3 from rfl, Nat.reduceMul, Nat.reduceEqDiff, Go.Addr.add, ↓reduceIte] at hx295_0); have qi295 : (3 < t288.length) = True := eq_true (by omega); (try rw [show ((3 : Int)).toNat = 3 from rfl] at hx295_0); replace p295 := eq_true p295; replace q295 := eq_true q295)))
      go_ret
      exact ⟨by first | rfl | (simp [errW_none, errW_some] <;> rfl) | (simp [*, errW_none, errW_some] <;> rfl), by repeat (first | (with_reducible first | exact HB.out | apply bA_ | apply bB_ | apply bC_ | refine bD_ ?_ GE287.out) | exact HB.out)⟩
     ·rw [if_neg c8] at H
      exact absurd H (by simp)
    ·rw [if_neg c7] at H
     exact absurd H (by simp)
   ·rw [if_neg c6] at H
    exact absurd H (by simp)
  ·rw [if_neg c5] at H
   exact absurd H (by simp)
 ·replace c4 := Bool.eq_false_iff.mpr c4
  subst c4
  have H1 : (some (-1)) = some r := by rw [if_neg (show ¬ (false = true) by decide)] at H; exact H
  clear H
  have H := H1
  clear H1
  obtain rfl := Option.some.inj H
  go_enter Try.func105, Try.ntmps105
  go_wp2_with (first | ((with_reducible refine gB_ (N := 2) rfl ?_); refine xA_ ?hg (N := 2) ?hd (cs := #[.slice A0_0 l0_0.length c0_0, .slice A0_1 l0_1.length c0_1]) (t := 27) ?hr ?_; (case hd => rfl); (case hg => rfl); (case hr => first | (go_simp; done) | (go_simp; rfl)); intro gb287 hg w13 hbox hb; have n0_ := A_ (bE_ (by repeat (first | (with_reducible first | exact HB.out | apply bA_ | apply bB_ | apply bC_) | exact HB.out)) hb); have n1_ := A_ (hbox); have n2_ := A_ ((by rw [hg]; exact (bF_ (by repeat (first | (with_reducible first | exact HB.out | apply bA_ | apply bB_ | apply bC_) | exact HB.out))) : w.heap.size ≤ gb287)); have n3_ := A_ ((by rw [hg]; exact (bF_ (by repeat (first | (with_reducible first | exact HB.out | apply bA_ | apply bB_ | apply bC_) | exact HB.out))) : w.heap.size ≤ gb287)); clear HB; have HB := n0_; have BK287 := n1_; have GW287 := n2_; have GE287 := n3_; clear n0_ n1_ n2_ n3_; clear hb hbox hg; have hcz14_0 := cz0_ BK287.out; have hcz14_1 := cz1_ BK287.out; have hfz14_0 := kD_ BK287.out 0; have hfz14_1 := kD_ BK287.out 1) | (go_at_call 139; (with_reducible refine (Z10.calls k _ _ l0_0 _ _ l0_1 _ _ l1 t288 false _ ?side1 ?side2 ?side3 ?side4 ?side5 ?side6 A3.out).mono ?_); (case side1 => repeat (first | exact (cD_ HR0_0.out HB.out) | (with_reducible first | refine cA_ ?_ _ | refine cB_ ?_ _ | refine cC_ ?_))); (case side2 => exact HC0_0.out); (case side3 => repeat (first | exact (cD_ HR0_1.out HB.out) | (with_reducible first | refine cA_ ?_ _ | refine cB_ ?_ _ | refine cC_ ?_))); (case side4 => exact HC0_1.out); (case side5 => repeat (first | exact (cD_ HR1.out HB.out) | (with_reducible first | refine cA_ ?_ _ | refine cB_ ?_ _ | refine cC_ ?_))); (case side6 => exact HC1.out); rintro e w15 ⟨v289, rfl, ho0, hb⟩; have n0_ := A_ (rE_ ho0 (bF_ (by repeat (first | (with_reducible first | exact HB.out | apply bA_ | apply bB_ | apply bC_ | refine bD_ ?_ GE287.out) | exact HB.out)))); have n1_ := A_ (kE_ (g := gb287) (by (with_reducible repeat (first | refine kA_ ?_ _ | refine kB_ ?_ | refine kC_ ?_ _)); exact BK287.out) hb); have n2_ := A_ (bE_ (by repeat (first | (with_reducible first | exact HB.out | apply bA_ | apply bB_ | apply bC_ | refine bD_ ?_ GE287.out) | exact HB.out)) hb); clear BK287; clear HB; have HO290 := n0_; have BK287 := n1_; have HB := n2_; clear n0_ n1_ n2_; (try clear hb); (try clear hb2); (try clear hk); (try clear hi); (try clear ho0)))
  repeat (go_quiet (first | ((with_reducible refine gB_ (N := 2) rfl ?_); refine xA_ ?hg (N := 2) ?hd (cs := #[.slice A0_0 l0_0.length c0_0, .slice A0_1 l0_1.length c0_1]) (t := 27) ?hr ?_; (case hd => rfl); (case hg => rfl); (case hr => first | (go_simp; done) | (go_simp; rfl)); intro gb287 hg w13 hbox hb; have n0_ := A_ (bE_ (by repeat (first | (with_reducible first | exact HB.out | apply bA_ | apply bB_ | apply bC_) | exact HB.out)) hb); have n1_ := A_ (hbox); have n2_ := A_ ((by rw [hg]; exact (bF_ (by repeat (first | (with_reducible first | exact HB.out | apply bA_ | apply bB_ | apply bC_) | exact HB.out))) : w.heap.size ≤ gb287)); have n3_ := A_ ((by rw [hg]; exact (bF_ (by repeat (first | (with_reducible first | exact HB.out | apply bA_ | apply bB_ | apply bC_) | exact HB.out))) : w.heap.size ≤ gb287)); clear HB; have HB := n0_; have BK287 := n1_; have GW287 := n2_; have GE287 := n3_; clear n0_ n1_ n2_ n3_; clear hb hbox hg; have hcz14_0 := cz0_ BK287.out; have hcz14_1 := cz1_ BK287.out; have hfz14_0 := kD_ BK287.out 0; have hfz14_1 := kD_ BK287.out 1) | (go_at_call 139; (with_reducible refine (Z10.calls k _ _ l0_0 _ _ l0_1 _ _ l1 t288 false _ ?side1 ?side2 ?side3 ?side4 ?side5 ?side6 A3.out).mono ?_); (case side1 => repeat (first | exact (cD_ HR0_0.out HB.out) | (with_reducible first | refine cA_ ?_ _ | refine cB_ ?_ _ | refine cC_ ?_))); (case side2 => exact HC0_0.out); (case side3 => repeat (first | exact (cD_ HR0_1.out HB.out) | (with_reducible first | refine cA_ ?_ _ | refine cB_ ?_ _ | refine cC_ ?_))); (case side4 => exact HC0_1.out); (case side5 => repeat (first | exact (cD_ HR1.out HB.out) | (with_reducible first | refine cA_ ?_ _ | refine cB_ ?_ _ | refine cC_ ?_))); (case side6 => exact HC1.out); rintro e w15 ⟨v289, rfl, ho0, hb⟩; have n0_ := A_ (rE_ ho0 (bF_ (by repeat (first | (with_reducible first | exact HB.out | apply bA_ | apply bB_ | apply bC_ | refine bD_ ?_ GE287.out) | exact HB.out)))); have n1_ := A_ (kE_ (g := gb287) (by (with_reducible repeat (first | refine kA_ ?_ _ | refine kB_ ?_ | refine kC_ ?_ _)); exact BK287.out) hb); have n2_ := A_ (bE_ (by repeat (first | (with_reducible first | exact HB.out | apply bA_ | apply bB_ | apply bC_ | refine bD_ ?_ GE287.out) | exact HB.out)) hb); clear BK287; clear HB; have HO290 := n0_; have BK287 := n1_; have HB := n2_; clear n0_ n1_ n2_; (try clear hb); (try clear hb2); (try clear hk); (try clear hi); (try clear ho0))); try go_wp2_with (first | ((with_reducible refine gB_ (N := 2) rfl ?_); refine xA_ ?hg (N := 2) ?hd (cs := #[.slice A0_0 l0_0.length c0_0, .slice A0_1 l0_1.length c0_1]) (t := 27) ?hr ?_; (case hd => rfl); (case hg => rfl); (case hr => first | (go_simp; done) | (go_simp; rfl)); intro gb287 hg w13 hbox hb; have n0_ := A_ (bE_ (by repeat (first | (with_reducible first | exact HB.out | apply bA_ | apply bB_ | apply bC_) | exact HB.out)) hb); have n1_ := A_ (hbox); have n2_ := A_ ((by rw [hg]; exact (bF_ (by repeat (first | (with_reducible first | exact HB.out | apply bA_ | apply bB_ | apply bC_) | exact HB.out))) : w.heap.size ≤ gb287)); have n3_ := A_ ((by rw [hg]; exact (bF_ (by repeat (first | (with_reducible first | exact HB.out | apply bA_ | apply bB_ | apply bC_) | exact HB.out))) : w.heap.size ≤ gb287)); clear HB; have HB := n0_; have BK287 := n1_; have GW287 := n2_; have GE287 := n3_; clear n0_ n1_ n2_ n3_; clear hb hbox hg; have hcz14_0 := cz0_ BK287.out; have hcz14_1 := cz1_ BK287.out; have hfz14_0 := kD_ BK287.out 0; have hfz14_1 := kD_ BK287.out 1) | (go_at_call 139; (with_reducible refine (Z10.calls k _ _ l0_0 _ _ l0_1 _ _ l1 t288 false _ ?side1 ?side2 ?side3 ?side4 ?side5 ?side6 A3.out).mono ?_); (case side1 => repeat (first | exact (cD_ HR0_0.out HB.out) | (with_reducible first | refine cA_ ?_ _ | refine cB_ ?_ _ | refine cC_ ?_))); (case side2 => exact HC0_0.out); (case side3 => repeat (first | exact (cD_ HR0_1.out HB.out) | (with_reducible first | refine cA_ ?_ _ | refine cB_ ?_ _ | refine cC_ ?_))); (case side4 => exact HC0_1.out); (case side5 => repeat (first | exact (cD_ HR1.out HB.out) | (with_reducible first | refine cA_ ?_ _ | refine cB_ ?_ _ | refine cC_ ?_))); (case side6 => exact HC1.out); rintro e w15 ⟨v289, rfl, ho0, hb⟩; have n0_ := A_ (rE_ ho0 (bF_ (by repeat (first | (with_reducible first | exact HB.out | apply bA_ | apply bB_ | apply bC_ | refine bD_ ?_ GE287.out) | exact HB.out)))); have n1_ := A_ (kE_ (g := gb287) (by (with_reducible repeat (first | refine kA_ ?_ _ | refine kB_ ?_ | refine kC_ ?_ _)); exact BK287.out) hb); have n2_ := A_ (bE_ (by repeat (first | (with_reducible first | exact HB.out | apply bA_ | apply bB_ | apply bC_ | refine bD_ ?_ GE287.out) | exact HB.out)) hb); clear BK287; clear HB; have HO290 := n0_; have BK287 := n1_; have HB := n2_; clear n0_ n1_ n2_; (try clear hb); (try clear hb2); (try clear hk); (try clear hi); (try clear ho0))))
  go_ret
  exact ⟨by first | rfl | (simp [errW_none, errW_some] <;> rfl) | (simp [*, errW_none, errW_some] <;> rfl), by repeat (first | (with_reducible first | exact HB.out | apply bA_ | apply bB_ | apply bC_ | refine bD_ ?_ GE287.out) | exact HB.out)⟩
def Z4.j0 : Nat → List Int → Bool → List Int → List Int → Option (Int)
 | 0, _, _, _, _ => none
 | k + 1, x1, x18, x297000, x297001 => if x18 = true then (some (-1)) else ((Z31.f k x297000 x297001).bind fun t305 => ((Z13.f k x297000 x297001 x1).bind fun t306 => (some (wrap64 (Int.tdiv (wrap64 ((wrap64 ((wrap64 (2 * t305)) + 2)) - t306)) 4)))))
def Z4.f (k : Nat) (l0_0 : List Int) (l0_1 : List Int) (l1 : List Int) : Option (Int) := (Z42.f k l0_0 l0_1 l1).bind fun t297 => (if t297 = true then ((Z33.f k l1 l1).bind fun t298 => ((Z11.f k (l1.length : Int)).bind fun t301 => ((Z27.f k t298 t301).bind fun t304 => (Z4.j0 k l1 (!t304) l0_0 l0_1)))) else (Z4.j0 k l1 true l0_0 l0_1))
theorem Z4.mono_l : ∀ k, (∀ y0 y1 y2 y3, LeO (Z4.j0 k y0 y1 y2 y3) (Z4.j0 (k + 1) y0 y1 y2 y3))
 | 0 => fun _ _ _ _ r h => by simp [Z4.j0] at h
 | k + 1 => by
  have ih0 := Z4.mono_l k
  ·intro y0 y1 y2 y3
   unfold Z4.j0
   repeat' first
   | (with_reducible exact ih0 _ _ _ _)
   | (with_reducible exact Z13.mono _ _ _ _)
   | (with_reducible exact Z31.mono _ _ _)
   | (with_reducible exact Z42.mono _ _ _ _)
   | (with_reducible exact Z27.mono _ _ _)
   | (with_reducible exact Z11.mono _ _)
   | (with_reducible exact Z33.mono _ _ _)
   | (with_reducible exact LeO.refl _)
   | (with_reducible exact LeO.none _)
   | (with_reducible refine LeO.ite ?_ ?_)
   | (with_reducible refine LeO.bind ?_ (fun _ => ?_))
   | exact ih0 _ _ _ _
   | exact Z13.mono _ _ _ _
   | exact Z31.mono _ _ _
   | exact Z42.mono _ _ _ _
   | exact Z27.mono _ _ _
   | exact Z11.mono _ _
   | exact Z33.mono _ _ _
   | exact LeO.none _
   | refine LeO.ite ?_ ?_
   | refine LeO.bind ?_ (fun _ => ?_)
theorem Z4.mono : ∀ a0 a1 a2 k, LeO (Z4.f k a0 a1 a2) (Z4.f (k + 1) a0 a1 a2) := by
 intro a0 a1 a2 k
 have ih0 := Z4.mono_l k
 unfold Z4.f
 repeat' first
   | (with_reducible exact ih0 _ _ _ _)
   | (with_reducible exact Z13.mono _ _ _ _)
   | (with_reducible exact Z31.mono _ _ _)
   | (with_reducible exact Z42.mono _ _ _ _)
   | (with_reducible exact Z27.mono _ _ _)
   | (with_reducible exact Z11.mono _ _)
   | (with_reducible exact Z33.mono _ _ _)
   | (with_reducible exact LeO.refl _)
   | (with_reducible exact LeO.none _)
   | (with_reducible refine LeO.ite ?_ ?_)
   | (with_reducible refine LeO.bind ?_ (fun _ => ?_))
   | exact ih0 _ _ _ _
   | exact Z13.mono _ _ _ _
   | exact Z31.mono _ _ _
   | exact Z42.mono _ _ _ _
   | exact Z27.mono _ _ _
   | exact Z11.mono _ _
   | exact Z33.mono _ _ _
   | exact LeO.none _
   | refine LeO.ite ?_ ?_
   | refine LeO.bind ?_ (fun _ => ?_)
def Z4.T3 : Bool × List (List Nat × List Nat) := (true, [([], []), ([0], [0]), ([1], [1]), ([2], [2]), ([], []), ([], []), ([4, 5, 1], [4, 5]), ([3, 6], [3, 6]), ([7], [7]), ([8, 6, 0, 1, 2, 3, 4, 5, 6, 7, 8], [8])])
def Z4.B3 : List Nat := [0, 1, 3, 7, 0, 0, 51, 127, 255, 511]
theorem Z4.tab3 : rtab .any (opsOf Try.f59 3) = Z4.T3 := by kernel_rfl
theorem Z4.bits3 : waitsOk Z4.T3.2 Z4.B3 = true := by kernel_rfl
set_option maxHeartbeats 8000000 in
set_option maxRecDepth 100000 in
theorem Z4.calls (k : Nat) (A0_0 : Option Addr) (c0_0 : Nat) (l0_0 : List Int) (A0_1 : Option Addr) (c0_1 : Nat) (l0_1 : List Int) (A1 : Option Addr) (c1 : Nat) (l1 : List Int) (r : Int) (w : World) (hr0_0 : Kd.C (Kd.int .i64) w A0_0 l0_0.length l0_0) (hc0_0 : l0_0.length ≤ c0_0) (hr0_1 : Kd.C (Kd.int .i64) w A0_1 l0_1.length l0_1) (hc0_1 : l0_1.length ≤ c0_1) (hr1 : Kd.C (Kd.int .i64) w A1 l1.length l1) (hc1 : l1.length ≤ c1) (h : Z4.f k l0_0 l0_1 l1 = some r) :
  Calls Try.prog 59 #[.agg #[.slice A0_0 l0_0.length c0_0, .slice A0_1 l0_1.length c0_1], .slice A1 l1.length c1] w fun e w' => e = .returned (.int .i64 r) ∧ Below w.heap.size w w' := by
 have hu27 := Try.underlying27
 have HR0_0 := A_ hr0_0
 have HC0_0 := A_ hc0_0
 clear hr0_0 hc0_0
 have HR0_1 := A_ hr0_1
 have HC0_1 := A_ hc0_1
 clear hr0_1 hc0_1
 have HR1 := A_ hr1
 have HC1 := A_ hc1
 clear hr1 hc1
 have HB := A_ (Below.refl w.heap.size w)
 have H : ((Z42.f k l0_0 l0_1 l1).bind fun t297 => (if t297 = true then ((Z33.f k l1 l1).bind fun t298 => ((Z11.f k (l1.length : Int)).bind fun t301 => ((Z27.f k t298 t301).bind fun t304 => (Z4.j0 k l1 (!t304) l0_0 l0_1)))) else (Z4.j0 k l1 true l0_0 l0_1))) = some r := h
 clear h
 have HC3 := A_ H
 clear H
 go_enter Try.func59, Try.ntmps59
 go_upto_region 1 with (first | ((with_reducible refine gB_ (N := 2) rfl ?_); (try (refine gate_guard (by rfl) ?_; dsimp only)); refine xA_ ?hg (N := 2) ?hd (cs := #[.slice A0_0 l0_0.length c0_0, .slice A0_1 l0_1.length c0_1]) (t := 27) ?hr ?_; (case hd => rfl); (case hg => rfl); (case hr => first | (go_simp; done) | (go_simp; rfl)); intro gb296 hg w4 hbox hb; have n0_ := A_ (bE_ (by repeat (first | (with_reducible first | exact HB.out | apply bA_ | apply bB_ | apply bC_) | exact HB.out)) hb); have n1_ := A_ (hbox); have n2_ := A_ ((by rw [hg]; exact (bF_ (by repeat (first | (with_reducible first | exact HB.out | apply bA_ | apply bB_ | apply bC_) | exact HB.out))) : w.heap.size ≤ gb296)); have n3_ := A_ ((by rw [hg]; exact (bF_ (by repeat (first | (with_reducible first | exact HB.out | apply bA_ | apply bB_ | apply bC_) | exact HB.out))) : w.heap.size ≤ gb296)); clear HB; have HB := n0_; have BK296 := n1_; have GW296 := n2_; have GE296 := n3_; clear n0_ n1_ n2_ n3_; clear hb hbox hg))
 (try simp only [Act.put, sA_, sB_, sC_])
 go_cut [18] (fun v18 wc => ∃ (kq : Nat) (x18_2 : Bool), v18 = .bool x18_2 ∧ Aside0 (Z4.j0 kq l1 x18_2 l0_0 l0_1 = some r) ∧ Aside0 (kq ≤ k) ∧ Aside0 (wc.heap[gb296]? = some (.cells #[(.slice A0_0 l0_0.length c0_0), (.slice A0_1 l0_1.length c0_1)] 27 (0, 0))) ∧ Aside0 (Below w.heap.size w wc))
 case first =>
  have H := HC3.out
  clear HC3
  replace H := Option.bind_eq_some_iff.mp H
  obtain ⟨t297, A50, H⟩ := H
  replace H : (if t297 = true then ((Z33.f k l1 l1).bind fun t298 => ((Z11.f k (l1.length : Int)).bind fun t301 => ((Z27.f k t298 t301).bind fun t304 => (Z4.j0 k l1 (!t304) l0_0 l0_1)))) else (Z4.j0 k l1 true l0_0 l0_1)) = some r := H
  have A5 := A_ A50
  clear A50
  by_cases c6 : t297 = true
  ·subst c6
   have H1 : ((Z33.f k l1 l1).bind fun t298 => ((Z11.f k (l1.length : Int)).bind fun t301 => ((Z27.f k t298 t301).bind fun t304 => (Z4.j0 k l1 (!t304) l0_0 l0_1)))) = some r := by rw [if_pos rfl] at H; exact H
   clear H
   have H := H1
   clear H1
   replace H := Option.bind_eq_some_iff.mp H
   obtain ⟨t298, A70, H⟩ := H
   replace H : ((Z11.f k (l1.length : Int)).bind fun t301 => ((Z27.f k t298 t301).bind fun t304 => (Z4.j0 k l1 (!t304) l0_0 l0_1))) = some r := H
   have A7 := A_ A70
   clear A70
   replace H := Option.bind_eq_some_iff.mp H
   obtain ⟨t301, A80, H⟩ := H
   replace H : ((Z27.f k t298 t301).bind fun t304 => (Z4.j0 k l1 (!t304) l0_0 l0_1)) = some r := H
   have A8 := A_ A80
   clear A80
   replace H := Option.bind_eq_some_iff.mp H
   obtain ⟨t304, A90, H⟩ := H
   replace H : (Z4.j0 k l1 (!t304) l0_0 l0_1) = some r := H
   have A9 := A_ A90
   clear A90
   have H' := A_ H
   clear H
   have hcz10_0 := cz0_ BK296.out
   have hcz10_1 := cz1_ BK296.out
   have hfz10_0 := kD_ BK296.out 0
   have hfz10_1 := kD_ BK296.out 1
   go_wp2_with (first | ((with_reducible refine gA_ (f := 100) rfl ?_); refine goesL_ (some 7) rfl rfl Try.func100 (by kernel_rfl) rfl #[.agg #[.slice A0_0 l0_0.length c0_0, .slice A0_1 l0_1.length c0_1], .slice A1 l1.length c1] rfl (by (try simp only [mA_, mB_, mC_]); first | done | rfl | (simp only [lA_, lB_]; rfl)) ?_; (with_reducible refine (Z42.calls k _ _ l0_0 _ _ l0_1 _ _ l1 true _ ?side1 ?side2 ?side3 ?side4 ?side5 ?side6 A5.out).mono ?_); (case side1 => repeat (first | exact (cD_ HR0_0.out HB.out) | (with_reducible first | refine cA_ ?_ _ | refine cB_ ?_ _ | refine cC_ ?_))); (case side2 => exact HC0_0.out); (case side3 => repeat (first | exact (cD_ HR0_1.out HB.out) | (with_reducible first | refine cA_ ?_ _ | refine cB_ ?_ _ | refine cC_ ?_))); (case side4 => exact HC0_1.out); (case side5 => repeat (first | exact (cD_ HR1.out HB.out) | (with_reducible first | refine cA_ ?_ _ | refine cB_ ?_ _ | refine cC_ ?_))); (case side6 => exact HC1.out); rintro e w11 ⟨rfl, hb⟩; refine ⟨_, rfl, ?_⟩; have n0_ := A_ (kE_ (g := gb296) (by (with_reducible repeat (first | refine kA_ ?_ _ | refine kB_ ?_ | refine kC_ ?_ _)); exact BK296.out) hb); have n1_ := A_ (bE_ (by repeat (first | (with_reducible first | exact HB.out | apply bA_ | apply bB_ | apply bC_ | refine bD_ ?_ GE296.out) | exact HB.out)) hb); clear BK296; clear HB; have BK296 := n0_; have HB := n1_; clear n0_ n1_; (try clear hb); (try clear hb2); (try clear hk); (try clear hi)) | (go_at_call 102; (with_reducible refine (Z33.calls k _ _ l1 _ _ l1 t298 _ ?side1 ?side2 ?side3 ?side4 A7.out).mono ?_); (case side1 => repeat (first | exact (cD_ HR1.out HB.out) | (with_reducible first | refine cA_ ?_ _ | refine cB_ ?_ _ | refine cC_ ?_))); (case side2 => exact HC1.out); (case side3 => repeat (first | exact (cD_ HR1.out HB.out) | (with_reducible first | refine cA_ ?_ _ | refine cB_ ?_ _ | refine cC_ ?_))); (case side4 => exact HC1.out); rintro e w12 ⟨v299, rfl, ho0, hb⟩; have n0_ := A_ (rE_ ho0 (bF_ (by repeat (first | (with_reducible first | exact HB.out | apply bA_ | apply bB_ | apply bC_ | refine bD_ ?_ GE296.out) | exact HB.out)))); have n1_ := A_ (kE_ (g := gb296) (by (with_reducible repeat (first | refine kA_ ?_ _ | refine kB_ ?_ | refine kC_ ?_ _)); exact BK296.out) hb); have n2_ := A_ (bE_ (by repeat (first | (with_reducible first | exact HB.out | apply bA_ | apply bB_ | apply bC_ | refine bD_ ?_ GE296.out) | exact HB.out)) hb); clear BK296; clear HB; have HO300 := n0_; have BK296 := n1_; have HB := n2_; clear n0_ n1_ n2_; (try clear hb); (try clear hb2); (try clear hk); (try clear hi); (try clear ho0)) | (go_at_call 103; (with_reducible refine (Z11.calls k (l1.length : Int) t301 _ A8.out).mono ?_); rintro e w13 ⟨v302, rfl, ho0, hb⟩; have n0_ := A_ (Kd.R_elder' (by (with_reducible repeat (first | apply rA_ | apply rB_ | apply rC_)); exact HO300.out) (Kd.R_base ho0) hb); have n1_ := A_ (rE_ (Kd.R_new' ho0 (Kd.R_lt (by (with_reducible repeat (first | apply rA_ | apply rB_ | apply rC_)); exact HO300.out))) (bF_ (by repeat (first | (with_reducible first | exact HB.out | apply bA_ | apply bB_ | apply bC_ | refine bD_ ?_ GE296.out) | exact HB.out)))); have n2_ := A_ (kE_ (g := gb296) (by (with_reducible repeat (first | refine kA_ ?_ _ | refine kB_ ?_ | refine kC_ ?_ _)); exact BK296.out) hb); have n3_ := A_ (bE_ (by repeat (first | (with_reducible first | exact HB.out | apply bA_ | apply bB_ | apply bC_ | refine bD_ ?_ GE296.out) | exact HB.out)) hb); clear HO300; clear BK296; clear HB; have HO300 := n0_; have HO303 := n1_; have BK296 := n2_; have HB := n3_; clear n0_ n1_ n2_ n3_; (try clear hb); (try clear hb2); (try clear hk); (try clear hi); (try clear ho0); obtain ⟨Ao14, co14, eo14⟩ := Kd.R_slice HO300.out; subst eo14; obtain ⟨Ao15, co15, eo15⟩ := Kd.R_slice HO303.out; subst eo15) | (go_at_call 101; (with_reducible refine (Z27.calls k _ _ t298 _ _ t301 t304 _ ?side1 ?side2 ?side3 ?side4 A9.out).mono ?_); (case side1 => repeat (first | exact (Kd.R_reads' HO300.out).2.2 | (with_reducible first | refine cA_ ?_ _ | refine cB_ ?_ _ | refine cC_ ?_))); (case side2 => exact (Kd.R_reads' HO300.out).2.1); (case side3 => repeat (first | exact (Kd.R_reads' HO303.out).2.2 | (with_reducible first | refine cA_ ?_ _ | refine cB_ ?_ _ | refine cC_ ?_))); (case side4 => exact (Kd.R_reads' HO303.out).2.1); rintro e w' ⟨rfl, ⟨nd, rfl⟩⟩))
   go_meet
   case rel => exact ⟨_, (!t304), (by first | rfl | (simp; done) | (simp [*]; done)), H', ⟨by first | omega | exact nA_ _⟩, ⟨by (with_reducible repeat (first | refine kA_ ?_ _ | refine kB_ ?_ | refine kC_ ?_ _)); exact BK296.out⟩, ⟨by repeat (first | (with_reducible first | exact HB.out | apply bA_ | apply bB_ | apply bC_ | refine bD_ ?_ GE296.out) | exact HB.out)⟩⟩
  ·replace c6 := Bool.eq_false_iff.mpr c6
   subst c6
   have H1 : (Z4.j0 k l1 true l0_0 l0_1) = some r := by rw [if_neg (show ¬ (false = true) by decide)] at H; exact H
   clear H
   have H := H1
   clear H1
   have H' := A_ H
   clear H
   have hcz16_0 := cz0_ BK296.out
   have hcz16_1 := cz1_ BK296.out
   have hfz16_0 := kD_ BK296.out 0
   have hfz16_1 := kD_ BK296.out 1
   go_wp2_with (first | ((with_reducible refine gA_ (f := 100) rfl ?_); refine goesL_ (some 7) rfl rfl Try.func100 (by kernel_rfl) rfl #[.agg #[.slice A0_0 l0_0.length c0_0, .slice A0_1 l0_1.length c0_1], .slice A1 l1.length c1] rfl (by (try simp only [mA_, mB_, mC_]); first | done | rfl | (simp only [lA_, lB_]; rfl)) ?_; (with_reducible refine (Z42.calls k _ _ l0_0 _ _ l0_1 _ _ l1 false _ ?side1 ?side2 ?side3 ?side4 ?side5 ?side6 A5.out).mono ?_); (case side1 => repeat (first | exact (cD_ HR0_0.out HB.out) | (with_reducible first | refine cA_ ?_ _ | refine cB_ ?_ _ | refine cC_ ?_))); (case side2 => exact HC0_0.out); (case side3 => repeat (first | exact (cD_ HR0_1.out HB.out) | (with_reducible first | refine cA_ ?_ _ | refine cB_ ?_ _ | refine cC_ ?_))); (case side4 => exact HC0_1.out); (case side5 => repeat (first | exact (cD_ HR1.out HB.out) | (with_reducible first | refine cA_ ?_ _ | refine cB_ ?_ _ | refine cC_ ?_))); (case side6 => exact HC1.out); rintro e w17 ⟨rfl, hb⟩; refine ⟨_, rfl, ?_⟩; have n0_ := A_ (kE_ (g := gb296) (by (with_reducible repeat (first | refine kA_ ?_ _ | refine kB_ ?_ | refine kC_ ?_ _)); exact BK296.out) hb); have n1_ := A_ (bE_ (by repeat (first | (with_reducible first | exact HB.out | apply bA_ | apply bB_ | apply bC_ | refine bD_ ?_ GE296.out) | exact HB.out)) hb); clear BK296; clear HB; have BK296 := n0_; have HB := n1_; clear n0_ n1_; (try clear hb); (try clear hb2); (try clear hk); (try clear hi)))
   go_meet
   case rel => exact ⟨_, (true), (by first | rfl | (simp; done) | (simp [*]; done)), H', ⟨by first | omega | exact nA_ _⟩, ⟨by (with_reducible repeat (first | refine kA_ ?_ _ | refine kB_ ?_ | refine kC_ ?_ _)); exact BK296.out⟩, ⟨by repeat (first | (with_reducible first | exact HB.out | apply bA_ | apply bB_ | apply bC_ | refine bD_ ?_ GE296.out) | exact HB.out)⟩⟩
 case rest =>
  clear HC3
  (try clear c1); (try clear p2); (try clear c5); (try clear c6); (try clear c10); (try clear hcz10_0); (try clear hcz10_1); (try clear hcz16_0); (try clear hcz16_1); (try clear hfz10_0); (try clear hfz10_1); (try clear hfz16_0); (try clear hfz16_1)
  obtain ⟨kq, x18_2, rfl, HA, HJ2, BK296, HB⟩ := hcut
  cases kq with
  | zero => exact absurd HA.out (by simp [Z4.j0])
  | succ kj2 =>
   have H := HA.out
   clear HA
   simp only [Z4.j0] at H
   by_cases c18 : x18_2 = true
   ·subst c18
    have H1 : (some (-1)) = some r := by rw [if_pos rfl] at H; exact H
    clear H
    have H := H1
    clear H1
    obtain rfl := Option.some.inj H
    go_wp2
    go_ret
    exact ⟨by first | rfl | (simp [errW_none, errW_some] <;> rfl) | (simp [*, errW_none, errW_some] <;> rfl), by repeat (first | (with_reducible first | exact HB.out | apply bA_ | apply bB_ | apply bC_ | refine bD_ ?_ GE296.out) | exact HB.out)⟩
   ·replace c18 := Bool.eq_false_iff.mpr c18
    subst c18
    have H1 : ((Z31.f kj2 l0_0 l0_1).bind fun t305 => ((Z13.f kj2 l0_0 l0_1 l1).bind fun t306 => (some (wrap64 (Int.tdiv (wrap64 ((wrap64 ((wrap64 (2 * t305)) + 2)) - t306)) 4))))) = some r := by rw [if_neg (show ¬ (false = true) by decide)] at H; exact H
    clear H
    have H := H1
    clear H1
    replace H := Option.bind_eq_some_iff.mp H
    obtain ⟨t305, A190, H⟩ := H
    replace H : ((Z13.f kj2 l0_0 l0_1 l1).bind fun t306 => (some (wrap64 (Int.tdiv (wrap64 ((wrap64 ((wrap64 (2 * t305)) + 2)) - t306)) 4)))) = some r := H
    have A19 := A_ A190
    clear A190
    replace H := Option.bind_eq_some_iff.mp H
    obtain ⟨t306, A200, H⟩ := H
    replace H : (some (wrap64 (Int.tdiv (wrap64 ((wrap64 ((wrap64 (2 * t305)) + 2)) - t306)) 4))) = some r := H
    have A20 := A_ A200
    clear A200
    obtain rfl := Option.some.inj H
    try go_wp2
    have n0_ := A_ (kB_ BK296.out)
    have n1_ := A_ (bC_ HB.out)
    clear BK296
    clear HB
    have BK296 := n0_
    have HB := n1_
    clear n0_ n1_
    refine start_ (n := 10) (S := fun w' => w'.cell? ⟨gb296, 0, none⟩ = some (.slice A0_0 l0_0.length c0_0) ∧ w'.cell? ⟨gb296, 1, none⟩ = some (.slice A0_1 l0_1.length c0_1)) (ds := []) #[false, false, false, false, false, false, false, false, false, false] (by kernel_rfl) rfl rfl ⟨(blk_cell BK296.out 0).trans rfl, (blk_cell BK296.out 1).trans rfl⟩ (fun hHeld => ?_); refine with_tabW Z4.tab3 Z4.bits3 (fun HT_ HW_ => ?_)
    generalize wc.drew = w21 at BK296 HB hHeld ⊢
    refine pure_ (i := 5) (N := some 24) (v := ?_) (a' := ?_) #[false, false, false, false, false, true, false, false, false, false] rfl rfl (any_of HT_.out (by kernel_rfl)) (fun _ _ _ h => h) (Or.inl ⟨by rfl, ?_⟩) ?_ ?_
    rotate_left
    ·intro w'
     go_simp
     with_reducible rfl
    rotate_left
    ·simp only [Act.put, sA_, sB_, sC_, i64_w, i32_w]
     rfl
    refine take_ (i := 0) (N := some 19) (v := ?_) (a' := ?_) #[true, false, false, false, false, true, false, false, false, false] rfl rfl (take_ofW HT_.out HW_.out (by kernel_rfl)) (fun _ _ _ h => h) (Or.inl ⟨by rfl, ?_⟩) hHeld ?_ ?_
    rotate_left
    ·rintro w' ⟨s0, s1⟩
     go_simp
     with_reducible rfl
    rotate_left
    ·simp only [Act.put, sA_, sB_, sC_, i64_w, i32_w]
     rfl
    refine take_ (i := 4) (N := some 23) (v := ?_) (a' := ?_) #[true, false, false, false, true, true, false, false, false, false] rfl rfl (take_ofW HT_.out HW_.out (by kernel_rfl)) (fun _ _ _ h => h) (Or.inl ⟨by rfl, ?_⟩) hHeld ?_ ?_
    rotate_left
    ·rintro w' ⟨s0, s1⟩
     go_simp
     with_reducible rfl
    rotate_left
    ·simp only [Act.put, sA_, sB_, sC_, i64_w, i32_w]
     rfl
    refine one_ (i := 1) (N := some 20) #[true, true, false, false, true, true, false, false, false, false] rfl rfl (one_of HT_.out (by kernel_rfl)) (by decide) (fun K hK => ?_)
    refine goes_ Try.func104 (by kernel_rfl) rfl #[.agg #[.slice A0_0 l0_0.length c0_0, .slice A0_1 l0_1.length c0_1]] (by rfl) rfl rfl (by (try simp only [mA_, mB_, mC_]); first | done | rfl | (simp only [lA_, lB_]; rfl)) ?_
    with_reducible refine (Z31.calls kj2 _ _ l0_0 _ _ l0_1 t305 _ ?side1 ?side2 ?side3 ?side4 A19.out).mono ?_
    (case side1 => repeat (first | exact (cD_ HR0_0.out HB.out) | (with_reducible first | refine cA_ ?_ _ | refine cB_ ?_ _ | refine cC_ ?_)))
    (case side2 => exact HC0_0.out)
    (case side3 => repeat (first | exact (cD_ HR0_1.out HB.out) | (with_reducible first | refine cA_ ?_ _ | refine cB_ ?_ _ | refine cC_ ?_)))
    (case side4 => exact HC0_1.out)
    rintro e w22 ⟨rfl, hb⟩
    refine ⟨_, rfl, ?_⟩
    have n0_ := A_ (kE_ (g := gb296) (by (with_reducible repeat (first | refine kA_ ?_ _ | refine kB_ ?_ | refine kC_ ?_ _)); exact BK296.out) hb)
    have n1_ := A_ (bE_ (by repeat (first | (with_reducible first | exact HB.out | apply bA_ | apply bB_ | apply bC_ | refine bD_ ?_ GE296.out) | exact HB.out)) hb)
    clear BK296
    clear HB
    have BK296 := n0_
    have HB := n1_
    clear n0_ n1_
    (try clear hb)
    (try clear hb2)
    (try clear hk)
    (try clear hi)
    refine hK.out _ _ ⟨(blk_cell BK296.out 0).trans rfl, (blk_cell BK296.out 1).trans rfl⟩ (fun hHeld => ?_)
    clear hK K
    refine norm_ (a' := ?_) ?_ ?_
    rotate_left
    ·show Act.put _ (some 20) _ = _
     simp only [Act.put, sA_, sB_, sC_, i64_w, i32_w]
     rfl
    refine pure_ (i := 2) (N := some 21) (v := ?_) (a' := ?_) #[true, true, true, false, true, true, false, false, false, false] rfl rfl (any_of HT_.out (by kernel_rfl)) (fun _ _ _ h => h) (Or.inl ⟨by rfl, ?_⟩) ?_ ?_
    rotate_left
    ·intro w'
     go_simp
     with_reducible rfl
    rotate_left
    ·simp only [Act.put, sA_, sB_, sC_, i64_w, i32_w]
     rfl
    refine pure_ (i := 3) (N := some 22) (v := ?_) (a' := ?_) #[true, true, true, true, true, true, false, false, false, false] rfl rfl (any_of HT_.out (by kernel_rfl)) (fun _ _ _ h => h) (Or.inl ⟨by rfl, ?_⟩) ?_ ?_
    rotate_left
    ·intro w'
     go_simp
     with_reducible rfl
    rotate_left
    ·simp only [Act.put, sA_, sB_, sC_, i64_w, i32_w]
     rfl
    refine one_ (i := 6) (N := some 25) #[true, true, true, true, true, true, true, false, false, false] rfl rfl (one_of HT_.out (by kernel_rfl)) (by decide) (fun K hK => ?_)
    refine goes_ Try.func105 (by kernel_rfl) rfl #[.agg #[.slice A0_0 l0_0.length c0_0, .slice A0_1 l0_1.length c0_1], .slice A1 l1.length c1] (by rfl) rfl rfl (by (try simp only [mA_, mB_, mC_]); first | done | rfl | (simp only [lA_, lB_]; rfl)) ?_
    with_reducible refine (Z13.calls kj2 _ _ l0_0 _ _ l0_1 _ _ l1 t306 _ ?side1 ?side2 ?side3 ?side4 ?side5 ?side6 A20.out).mono ?_
    (case side1 => repeat (first | exact (cD_ HR0_0.out HB.out) | (with_reducible first | refine cA_ ?_ _ | refine cB_ ?_ _ | refine cC_ ?_)))
    (case side2 => exact HC0_0.out)
    (case side3 => repeat (first | exact (cD_ HR0_1.out HB.out) | (with_reducible first | refine cA_ ?_ _ | refine cB_ ?_ _ | refine cC_ ?_)))
    (case side4 => exact HC0_1.out)
    (case side5 => repeat (first | exact (cD_ HR1.out HB.out) | (with_reducible first | refine cA_ ?_ _ | refine cB_ ?_ _ | refine cC_ ?_)))
    (case side6 => exact HC1.out)
    rintro e w23 ⟨rfl, hb⟩
    refine ⟨_, rfl, ?_⟩
    have n0_ := A_ (kE_ (g := gb296) (by (with_reducible repeat (first | refine kA_ ?_ _ | refine kB_ ?_ | refine kC_ ?_ _)); exact BK296.out) hb)
    have n1_ := A_ (bE_ (by repeat (first | (with_reducible first | exact HB.out | apply bA_ | apply bB_ | apply bC_ | refine bD_ ?_ GE296.out) | exact HB.out)) hb)
    clear BK296
    clear HB
    have BK296 := n0_
    have HB := n1_
    clear n0_ n1_
    (try clear hb)
    (try clear hb2)
    (try clear hk)
    (try clear hi)
    refine hK.out _ _ ⟨(blk_cell BK296.out 0).trans rfl, (blk_cell BK296.out 1).trans rfl⟩ (fun hHeld => ?_)
    clear hK K
    refine norm_ (a' := ?_) ?_ ?_
    rotate_left
    ·show Act.put _ (some 25) _ = _
     simp only [Act.put, sA_, sB_, sC_, i64_w, i32_w]
     rfl
    refine pure_ (i := 7) (N := some 26) (v := ?_) (a' := ?_) #[true, true, true, true, true, true, true, true, false, false] rfl rfl (any_of HT_.out (by kernel_rfl)) (fun _ _ _ h => h) (Or.inl ⟨by rfl, ?_⟩) ?_ ?_
    rotate_left
    ·intro w'
     go_simp
     with_reducible rfl
    rotate_left
    ·simp only [Act.put, sA_, sB_, sC_, i64_w, i32_w]
     rfl
    refine pure_ (i := 8) (N := some 27) (v := ?_) (a' := ?_) #[true, true, true, true, true, true, true, true, true, false] rfl rfl (any_of HT_.out (by kernel_rfl)) (fun _ _ _ h => h) (Or.inl ⟨by rfl, ?_⟩) ?_ ?_
    rotate_left
    ·intro w'
     go_simp
     with_reducible rfl
    rotate_left
    ·simp only [Act.put, sA_, sB_, sC_, i64_w, i32_w]
     rfl
    refine pure_ (i := 9) (N := some 4) (v := ?_) (a' := ?_) #[true, true, true, true, true, true, true, true, true, true] rfl rfl (any_of HT_.out (by kernel_rfl)) (fun _ _ _ h => h) (Or.inl ⟨by rfl, ?_⟩) ?_ ?_
    rotate_left
    ·intro w'
     go_simp
     with_reducible rfl
    rotate_left
    ·simp only [Act.put, sA_, sB_, sC_, i64_w, i32_w]
     rfl
    refine done_ (done_of HT_.out (by kernel_rfl)) ?_
    try go_wp2
    go_ret
    exact ⟨by first | rfl | (simp [errW_none, errW_some] <;> rfl) | (simp [*, errW_none, errW_some] <;> rfl), by repeat (first | (with_reducible first | exact HB.out | apply bA_ | apply bB_ | apply bC_ | refine bD_ ?_ GE296.out) | exact HB.out)⟩
def Z2.l0 : Nat → List (List Int) → Int → Int → List Int → List Int → Option (Bool)
 | 0, _, _, _, _, _ => none
 | k + 1, x6, x7, x8, x308000, x308001 => if x8 < x7 then (if 0 ≤ x8 then (if x8 < (x6.length : Int) then ((Z4.f k x308000 x308001 (rd_L1 x6 x8)).bind fun t312 => (if t312 = 0 then (some true) else (Z2.l0 k x6 x7 (wrap64 (x8 + 1)) x308000 x308001))) else (none)) else (none)) else (some false)
def Z2.f (k : Nat) (l0_0 : List Int) (l0_1 : List Int) : Option (Bool) := (Z32.f k l0_0 l0_1).bind fun t308 => (Z2.l0 k t308 (t308.length : Int) 0 l0_0 l0_1)
theorem Z2.mono_l : ∀ k, (∀ y0 y1 y2 y3 y4, LeO (Z2.l0 k y0 y1 y2 y3 y4) (Z2.l0 (k + 1) y0 y1 y2 y3 y4))
 | 0 => fun _ _ _ _ _ r h => by simp [Z2.l0] at h
 | k + 1 => by
  have ih0 := Z2.mono_l k
  ·intro y0 y1 y2 y3 y4
   unfold Z2.l0
   repeat' first
   | (with_reducible exact ih0 _ _ _ _ _)
   | (with_reducible exact Z4.mono _ _ _ _)
   | (with_reducible exact Z32.mono _ _ _)
   | (with_reducible exact LeO.refl _)
   | (with_reducible exact LeO.none _)
   | (with_reducible refine LeO.ite ?_ ?_)
   | (with_reducible refine LeO.bind ?_ (fun _ => ?_))
   | exact ih0 _ _ _ _ _
   | exact Z4.mono _ _ _ _
   | exact Z32.mono _ _ _
   | exact LeO.none _
   | refine LeO.ite ?_ ?_
   | refine LeO.bind ?_ (fun _ => ?_)
theorem Z2.mono : ∀ a0 a1 k, LeO (Z2.f k a0 a1) (Z2.f (k + 1) a0 a1) := by
 intro a0 a1 k
 have ih0 := Z2.mono_l k
 unfold Z2.f
 repeat' first
   | (with_reducible exact ih0 _ _ _ _ _)
   | (with_reducible exact Z4.mono _ _ _ _)
   | (with_reducible exact Z32.mono _ _ _)
   | (with_reducible exact LeO.refl _)
   | (with_reducible exact LeO.none _)
   | (with_reducible refine LeO.ite ?_ ?_)
   | (with_reducible refine LeO.bind ?_ (fun _ => ?_))
   | exact ih0 _ _ _ _ _
   | exact Z4.mono _ _ _ _
   | exact Z32.mono _ _ _
   | exact LeO.none _
   | refine LeO.ite ?_ ?_
   | refine LeO.bind ?_ (fun _ => ?_)
set_option maxHeartbeats 8000000 in
set_option maxRecDepth 100000 in
theorem Z2.calls (k : Nat) (A0_0 : Option Addr) (c0_0 : Nat) (l0_0 : List Int) (A0_1 : Option Addr) (c0_1 : Nat) (l0_1 : List Int) (r : Bool) (w : World) (hr0_0 : Kd.C (Kd.int .i64) w A0_0 l0_0.length l0_0) (hc0_0 : l0_0.length ≤ c0_0) (hr0_1 : Kd.C (Kd.int .i64) w A0_1 l0_1.length l0_1) (hc0_1 : l0_1.length ≤ c0_1) (h : Z2.f k l0_0 l0_1 = some r) :
  Calls Try.prog 15 #[.agg #[.slice A0_0 l0_0.length c0_0, .slice A0_1 l0_1.length c0_1]] w fun e w' => e = .returned (.bool r) ∧ Below w.heap.size w w' := by
 have hu27 := Try.underlying27
 have HR0_0 := A_ hr0_0
 have HC0_0 := A_ hc0_0
 clear hr0_0 hc0_0
 have HR0_1 := A_ hr0_1
 have HC0_1 := A_ hc0_1
 clear hr0_1 hc0_1
 have HB := A_ (Below.refl w.heap.size w)
 have H : ((Z32.f k l0_0 l0_1).bind fun t308 => (Z2.l0 k t308 (t308.length : Int) 0 l0_0 l0_1)) = some r := h
 clear h
 replace H := Option.bind_eq_some_iff.mp H
 obtain ⟨t308, A20, H⟩ := H
 replace H : (Z2.l0 k t308 (t308.length : Int) 0 l0_0 l0_1) = some r := H
 have A2 := A_ A20
 clear A20
 have H' := A_ H
 clear H
 go_enter Try.func15, Try.ntmps15
 go_wp2_with (first | ((with_reducible refine gB_ (N := 1) rfl ?_); refine xA_ ?hg (N := 1) ?hd (cs := #[.slice A0_0 l0_0.length c0_0, .slice A0_1 l0_1.length c0_1]) (t := 27) ?hr ?_; (case hd => rfl); (case hg => rfl); (case hr => first | (go_simp; done) | (go_simp; rfl)); intro gb307 hg w3 hbox hb; have n0_ := A_ (bE_ (by repeat (first | (with_reducible first | exact HB.out | apply bA_ | apply bB_ | apply bC_) | exact HB.out)) hb); have n1_ := A_ (hbox); have n2_ := A_ ((by rw [hg]; exact (bF_ (by repeat (first | (with_reducible first | exact HB.out | apply bA_ | apply bB_ | apply bC_) | exact HB.out))) : w.heap.size ≤ gb307)); have n3_ := A_ ((by rw [hg]; exact (bF_ (by repeat (first | (with_reducible first | exact HB.out | apply bA_ | apply bB_ | apply bC_) | exact HB.out))) : w.heap.size ≤ gb307)); clear HB; have HB := n0_; have BK307 := n1_; have GW307 := n2_; have GE307 := n3_; clear n0_ n1_ n2_ n3_; clear hb hbox hg; have hcz4_0 := cz0_ BK307.out; have hcz4_1 := cz1_ BK307.out; have hfz4_0 := kD_ BK307.out 0; have hfz4_1 := kD_ BK307.out 1) | ((with_reducible refine gA_ (f := 58) rfl ?_); refine goesL_ (some 6) rfl rfl Try.func58 (by kernel_rfl) rfl #[.agg #[.slice A0_0 l0_0.length c0_0, .slice A0_1 l0_1.length c0_1]] rfl (by (try simp only [mA_, mB_, mC_]); first | done | rfl | (simp only [lA_, lB_]; rfl)) ?_; (with_reducible refine (Z32.calls k _ _ l0_0 _ _ l0_1 t308 _ ?side1 ?side2 ?side3 ?side4 A2.out).mono ?_); (case side1 => repeat (first | exact (cD_ HR0_0.out HB.out) | (with_reducible first | refine cA_ ?_ _ | refine cB_ ?_ _ | refine cC_ ?_))); (case side2 => exact HC0_0.out); (case side3 => repeat (first | exact (cD_ HR0_1.out HB.out) | (with_reducible first | refine cA_ ?_ _ | refine cB_ ?_ _ | refine cC_ ?_))); (case side4 => exact HC0_1.out); rintro e w5 ⟨v309, rfl, ho0, hb⟩; refine ⟨_, rfl, ?_⟩; have n0_ := A_ (Kd.S_lower ho0 (bF_ (by repeat (first | (with_reducible first | exact HB.out | apply bA_ | apply bB_ | apply bC_ | refine bD_ ?_ GE307.out) | exact HB.out)))); have n1_ := A_ (kE_ (g := gb307) (by (with_reducible repeat (first | refine kA_ ?_ _ | refine kB_ ?_ | refine kC_ ?_ _)); exact BK307.out) hb); have n2_ := A_ (bE_ (by repeat (first | (with_reducible first | exact HB.out | apply bA_ | apply bB_ | apply bC_ | refine bD_ ?_ GE307.out) | exact HB.out)) hb); clear BK307; clear HB; have HO310 := n0_; have BK307 := n1_; have HB := n2_; clear n0_ n1_ n2_; (try clear hb); (try clear hb2); (try clear hk); (try clear hi); (try clear ho0); obtain ⟨Ao6, co6, eo6⟩ := Kd.S_slice HO310.out; subst eo6))
 go_loopg [8] k (fun kq v8 w' => ∃ (x8_1 : Int), v8 = .int .i64 x8_1 ∧ Aside0 (Z2.l0 kq t308 (t308.length : Int) x8_1 l0_0 l0_1 = some r) ∧ Aside0 (kq ≤ k) ∧ Aside0 (Kd.S (Kd.slice 3 (Kd.int .i64)) 22 w' w.heap.size (fun _ => True) (.slice Ao6 t308.length co6) t308) ∧ Aside0 (w'.heap[gb307]? = some (.cells #[(.slice A0_0 l0_0.length c0_0), (.slice A0_1 l0_1.length c0_1)] 27 (0, 0))) ∧ Aside0 (Below w.heap.size w w'))
 case atStart => exact ⟨(0), (by first | rfl | (simp; done) | (simp [*]; done)), H', ⟨nA_ _⟩, ⟨by (with_reducible repeat (first | apply Kd.S_alloc | apply Kd.S_drewN | apply Kd.S_drew)); exact HO310.out⟩, ⟨by (with_reducible repeat (first | refine kA_ ?_ _ | refine kB_ ?_ | refine kC_ ?_ _)); exact BK307.out⟩, ⟨by repeat (first | (with_reducible first | exact HB.out | apply bA_ | apply bB_ | apply bC_ | refine bD_ ?_ GE307.out) | exact HB.out)⟩⟩
 case round =>
  clear H'
  (try clear c1); (try clear p2); (try clear c5); (try clear hcz4_0); (try clear hcz4_1); (try clear hfz4_0); (try clear hfz4_1)
  obtain ⟨x8_1, rfl, HA, HK1, HO_6, BK307, HB⟩ := hrel
  cases gk with
  | zero => exact absurd HA.out (by simp [Z2.l0])
  | succ k1 =>
   have H := HA.out
   clear HA
   simp only [Z2.l0] at H
   by_cases c7 : x8_1 < (t308.length : Int)
   ·rw [if_pos c7] at H
    have c7b0 : decide (x8_1 < (t308.length : Int)) = true := oC_ c7
    clear c7
    by_cases c8 : 0 ≤ x8_1
    ·rw [if_pos c8] at H
     have c8b0 : decide (0 ≤ x8_1) = true := oC_ c8
     clear c8
     by_cases c9 : x8_1 < (t308.length : Int)
     ·rw [if_pos c9] at H
      have c9b0 : decide (x8_1 < (t308.length : Int)) = true := oC_ c9
      clear c9
      replace H := Option.bind_eq_some_iff.mp H
      obtain ⟨t312, A100, H⟩ := H
      replace H : (if t312 = 0 then (some true) else (Z2.l0 k1 t308 (t308.length : Int) (wrap64 (x8_1 + 1)) l0_0 l0_1)) = some r := H
      have A10 := A_ A100
      clear A100
      by_cases c11 : t312 = 0
      ·rw [if_pos c11] at H
       have c11b0 : (t312 == 0) = true := beq_iff_eq.mpr c11
       have c11b1 : (t312 != 0) = false := bne_eq_false_iff_eq.mpr c11
       clear c11
       obtain rfl := Option.some.inj H
       have p311 : 0 ≤ (x8_1 : Int) := oB_ (by first | (with_reducible assumption) | assumption)
       have q311 : x8_1 < (t308.length : Int) := oB_ (by first | (with_reducible assumption) | assumption)
       obtain ⟨ad311, A311_0, c311_0, e311, hx311_0, hl311_0, hi311_0⟩ := at_L1 (Kd.S_reads' HO_6.out).2.2 x8_1 p311 q311
       cases e311
       obtain ⟨ce311, hce311, hMe311, hcc311⟩ := Kd.S_get HO_6.out [] x8_1 p311 (by first | exact q311 | exact oB_ (by first | (with_reducible assumption) | assumption) | (have e_ := (Kd.S_reads' HO_6.out).1; omega))
       obtain ⟨ve311_0, rfl, ge311_0⟩ := hMe311
       have hv311_0 := hcc311 0 _ rfl
       rw [Nat.add_zero, show ((Kd.slice 3 (Kd.int .i64))).sz = 1 from rfl, Nat.mul_one] at hv311_0
       replace hv311_0 := Option.some.inj (hv311_0.symm.trans hx311_0)
       rw [hv311_0] at ge311_0
       have HL311_0 := A_ (show Kd.R (Kd.int .i64) 3 _ _ _ _ (rd_L1 t308 x8_1) from ge311_0)
       clear hv311_0 ge311_0
       clear hcc311 hce311
       have HR311_0 := A_ hi311_0
       have HC311_0 := A_ hl311_0
       clear hi311_0 hl311_0
       replace p311 := eq_true p311
       replace q311 := eq_true q311
       have hcz12_0 := cz0_ BK307.out
       have hcz12_1 := cz1_ BK307.out
       have hfz12_0 := kD_ BK307.out 0
       have hfz12_1 := kD_ BK307.out 1
       go_wp2_with (first | ((with_reducible refine gA_ (f := 59) rfl ?_); refine goesL_ (some 14) rfl rfl Try.func59 (by kernel_rfl) rfl #[.agg #[.slice A0_0 l0_0.length c0_0, .slice A0_1 l0_1.length c0_1], .slice A311_0 (rd_L1 t308 x8_1).length c311_0] rfl (by (try simp only [mA_, mB_, mC_]); first | done | rfl | (simp only [lA_, lB_]; rfl)) ?_; (with_reducible refine (Z4.calls k1 _ _ l0_0 _ _ l0_1 _ _ (rd_L1 t308 x8_1) t312 _ ?side1 ?side2 ?side3 ?side4 ?side5 ?side6 A10.out).mono ?_); (case side1 => repeat (first | exact (cD_ HR0_0.out HB.out) | (with_reducible first | refine cA_ ?_ _ | refine cB_ ?_ _ | refine cC_ ?_))); (case side2 => exact HC0_0.out); (case side3 => repeat (first | exact (cD_ HR0_1.out HB.out) | (with_reducible first | refine cA_ ?_ _ | refine cB_ ?_ _ | refine cC_ ?_))); (case side4 => exact HC0_1.out); (case side5 => repeat (first | exact (by repeat (first | (with_reducible exact HR311_0.out) | (with_reducible refine cA_ ?_ _) | (with_reducible refine cB_ ?_ _) | (with_reducible refine cC_ ?_) | exact HR311_0.out)) | (with_reducible first | refine cA_ ?_ _ | refine cB_ ?_ _ | refine cC_ ?_))); (case side6 => exact HC311_0.out); rintro e w13 ⟨rfl, hb⟩; refine ⟨_, rfl, ?_⟩; have n0_ := A_ (Kd.S_below (by (with_reducible repeat (first | apply Kd.S_alloc | apply Kd.S_drewN | apply Kd.S_drew)); exact HO_6.out) hb); have n1_ := A_ (rD_ (by (with_reducible repeat (first | apply rA_ | apply rB_ | apply rC_)); exact HL311_0.out) hb); have n2_ := A_ (kE_ (g := gb307) (by (with_reducible repeat (first | refine kA_ ?_ _ | refine kB_ ?_ | refine kC_ ?_ _)); exact BK307.out) hb); have n3_ := A_ (cD_ (by repeat (first | (with_reducible exact HR311_0.out) | (with_reducible refine cA_ ?_ _) | (with_reducible refine cB_ ?_ _) | (with_reducible refine cC_ ?_) | exact HR311_0.out)) hb); have n4_ := A_ (bE_ (by repeat (first | (with_reducible first | exact HB.out | apply bA_ | apply bB_ | apply bC_ | refine bD_ ?_ GE307.out) | exact HB.out)) hb); clear HO_6; clear HL311_0; clear BK307; clear HR311_0; clear HB; have HO_6 := n0_; have HL311_0 := n1_; have BK307 := n2_; have HR311_0 := n3_; have HB := n4_; clear n0_ n1_ n2_ n3_ n4_; (try clear hb); (try clear hb2); (try clear hk); (try clear hi)))
       go_ret
       exact ⟨by first | rfl | (simp [errW_none, errW_some] <;> rfl) | (simp [*, errW_none, errW_some] <;> rfl), by repeat (first | (with_reducible first | exact HB.out | apply bA_ | apply bB_ | apply bC_ | refine bD_ ?_ GE307.out) | exact HB.out)⟩
      ·rw [if_neg c11] at H
       have c11b0 : (t312 == 0) = false := beq_eq_false_iff_ne.mpr c11
       have c11b1 : (t312 != 0) = true := bne_iff_ne.mpr c11
       have H' := A_ H
       clear H
       have p311 : 0 ≤ (x8_1 : Int) := oB_ (by first | (with_reducible assumption) | assumption)
       have q311 : x8_1 < (t308.length : Int) := oB_ (by first | (with_reducible assumption) | assumption)
       obtain ⟨ad311, A311_0, c311_0, e311, hx311_0, hl311_0, hi311_0⟩ := at_L1 (Kd.S_reads' HO_6.out).2.2 x8_1 p311 q311
       cases e311
       obtain ⟨ce311, hce311, hMe311, hcc311⟩ := Kd.S_get HO_6.out [] x8_1 p311 (by first | exact q311 | exact oB_ (by first | (with_reducible assumption) | assumption) | (have e_ := (Kd.S_reads' HO_6.out).1; omega))
       obtain ⟨ve311_0, rfl, ge311_0⟩ := hMe311
       have hv311_0 := hcc311 0 _ rfl
       rw [Nat.add_zero, show ((Kd.slice 3 (Kd.int .i64))).sz = 1 from rfl, Nat.mul_one] at hv311_0
       replace hv311_0 := Option.some.inj (hv311_0.symm.trans hx311_0)
       rw [hv311_0] at ge311_0
       have HL311_0 := A_ (show Kd.R (Kd.int .i64) 3 _ _ _ _ (rd_L1 t308 x8_1) from ge311_0)
       clear hv311_0 ge311_0
       clear hcc311 hce311
       have HR311_0 := A_ hi311_0
       have HC311_0 := A_ hl311_0
       clear hi311_0 hl311_0
       replace p311 := eq_true p311
       replace q311 := eq_true q311
       have hcz14_0 := cz0_ BK307.out
       have hcz14_1 := cz1_ BK307.out
       have hfz14_0 := kD_ BK307.out 0
       have hfz14_1 := kD_ BK307.out 1
       go_wp2_with (first | ((with_reducible refine gA_ (f := 59) rfl ?_); refine goesL_ (some 14) rfl rfl Try.func59 (by kernel_rfl) rfl #[.agg #[.slice A0_0 l0_0.length c0_0, .slice A0_1 l0_1.length c0_1], .slice A311_0 (rd_L1 t308 x8_1).length c311_0] rfl (by (try simp only [mA_, mB_, mC_]); first | done | rfl | (simp only [lA_, lB_]; rfl)) ?_; (with_reducible refine (Z4.calls k1 _ _ l0_0 _ _ l0_1 _ _ (rd_L1 t308 x8_1) t312 _ ?side1 ?side2 ?side3 ?side4 ?side5 ?side6 A10.out).mono ?_); (case side1 => repeat (first | exact (cD_ HR0_0.out HB.out) | (with_reducible first | refine cA_ ?_ _ | refine cB_ ?_ _ | refine cC_ ?_))); (case side2 => exact HC0_0.out); (case side3 => repeat (first | exact (cD_ HR0_1.out HB.out) | (with_reducible first | refine cA_ ?_ _ | refine cB_ ?_ _ | refine cC_ ?_))); (case side4 => exact HC0_1.out); (case side5 => repeat (first | exact (by repeat (first | (with_reducible exact HR311_0.out) | (with_reducible refine cA_ ?_ _) | (with_reducible refine cB_ ?_ _) | (with_reducible refine cC_ ?_) | exact HR311_0.out)) | (with_reducible first | refine cA_ ?_ _ | refine cB_ ?_ _ | refine cC_ ?_))); (case side6 => exact HC311_0.out); rintro e w15 ⟨rfl, hb⟩; refine ⟨_, rfl, ?_⟩; have n0_ := A_ (Kd.S_below (by (with_reducible repeat (first | apply Kd.S_alloc | apply Kd.S_drewN | apply Kd.S_drew)); exact HO_6.out) hb); have n1_ := A_ (rD_ (by (with_reducible repeat (first | apply rA_ | apply rB_ | apply rC_)); exact HL311_0.out) hb); have n2_ := A_ (kE_ (g := gb307) (by (with_reducible repeat (first | refine kA_ ?_ _ | refine kB_ ?_ | refine kC_ ?_ _)); exact BK307.out) hb); have n3_ := A_ (cD_ (by repeat (first | (with_reducible exact HR311_0.out) | (with_reducible refine cA_ ?_ _) | (with_reducible refine cB_ ?_ _) | (with_reducible refine cC_ ?_) | exact HR311_0.out)) hb); have n4_ := A_ (bE_ (by repeat (first | (with_reducible first | exact HB.out | apply bA_ | apply bB_ | apply bC_ | refine bD_ ?_ GE307.out) | exact HB.out)) hb); clear HO_6; clear HL311_0; clear BK307; clear HR311_0; clear HB; have HO_6 := n0_; have HL311_0 := n1_; have BK307 := n2_; have HR311_0 := n3_; have HB := n4_; clear n0_ n1_ n2_ n3_ n4_; (try clear hb); (try clear hb2); (try clear hk); (try clear hi)))
       go_roundg k1
       case measure => have := HK1.out; omega
       case rel => exact ⟨(wrap64 (x8_1 + 1)), (by first | rfl | (simp; done) | (simp [*]; done)), H', ⟨by have := HK1.out; omega⟩, ⟨by (with_reducible repeat (first | apply Kd.S_alloc | apply Kd.S_drewN | apply Kd.S_drew)); exact HO_6.out⟩, ⟨by (with_reducible repeat (first | refine kA_ ?_ _ | refine kB_ ?_ | refine kC_ ?_ _)); exact BK307.out⟩, ⟨by repeat (first | (with_reducible first | exact HB.out | apply bA_ | apply bB_ | apply bC_ | refine bD_ ?_ GE307.out) | exact HB.out)⟩⟩
     ·rw [if_neg c9] at H
      exact absurd H (by simp)
    ·rw [if_neg c8] at H
     exact absurd H (by simp)
   ·rw [if_neg c7] at H
    have c7b0 : decide (x8_1 < (t308.length : Int)) = false := oD_ c7
    clear c7
    obtain rfl := Option.some.inj H
    go_wp2
    go_ret
    exact ⟨by first | rfl | (simp [errW_none, errW_some] <;> rfl) | (simp [*, errW_none, errW_some] <;> rfl), by repeat (first | (with_reducible first | exact HB.out | apply bA_ | apply bB_ | apply bC_ | refine bD_ ?_ GE307.out) | exact HB.out)⟩
def Z41.l0 : Nat → List Int → List Int → Int → Option (List Int)
 | 0, _, _, _ => none
 | k + 1, x0, x3, x4 => if x4 < (x0.length : Int) then (if 0 ≤ x4 then (if x4 < (x3.length : Int) then (Z41.l0 k x0 (x3.set (x4 : Int).toNat (rd x0 x4)) (wrap64 (x4 + 1))) else (none)) else (none)) else (some x3)
def Z41.f (k : Nat) (l0 : List Int) : Option (List Int) := if 0 ≤ (l0.length : Int) then (if ((l0.length : Int) : Int).toNat ≤ 35184372088832 then (Z41.l0 k l0 (List.replicate ((l0.length : Int) : Int).toNat 0) 0) else (none)) else (none)
theorem Z41.mono_l : ∀ k, (∀ y0 y1 y2, LeO (Z41.l0 k y0 y1 y2) (Z41.l0 (k + 1) y0 y1 y2))
 | 0 => fun _ _ _ r h => by simp [Z41.l0] at h
 | k + 1 => by
  have ih0 := Z41.mono_l k
  ·intro y0 y1 y2
   unfold Z41.l0
   repeat' first
   | (with_reducible exact ih0 _ _ _)
   | (with_reducible exact LeO.refl _)
   | (with_reducible exact LeO.none _)
   | (with_reducible refine LeO.ite ?_ ?_)
   | (with_reducible refine LeO.bind ?_ (fun _ => ?_))
   | exact ih0 _ _ _
   | exact LeO.none _
   | refine LeO.ite ?_ ?_
   | refine LeO.bind ?_ (fun _ => ?_)
theorem Z41.mono : ∀ a0 k, LeO (Z41.f k a0) (Z41.f (k + 1) a0) := by
 intro a0 k
 have ih0 := Z41.mono_l k
 unfold Z41.f
 repeat' first
   | (with_reducible exact ih0 _ _ _)
   | (with_reducible exact LeO.refl _)
   | (with_reducible exact LeO.none _)
   | (with_reducible refine LeO.ite ?_ ?_)
   | (with_reducible refine LeO.bind ?_ (fun _ => ?_))
   | exact ih0 _ _ _
   | exact LeO.none _
   | refine LeO.ite ?_ ?_
   | refine LeO.bind ?_ (fun _ => ?_)
set_option maxHeartbeats 8000000 in
set_option maxRecDepth 100000 in
theorem Z41.calls (k : Nat) (A0 : Option Addr) (c0 : Nat) (l0 : List Int) (r : List Int) (w : World) (hr0 : Kd.C (Kd.int .i64) w A0 l0.length l0) (hc0 : l0.length ≤ c0) (h : Z41.f k l0 = some r) :
  Calls Try.prog 60 #[.slice A0 l0.length c0] w fun e w' => ∃ v0_ : Value, e = .returned (v0_) ∧ Kd.R (Kd.int .i64) 3 w' w.heap.size (fun _ => True) v0_ r ∧ Below w.heap.size w w' := by
 have HR0 := A_ hr0
 have HC0 := A_ hc0
 clear hr0 hc0
 have HB := A_ (Below.refl w.heap.size w)
 have H : (if 0 ≤ (l0.length : Int) then (if ((l0.length : Int) : Int).toNat ≤ 35184372088832 then (Z41.l0 k l0 (List.replicate ((l0.length : Int) : Int).toNat 0) 0) else (none)) else (none)) = some r := h
 clear h
 by_cases c2 : 0 ≤ (l0.length : Int)
 ·rw [if_pos c2] at H
  have c2b0 := eq_true c2
  have c2b1 : decide (0 ≤ (l0.length : Int)) = true := oC_ c2
  clear c2
  by_cases c3 : ((l0.length : Int) : Int).toNat ≤ 35184372088832
  ·rw [if_pos c3] at H
   have c3b0 := eq_true c3
   have c3b1 : decide (((l0.length : Int) : Int).toNat ≤ 35184372088832) = true := oC_ c3
   clear c3
   obtain ⟨y313, hy313⟩ : ∃ y_ : List Int, y_ = (List.replicate ((l0.length : Int) : Int).toNat 0) := ⟨_, rfl⟩
   replace H : (Z41.l0 k l0 y313 0) = some r := by first | (rw [hy313]; with_reducible exact H) | (have H2_ := (oA_ _ _).symm.trans H; rw [hy313]; with_reducible exact H2_) | (have H2_ := (oA_ _ _).symm.trans H; with_reducible exact H2_) | with_reducible exact H | (rw [hy313]; exact H) | exact H
   have Ny313 := A_ hy313
   clear hy313
   have H' := A_ H
   clear H
   go_enter Try.func60, Try.ntmps60
   go_wp2_with (first | ((with_reducible refine gB_ (N := 7) rfl ?_); refine Kd.R_make (Kd.int .i64) _ 3 rfl (N := 7) rfl 22 _ _ rfl (l0.length : Int) rfl rfl Try.underlying22 (.int .i64 0) 8 info3 rfl (by decide) (by omega) 0 (ok := fun _ => True) (okp := fun _ => True) rfl (fun _ hk => hk) trivial (oB_ (by first | (with_reducible assumption) | assumption)) (Nat.le_trans (Nat.mul_le_mul_right _ (oB_ (by first | (with_reducible assumption) | assumption) : (l0.length : Int).toNat ≤ 35184372088832)) (by omega)) (Below.refl _ _) (nA_ _) ?_; intro v314 w4 ho5 hb hg_ hnew_; clear hg_ hnew_; (first | rw [← Ny313.out] at ho5 | (simp only [Int.reduceToNat] at ho5; rw [← Ny313.out] at ho5)); have n0_ := A_ (rE_ ho5 (bF_ (by repeat (first | (with_reducible first | exact HB.out | apply bA_ | apply bB_ | apply bC_) | exact HB.out)))); have n1_ := A_ (bE_ (by repeat (first | (with_reducible first | exact HB.out | apply bA_ | apply bB_ | apply bC_) | exact HB.out)) hb); clear HB; have HO315 := n0_; have HB := n1_; clear n0_ n1_; clear hb ho5))
   go_loopg [4] k (fun kq v4 w' => ∃ (x3_1 : List Int) (x4_1 : Int), v4 = .int .i64 x4_1 ∧ Aside0 (Z41.l0 kq l0 x3_1 x4_1 = some r) ∧ Aside0 (kq ≤ k) ∧ Aside0 (Kd.R (Kd.int .i64) 3 w' w.heap.size (fun _ => True) v314 x3_1) ∧ Aside0 (Below w.heap.size w w'))
   case atStart => exact ⟨(y313), (0), (by first | rfl | (simp; done) | (simp [*]; done)), H', ⟨nA_ _⟩, ⟨by (with_reducible repeat (first | apply rA_ | apply rB_ | apply rC_)); exact HO315.out⟩, ⟨by repeat (first | (with_reducible first | exact HB.out | apply bA_ | apply bB_ | apply bC_) | exact HB.out)⟩⟩
   case round =>
    clear H'
    (try clear c2); (try clear c2b0); (try clear c2b1); (try clear p2); (try clear c3); (try clear c3b0); (try clear c3b1)
    obtain ⟨x3_1, x4_1, rfl, HA, HK1, HO_3, HB⟩ := hrel
    cases gk with
    | zero => exact absurd HA.out (by simp [Z41.l0])
    | succ k1 =>
     have H := HA.out
     clear HA
     simp only [Z41.l0] at H
     by_cases c6 : x4_1 < (l0.length : Int)
     ·rw [if_pos c6] at H
      have c6b0 : decide (x4_1 < (l0.length : Int)) = true := oC_ c6
      clear c6
      by_cases c7 : 0 ≤ x4_1
      ·rw [if_pos c7] at H
       have c7b0 : decide (0 ≤ x4_1) = true := oC_ c7
       clear c7
       by_cases c8 : x4_1 < (x3_1.length : Int)
       ·rw [if_pos c8] at H
        have c8b0 : decide (x4_1 < (x3_1.length : Int)) = true := oC_ c8
        clear c8
        obtain ⟨y317, hy317⟩ : ∃ y_ : List Int, y_ = (x3_1.set (x4_1 : Int).toNat (rd l0 x4_1)) := ⟨_, rfl⟩
        replace H : (Z41.l0 k1 l0 y317 (wrap64 (x4_1 + 1))) = some r := by first | (rw [hy317]; with_reducible exact H) | (have H2_ := (oA_ _ _).symm.trans H; rw [hy317]; with_reducible exact H2_) | (have H2_ := (oA_ _ _).symm.trans H; with_reducible exact H2_) | with_reducible exact H | (rw [hy317]; exact H) | exact H
        have Ny317 := A_ hy317
        clear hy317
        have H' := A_ H
        clear H
        have p316 : 0 ≤ (x4_1 : Int) := oB_ (by first | (with_reducible assumption) | assumption)
        have q316 : x4_1 < (l0.length : Int) := oB_ (by first | (with_reducible assumption) | assumption)
        obtain ⟨ad316, e316, hx316_0⟩ := Kd.at_int HR0.out x4_1 p316 q316
        cases e316
        replace hx316_0 := (HB.out.cell (World.block_lt_of_cell? w _ hx316_0)).trans hx316_0
        replace p316 := eq_true p316
        replace q316 := eq_true q316
        have p9 : 0 ≤ (x4_1 : Int) := oB_ (by first | (with_reducible assumption) | assumption)
        have q9 : (x4_1 : Int) < ((x3_1.length : Int) : Int) := oB_ (by first | (with_reducible assumption) | assumption)
        obtain ⟨go9, co9, eo9, gb9, gl9, cl9, HG9⟩ := Kd.R_form HO_3.out (by omega)
        (first | cases eo9 | (injection eo9 with ea_ en_ ec_; (first | subst ea_ | (injection ea_ with ea_; subst ea_)); subst ec_; clear en_))
        have GB9 := A_ gb9
        have GG9 := A_ HG9
        clear gb9 gl9 HG9
        obtain ⟨hx9_0, hf9_0⟩ := Kd.R_celln 0 HO_3.out (x4_1 : Int) p9 q9
        replace p9 := eq_true p9
        replace q9 := eq_true q9
        have HP10 := Kd.R_putg HO_3.out (x4_1 : Int) (rd l0 x4_1)
        go_wp2_with (first | ((with_reducible refine gate_store (t := 3) (p := 20) rfl ?_); refine store_event (t := 3) (p := 20) (v := ?vo_w11) (w1 := (wr.setCell ⟨go9, (x4_1 : Int).toNat, none⟩ (.int .i64 (rd l0 x4_1)))) ?hg ?ho ?hn ?hr ?_; (case ho => rfl); (case hg => rfl); (case hn => rfl); (case hr => first | (go_simp; done) | (go_simp; rfl)); intro w11 hw; have hg : wr.grownBy w11 (some go9) := (by rw [hw]; exact HP10.2); have hp_ : Kd.R (Kd.int .i64) 3 w11 w.heap.size (fun _ => True) (.slice (some ⟨go9, 0, none⟩) x3_1.length co9) y317 := (by rw [hw, Ny317.out]; exact HP10.1); clear HP10; have n0_ := A_ (hp_); have n1_ := A_ ((by rw [hw]; exact bD_ (HB.out) GB9.out : Below w.heap.size w w11)); clear HO_3; clear HB; have HO_3 := n0_; have HB := n1_; clear n0_ n1_; clear hg hw hp_))
        go_roundg k1
        case measure => have := HK1.out; omega
        case rel => exact ⟨(y317), (wrap64 (x4_1 + 1)), (by first | rfl | (simp; done) | (simp [*]; done)), H', ⟨by have := HK1.out; omega⟩, ⟨by (with_reducible repeat (first | apply rA_ | apply rB_ | apply rC_)); exact HO_3.out⟩, ⟨by repeat (first | (with_reducible first | exact HB.out | apply bA_ | apply bB_ | apply bC_) | exact HB.out)⟩⟩
       ·rw [if_neg c8] at H
        exact absurd H (by simp)
      ·rw [if_neg c7] at H
       exact absurd H (by simp)
     ·rw [if_neg c6] at H
      have c6b0 : decide (x4_1 < (l0.length : Int)) = false := oD_ c6
      clear c6
      obtain rfl := Option.some.inj H
      go_wp2
      go_ret
      exact ⟨_, by first | rfl | (simp [errW_none, errW_some] <;> rfl) | (simp [*, errW_none, errW_some] <;> rfl), by (with_reducible repeat (first | apply rA_ | apply rB_ | apply rC_)); exact HO_3.out, by repeat (first | (with_reducible first | exact HB.out | apply bA_ | apply bB_ | apply bC_) | exact HB.out)⟩
  ·rw [if_neg c3] at H
   exact absurd H (by simp)
 ·rw [if_neg c2] at H
  exact absurd H (by simp)
def Z19.f (k : Nat) (l0_0 : List Int) (l0_1 : List Int) : Option (List Int × List Int) := (Z41.f k l0_0).bind fun t321 => ((Z41.f k l0_1).bind fun t324 => (some (t321, t324)))
theorem Z19.mono : ∀ a0 a1 k, LeO (Z19.f k a0 a1) (Z19.f (k + 1) a0 a1) := by
 intro a0 a1 k
 unfold Z19.f
 repeat' first
   | (with_reducible exact Z41.mono _ _)
   | (with_reducible exact LeO.refl _)
   | (with_reducible exact LeO.none _)
   | (with_reducible refine LeO.ite ?_ ?_)
   | (with_reducible refine LeO.bind ?_ (fun _ => ?_))
   | exact Z41.mono _ _
   | exact LeO.none _
   | refine LeO.ite ?_ ?_
   | refine LeO.bind ?_ (fun _ => ?_)
set_option maxHeartbeats 8000000 in
set_option maxRecDepth 100000 in
theorem Z19.calls (k : Nat) (A0_0 : Option Addr) (c0_0 : Nat) (l0_0 : List Int) (A0_1 : Option Addr) (c0_1 : Nat) (l0_1 : List Int) (r1 : List Int) (r2 : List Int) (w : World) (hr0_0 : Kd.C (Kd.int .i64) w A0_0 l0_0.length l0_0) (hc0_0 : l0_0.length ≤ c0_0) (hr0_1 : Kd.C (Kd.int .i64) w A0_1 l0_1.length l0_1) (hc0_1 : l0_1.length ≤ c0_1) (h : Z19.f k l0_0 l0_1 = some (r1, r2)) :
  Calls Try.prog 16 #[.agg #[.slice A0_0 l0_0.length c0_0, .slice A0_1 l0_1.length c0_1]] w fun e w' => ∃ v0_ v1_ : Value, e = .returned (.agg #[v0_, v1_]) ∧ Kd.R (Kd.int .i64) 3 w' w.heap.size (fun k_ => some k_ ≠ (v1_ : Value).ownBlock) v0_ r1 ∧ Kd.R (Kd.int .i64) 3 w' w.heap.size (fun k_ => some k_ ≠ (v0_ : Value).ownBlock) v1_ r2 ∧ Below w.heap.size w w' := by
 have hu24 := Try.underlying24
 have hu27 := Try.underlying27
 have HR0_0 := A_ hr0_0
 have HC0_0 := A_ hc0_0
 clear hr0_0 hc0_0
 have HR0_1 := A_ hr0_1
 have HC0_1 := A_ hc0_1
 clear hr0_1 hc0_1
 have HB := A_ (Below.refl w.heap.size w)
 have H : ((Z41.f k l0_0).bind fun t321 => ((Z41.f k l0_1).bind fun t324 => (some (t321, t324)))) = some (r1, r2) := h
 clear h
 replace H := Option.bind_eq_some_iff.mp H
 obtain ⟨t321, A20, H⟩ := H
 replace H : ((Z41.f k l0_1).bind fun t324 => (some (t321, t324))) = some (r1, r2) := H
 have A2 := A_ A20
 clear A20
 replace H := Option.bind_eq_some_iff.mp H
 obtain ⟨t324, A30, H⟩ := H
 replace H : (some (t321, t324)) = some (r1, r2) := H
 have A3 := A_ A30
 clear A30
 simp only [Option.some.injEq, Prod.mk.injEq] at H
 obtain ⟨rfl, rfl⟩ := H
 go_enter Try.func16, Try.ntmps16
 go_wp2_with (first | ((with_reducible refine gB_ (N := 1) rfl ?_); refine xA_ ?hg (N := 1) ?hd (cs := #[.slice A0_0 l0_0.length c0_0, .slice A0_1 l0_1.length c0_1]) (t := 24) ?hr ?_; (case hd => rfl); (case hg => rfl); (case hr => first | (go_simp; done) | (go_simp; rfl)); intro gb318 hg w4 hbox hb; have n0_ := A_ (bE_ (by repeat (first | (with_reducible first | exact HB.out | apply bA_ | apply bB_ | apply bC_) | exact HB.out)) hb); have n1_ := A_ (hbox); have n2_ := A_ ((by rw [hg]; exact (bF_ (by repeat (first | (with_reducible first | exact HB.out | apply bA_ | apply bB_ | apply bC_) | exact HB.out))) : w.heap.size ≤ gb318)); have n3_ := A_ ((by rw [hg]; exact (bF_ (by repeat (first | (with_reducible first | exact HB.out | apply bA_ | apply bB_ | apply bC_) | exact HB.out))) : w.heap.size ≤ gb318)); clear HB; have HB := n0_; have BK318 := n1_; have GW318 := n2_; have GE318 := n3_; clear n0_ n1_ n2_ n3_; clear hb hbox hg) | ((with_reducible refine gB_ (N := 2) rfl ?_); refine xA_ ?hg (N := 2) ?hd (cs := #[.slice none 0 0, .slice none 0 0]) (t := 27) ?hr ?_; (case hd => rfl); (case hg => rfl); (case hr => first | (go_simp; done) | (go_simp; rfl)); intro gb319 hg w5 hbox hb; have n0_ := A_ (kE_ (g := gb318) (by (with_reducible repeat (first | refine kA_ ?_ _ | refine kB_ ?_ | refine kC_ ?_ _)); exact BK318.out) hb); have n1_ := A_ (bE_ (by repeat (first | (with_reducible first | exact HB.out | apply bA_ | apply bB_ | apply bC_ | refine bD_ ?_ GE318.out) | exact HB.out)) hb); have n2_ := A_ (hbox); have n3_ := A_ ((by rw [hg]; exact (bF_ (by repeat (first | (with_reducible first | exact HB.out | apply bA_ | apply bB_ | apply bC_ | refine bD_ ?_ GE318.out) | exact HB.out))) : w.heap.size ≤ gb319)); have n4_ := A_ ((by rw [hg]; exact (bF_ (by repeat (first | (with_reducible first | exact HB.out | apply bA_ | apply bB_ | apply bC_ | refine bD_ ?_ GE318.out) | exact HB.out))) : w.heap.size ≤ gb319)); have n5_ := A_ ((by rw [hg]; exact Nat.ne_of_lt (blk_lt (g := gb318) (o := .cells #[.slice A0_0 l0_0.length c0_0, .slice A0_1 l0_1.length c0_1] 24 (0, 0)) (by (with_reducible repeat (first | refine kA_ ?_ _ | refine kB_ ?_ | refine kC_ ?_ _)); exact BK318.out)) : gb318 ≠ gb319)); have n6_ := A_ ((by rw [hg]; exact Nat.ne_of_gt (blk_lt (g := gb318) (o := .cells #[.slice A0_0 l0_0.length c0_0, .slice A0_1 l0_1.length c0_1] 24 (0, 0)) (by (with_reducible repeat (first | refine kA_ ?_ _ | refine kB_ ?_ | refine kC_ ?_ _)); exact BK318.out)) : gb319 ≠ gb318)); clear BK318; clear HB; have BK318 := n0_; have HB := n1_; have BK319 := n2_; have GW319 := n3_; have GE319 := n4_; have NB318_319 := n5_; have NB319_318 := n6_; clear n0_ n1_ n2_ n3_ n4_ n5_ n6_; clear hb hbox hg) | ((with_reducible refine gB_ (N := 3) rfl ?_); refine xA_ ?hg (N := 3) ?hd (cs := #[.slice none 0 0, .slice none 0 0]) (t := 27) ?hr ?_; (case hd => rfl); (case hg => rfl); (case hr => first | (go_simp; done) | (go_simp; rfl)); intro gb320 hg w6 hbox hb; have n0_ := A_ (kE_ (g := gb318) (by (with_reducible repeat (first | refine kA_ ?_ _ | refine kB_ ?_ | refine kC_ ?_ _)); exact BK318.out) hb); have n1_ := A_ (kE_ (g := gb319) (by (with_reducible repeat (first | refine kA_ ?_ _ | refine kB_ ?_ | refine kC_ ?_ _)); exact BK319.out) hb); have n2_ := A_ (bE_ (by repeat (first | (with_reducible first | exact HB.out | apply bA_ | apply bB_ | apply bC_ | refine bD_ ?_ GE318.out | refine bD_ ?_ GE319.out) | exact HB.out)) hb); have n3_ := A_ (hbox); have n4_ := A_ ((by rw [hg]; exact (bF_ (by repeat (first | (with_reducible first | exact HB.out | apply bA_ | apply bB_ | apply bC_ | refine bD_ ?_ GE318.out | refine bD_ ?_ GE319.out) | exact HB.out))) : w.heap.size ≤ gb320)); have n5_ := A_ ((by rw [hg]; exact (bF_ (by repeat (first | (with_reducible first | exact HB.out | apply bA_ | apply bB_ | apply bC_ | refine bD_ ?_ GE318.out | refine bD_ ?_ GE319.out) | exact HB.out))) : w.heap.size ≤ gb320)); have n6_ := A_ ((by rw [hg]; exact Nat.ne_of_lt (blk_lt (g := gb318) (o := .cells #[.slice A0_0 l0_0.length c0_0, .slice A0_1 l0_1.length c0_1] 24 (0, 0)) (by (with_reducible repeat (first | refine kA_ ?_ _ | refine kB_ ?_ | refine kC_ ?_ _)); exact BK318.out)) : gb318 ≠ gb320)); have n7_ := A_ ((by rw [hg]; exact Nat.ne_of_gt (blk_lt (g := gb318) (o := .cells #[.slice A0_0 l0_0.length c0_0, .slice A0_1 l0_1.length c0_1] 24 (0, 0)) (by (with_reducible repeat (first | refine kA_ ?_ _ | refine kB_ ?_ | refine kC_ ?_ _)); exact BK318.out)) : gb320 ≠ gb318)); have n8_ := A_ ((by rw [hg]; exact Nat.ne_of_lt (blk_lt (g := gb319) (o := .cells #[.slice none 0 0, .slice none 0 0] 27 (0, 0)) (by (with_reducible repeat (first | refine kA_ ?_ _ | refine kB_ ?_ | refine kC_ ?_ _)); exact BK319.out)) : gb319 ≠ gb320)); have n9_ := A_ ((by rw [hg]; exact Nat.ne_of_gt (blk_lt (g := gb319) (o := .cells #[.slice none 0 0, .slice none 0 0] 27 (0, 0)) (by (with_reducible repeat (first | refine kA_ ?_ _ | refine kB_ ?_ | refine kC_ ?_ _)); exact BK319.out)) : gb320 ≠ gb319)); clear BK318; clear BK319; clear HB; have BK318 := n0_; have BK319 := n1_; have HB := n2_; have BK320 := n3_; have GW320 := n4_; have GE320 := n5_; have NB318_320 := n6_; have NB320_318 := n7_; have NB319_320 := n8_; have NB320_319 := n9_; clear n0_ n1_ n2_ n3_ n4_ n5_ n6_ n7_ n8_ n9_; clear hb hbox hg; have hnb7 := NB318_319.out; have hnc7 := NB319_318.out; have hnb8 := NB318_320.out; have hnc8 := NB320_318.out; have hcz9_0 := cz0_ BK318.out; have hcz9_1 := cz1_ BK318.out; have hfz9_0 := kD_ BK318.out 0; have hfz9_1 := kD_ BK318.out 1) | ((with_reducible refine gA_ (f := 60) rfl ?_); refine goesL_ (some 6) rfl rfl Try.func60 (by kernel_rfl) rfl #[.slice A0_0 l0_0.length c0_0] rfl (by (try simp only [mA_, mB_, mC_]); first | done | rfl | (simp only [lA_, lB_]; rfl)) ?_; (with_reducible refine (Z41.calls k _ _ l0_0 t321 _ ?side1 ?side2 A2.out).mono ?_); (case side1 => repeat (first | exact (cD_ HR0_0.out HB.out) | (with_reducible first | refine cA_ ?_ _ | refine cB_ ?_ _ | refine cC_ ?_))); (case side2 => exact HC0_0.out); rintro e w10 ⟨v322, rfl, ho0, hb⟩; refine ⟨_, rfl, ?_⟩; have n0_ := A_ (rE_ ho0 (bF_ (by repeat (first | (with_reducible first | exact HB.out | apply bA_ | apply bB_ | apply bC_ | refine bD_ ?_ GE318.out | refine bD_ ?_ GE319.out | refine bD_ ?_ GE320.out) | exact HB.out)))); have n1_ := A_ (kE_ (g := gb318) (by (with_reducible repeat (first | refine kA_ ?_ _ | refine kB_ ?_ | refine kC_ ?_ _)); exact BK318.out) hb); have n2_ := A_ (kE_ (g := gb319) (by (with_reducible repeat (first | refine kA_ ?_ _ | refine kB_ ?_ | refine kC_ ?_ _)); exact BK319.out) hb); have n3_ := A_ (kE_ (g := gb320) (by (with_reducible repeat (first | refine kA_ ?_ _ | refine kB_ ?_ | refine kC_ ?_ _)); exact BK320.out) hb); have n4_ := A_ (bE_ (by repeat (first | (with_reducible first | exact HB.out | apply bA_ | apply bB_ | apply bC_ | refine bD_ ?_ GE318.out | refine bD_ ?_ GE319.out | refine bD_ ?_ GE320.out) | exact HB.out)) hb); clear BK318; clear BK319; clear BK320; clear HB; have HO323 := n0_; have BK318 := n1_; have BK319 := n2_; have BK320 := n3_; have HB := n4_; clear n0_ n1_ n2_ n3_ n4_; (try clear hb); (try clear hb2); (try clear hk); (try clear hi); (try clear ho0); obtain ⟨Ao11, co11, eo11⟩ := Kd.R_slice HO323.out; subst eo11; have hnb12 := NB320_319.out; have hnc12 := NB319_320.out; have hcz13_0 := cz0_ BK320.out; have hcz13_1 := cz1_ BK320.out; have hfz13_0 := kD_ BK320.out 0; have hfz13_1 := kD_ BK320.out 1; have hcz14_0 := cz0_ BK318.out; have hcz14_1 := cz1_ BK318.out; have hfz14_0 := kD_ BK318.out 0; have hfz14_1 := kD_ BK318.out 1) | ((with_reducible refine gA_ (f := 60) rfl ?_); refine goesL_ (some 10) rfl rfl Try.func60 (by kernel_rfl) rfl #[.slice A0_1 l0_1.length c0_1] rfl (by (try simp only [mA_, mB_, mC_]); first | done | rfl | (simp only [lA_, lB_]; rfl)) ?_; (with_reducible refine (Z41.calls k _ _ l0_1 t324 _ ?side1 ?side2 A3.out).mono ?_); (case side1 => exact cD_ HR0_1.out (by repeat (first | (with_reducible first | exact HB.out | apply bA_ | apply bB_ | apply bC_ | refine bD_ ?_ GE318.out | refine bD_ ?_ GE319.out | refine bD_ ?_ GE320.out) | exact HB.out))); (case side2 => exact HC0_1.out); rintro e w15 ⟨v325, rfl, ho0, hb⟩; refine ⟨_, rfl, ?_⟩; have n0_ := A_ (Kd.R_elder' (by (with_reducible repeat (first | apply rA_ | apply rB_ | apply rC_)); exact (Kd.R_mono (Kd.R_far (p := ⟨gb320, 0, none⟩) (Kd.R_types HO323.out BK320.out (by decide)) (fun _ hk => hk.2) (.slice Ao11 t321.length co11)) (fun _ h_ => h_.1))) (Kd.R_base ho0) hb); have n1_ := A_ (rE_ (Kd.R_new' ho0 (Kd.R_lt (by (with_reducible repeat (first | apply rA_ | apply rB_ | apply rC_)); exact (Kd.R_mono (Kd.R_far (p := ⟨gb320, 0, none⟩) (Kd.R_types HO323.out BK320.out (by decide)) (fun _ hk => hk.2) (.slice Ao11 t321.length co11)) (fun _ h_ => h_.1))))) (bF_ (by repeat (first | (with_reducible first | exact HB.out | apply bA_ | apply bB_ | apply bC_ | refine bD_ ?_ GE318.out | refine bD_ ?_ GE319.out | refine bD_ ?_ GE320.out) | exact HB.out)))); have n2_ := A_ (kE_ (g := gb318) (o := .cells #[.slice A0_0 l0_0.length c0_0, .slice A0_1 l0_1.length c0_1] 24 (0, 0)) (by (with_reducible repeat (first | refine kA_ ?_ _ | refine kB_ ?_ | refine kC_ ?_ _)); refine blk_far ?_ NB318_320.out _; (with_reducible repeat (first | refine kA_ ?_ _ | refine kB_ ?_ | refine kC_ ?_ _)); exact BK318.out) hb); have n3_ := A_ (kE_ (g := gb319) (o := .cells #[.slice none 0 0, .slice none 0 0] 27 (0, 0)) (by (with_reducible repeat (first | refine kA_ ?_ _ | refine kB_ ?_ | refine kC_ ?_ _)); refine blk_far ?_ NB319_320.out _; (with_reducible repeat (first | refine kA_ ?_ _ | refine kB_ ?_ | refine kC_ ?_ _)); exact BK319.out) hb); have n4_ := A_ (kE_ (g := gb320) (o := .cells #[.slice Ao11 t321.length co11, .slice none 0 0] 27 (0, 0)) (by (with_reducible repeat (first | refine kA_ ?_ _ | refine kB_ ?_ | refine kC_ ?_ _)); refine blk_put (cs := #[.slice none 0 0, .slice none 0 0]) ?_ 0 _ rfl; (with_reducible repeat (first | refine kA_ ?_ _ | refine kB_ ?_ | refine kC_ ?_ _)); exact BK320.out) hb); have n5_ := A_ (bE_ (by repeat (first | (with_reducible first | exact HB.out | apply bA_ | apply bB_ | apply bC_ | refine bD_ ?_ GE318.out | refine bD_ ?_ GE319.out | refine bD_ ?_ GE320.out) | exact HB.out)) hb); clear HO323; clear BK318; clear BK319; clear BK320; clear HB; have HO323 := n0_; have HO326 := n1_; have BK318 := n2_; have BK319 := n3_; have BK320 := n4_; have HB := n5_; clear n0_ n1_ n2_ n3_ n4_ n5_; (try clear hb); (try clear hb2); (try clear hk); (try clear hi); (try clear ho0); obtain ⟨Ao16, co16, eo16⟩ := Kd.R_slice HO326.out; subst eo16; have hcz17_0 := cz0_ BK320.out; have hcz17_1 := cz1_ BK320.out; have hfz17_0 := kD_ BK320.out 0; have hfz17_1 := kD_ BK320.out 1; have hcz18_0 := cz0_ BK319.out; have hcz18_1 := cz1_ BK319.out; have hfz18_0 := kD_ BK319.out 0; have hfz18_1 := kD_ BK319.out 1))
 refine bodyPost_ret (results_cell_row rfl _ _ gb319 27 #[.slice Ao11 t321.length co11, .slice Ao16 t324.length co16] (0, 0) _ rfl (by (with_reducible repeat (first | refine kA_ ?_ _ | refine kB_ ?_ | refine kC_ ?_ _)); refine blk_put (cs := #[.slice Ao11 t321.length co11, .slice none 0 0]) ?_ 1 _ rfl; (with_reducible repeat (first | refine kA_ ?_ _ | refine kB_ ?_ | refine kC_ ?_ _)); refine blk_put (cs := #[.slice none 0 0, .slice none 0 0]) ?_ 0 _ rfl; (with_reducible repeat (first | refine kA_ ?_ _ | refine kB_ ?_ | refine kC_ ?_ _)); refine blk_far ?_ NB319_320.out _; (with_reducible repeat (first | refine kA_ ?_ _ | refine kB_ ?_ | refine kC_ ?_ _)); exact BK319.out) Try.underlying27 rfl (by kernel_rfl)) rfl ?_
 exact ⟨_, _, by first | rfl | (simp [errW_none, errW_some] <;> rfl) | (simp [*, errW_none, errW_some] <;> rfl), by (with_reducible repeat (first | apply rA_ | apply rB_ | apply rC_)); exact Kd.R_mono (Kd.R_far (p := ⟨gb319, 1, none⟩) (Kd.R_far (p := ⟨gb319, 0, none⟩) (Kd.R_far (p := ⟨gb320, 1, none⟩) (Kd.R_types (Kd.R_types HO323.out BK320.out (by decide)) BK319.out (by decide)) (fun _ hk => hk.1.2) (.slice Ao16 t324.length co16)) (fun _ hk => hk.2) (.slice Ao11 t321.length co11)) (fun _ hk => hk.2) (.slice Ao16 t324.length co16)) (fun _ hk => hk.1.1.2), by (with_reducible repeat (first | apply rA_ | apply rB_ | apply rC_)); exact Kd.R_mono (Kd.R_far (p := ⟨gb319, 1, none⟩) (Kd.R_far (p := ⟨gb319, 0, none⟩) (Kd.R_far (p := ⟨gb320, 1, none⟩) (Kd.R_types (Kd.R_types HO326.out BK320.out (by decide)) BK319.out (by decide)) (fun _ hk => hk.1.2) (.slice Ao16 t324.length co16)) (fun _ hk => hk.2) (.slice Ao11 t321.length co11)) (fun _ hk => hk.2) (.slice Ao16 t324.length co16)) (fun _ hk => hk.1.1.2), by repeat (first | (with_reducible first | exact HB.out | apply bA_ | apply bB_ | apply bC_ | refine bD_ ?_ GE318.out | refine bD_ ?_ GE319.out | refine bD_ ?_ GE320.out) | exact HB.out)⟩
def Z37.l0 : Nat → List Int → List Bool → Int → Option Bool
 | 0, _, _, _ => none
 | k + 1, l, s, i => if i < (l.length : Int) then (if 0 ≤ i then (if rd l i < 0 then some false else (if rd l i ≥ (l.length : Int) then some false else (if rdOf false s (rd l i) = true then some false else Z37.l0 k l (s.set (rd l i).toNat true) (wrap64 (i + 1))))) else none) else some true
def Z37.f (k : Nat) (l0 : List Int) : Option Bool := if (l0.length : Int) > 24 then some false else Z37.l0 k l0 (List.replicate 24 false) 0
theorem Z37.mono_l : ∀ k, (∀ y0 y1 y2, LeO (Z37.l0 k y0 y1 y2) (Z37.l0 (k + 1) y0 y1 y2))
 | 0 => fun _ _ _ r h => by simp [Z37.l0] at h
 | k + 1 => by
  have ih0 := Z37.mono_l k
  ·intro y0 y1 y2
   unfold Z37.l0
   repeat' first
   | (with_reducible exact ih0 _ _ _)
   | (with_reducible exact LeO.refl _)
   | (with_reducible exact LeO.none _)
   | (with_reducible refine LeO.ite ?_ ?_)
theorem Z37.mono : ∀ a0 k, LeO (Z37.f k a0) (Z37.f (k + 1) a0) := by
 intro a0 k
 unfold Z37.f
 exact LeO.ite (LeO.refl _) (Z37.mono_l k _ _ _)
def Z24 : Array Value := #[Value.bool false, Value.bool false, Value.bool false, Value.bool false, Value.bool false, Value.bool false, Value.bool false, Value.bool false, Value.bool false, Value.bool false, Value.bool false, Value.bool false, Value.bool false, Value.bool false, Value.bool false, Value.bool false, Value.bool false, Value.bool false, Value.bool false, Value.bool false, Value.bool false, Value.bool false, Value.bool false, Value.bool false]
theorem row_same (w : World) (g : Nat) (t : TypeId) (cur : Array Value) (hg : w.heap[g]? = some (.cells cur t (0, 0))) : w.setRow g cur = w := by
 have hv : ∀ h, w.heap[g]'h = .cells cur t (0, 0) := fun h => (Array.getElem?_eq_some_iff.1 hg).2
 unfold World.setRow
 cases w with
 | mk heap tape drawn os output =>
  congr 1
  apply Array.ext
  ·simp
  ·intro k h1 h2
   simp only [Array.getElem_modify]
   split
   ·rename_i hk; subst hk; simp at hv; simp [hv h2]
   ·rfl
theorem wpList_val {P : Program} {ops : Array Oper} {rest : List Oper} {o : Oper} {a : Act} {Q : Exit → Act → World → Prop} {w : World} (hg : o.guard = none) (v : Value) (w1 : World) (hrun : (execOp a.eval o).run P w = .ok (.value v) w1) (h : wpList P ops Q rest (a.put o.dst v) w1) : wpList P ops Q (o :: rest) a w :=
 wpList_plain hg fun K hK => by unfold Oper.wp; rw [hrun]; exact hK _ _ h
theorem perm_start (w : World) : Kd.R Kd.bool 125 (w.alloc (.cells Z24 125)) w.heap.size (fun _ => True) (.slice (some ⟨w.heap.size, 0, none⟩) 24 24) (List.replicate 24 false) := by
 have h := World.ownsRow_lit (base := w.heap.size) (e := 125) (size := 1) w Z24 24 (nA_ _) (by unfold maxLen; omega) rfl
 exact Kd.R_of_own (xs := List.replicate 24 false) h (fun _ _ => trivial)
set_option maxHeartbeats 8000000 in
set_option maxRecDepth 100000 in
theorem Z37.calls (k : Nat) (A0 : Option Addr) (c0 : Nat) (l0 : List Int) (r : Bool) (w : World) (hr0 : Kd.C (Kd.int .i64) w A0 l0.length l0) (hc0 : l0.length ≤ c0) (h : Z37.f k l0 = some r) :
  Calls Try.prog 98 #[.slice A0 l0.length c0] w fun e w' => e = .returned (.bool r) ∧ Below w.heap.size w w' := by
 have HR0 := A_ hr0
 have HC0 := A_ hc0
 clear hr0 hc0
 have hst := perm_start w
 have HST := A_ hst
 clear hst
 have hb0 : Below w.heap.size w (w.alloc (.cells Z24 125)) := (Below.refl _ _).alloc (nA_ _) _
 have HB0 := A_ hb0
 clear hb0
 unfold Z37.f at h
 by_cases c2 : (l0.length : Int) > 24
 ·rw [if_pos c2] at h
  have c2b0 : decide (24 < (l0.length : Int)) = true := oC_ c2
  have c2b1 : decide (24 < l0.length) = true := oC_ (by omega)
  clear c2
  obtain rfl := Option.some.inj h
  go_enter Try.func98, Try.ntmps98
  go_upto_region 1 with (fail)
  refine wp_region_lit ?_
  refine wpList_val rfl (.agg Z24) w (by as_aux_lemma => kernel_rfl) ?_
  refine wpList_val rfl (.pointer (some ⟨w.heap.size, 0, none⟩)) (w.alloc (.cells Z24 125)) (by as_aux_lemma => kernel_rfl) ?_
  refine wpList_store_row rfl 125 (.tmp 3) (.tmp 6) rfl w.heap.size Z24 rfl rfl 125 Z24 (heap_alloc_new _ _) (by as_aux_lemma => kernel_rfl) rfl (by as_aux_lemma => kernel_rfl) ?_
  rw [row_same _ _ _ _ (heap_alloc_new _ _)]
  generalize w.alloc (.cells Z24 125) = wq at HB0 ⊢
  generalize Value.agg Z24 = ag
  go_wp2
  go_ret
  exact ⟨rfl, HB0.out⟩
 ·rw [if_neg c2] at h
  have hn : l0.length ≤ 24 := by omega
  have HN := A_ hn
  clear hn
  have c2b0 : decide (24 < (l0.length : Int)) = false := oD_ c2
  have c2b1 : decide (24 < l0.length) = false := oD_ (by omega)
  clear c2
  have H' := A_ h
  clear h
  go_enter Try.func98, Try.ntmps98
  go_upto_region 1 with (fail)
  refine wp_region_lit ?_
  refine wpList_val rfl (.agg Z24) w (by as_aux_lemma => kernel_rfl) ?_
  refine wpList_val rfl (.pointer (some ⟨w.heap.size, 0, none⟩)) (w.alloc (.cells Z24 125)) (by as_aux_lemma => kernel_rfl) ?_
  refine wpList_store_row rfl 125 (.tmp 3) (.tmp 6) rfl w.heap.size Z24 rfl rfl 125 Z24 (heap_alloc_new _ _) (by as_aux_lemma => kernel_rfl) rfl (by as_aux_lemma => kernel_rfl) ?_
  rw [row_same _ _ _ _ (heap_alloc_new _ _)]
  generalize w.alloc (.cells Z24 125) = wq at HB0 HST ⊢
  generalize Value.agg Z24 = ag
  go_wp2
  go_loopg [12] k (fun kq v12 w' => ∃ (s : List Bool) (i : Int), v12 = .int .i64 i ∧ Aside0 (Z37.l0 kq l0 s i = some r) ∧ Aside0 (kq ≤ k) ∧ Aside0 (s.length = 24) ∧ Aside0 (Kd.R Kd.bool 125 w' w.heap.size (fun _ => True) (.slice (some ⟨w.heap.size, 0, none⟩) 24 24) s) ∧ Aside0 (Below w.heap.size w w'))
  case atStart => exact ⟨List.replicate 24 false, 0, rfl, H', ⟨nA_ _⟩, ⟨rfl⟩, HST, HB0⟩
  case round =>
   clear H' HST HB0
   (try clear c2b0); (try clear c2b1)
   obtain ⟨s, i, rfl, HA, HK1, HS, HO, HB⟩ := hrel
   cases gk with
   | zero => exact absurd HA.out (by simp [Z37.l0])
   | succ k1 =>
    have H := HA.out
    clear HA
    simp only [Z37.l0] at H
    by_cases c3 : i < (l0.length : Int)
    ·rw [if_pos c3] at H
     by_cases c4 : 0 ≤ i
     ·rw [if_pos c4] at H
      have c3b0 : decide (i < (l0.length : Int)) = true := oC_ c3
      have c4b0 : decide (0 ≤ i) = true := oC_ c4
      obtain ⟨ad, e0, hx⟩ := Kd.at_int HR0.out i c4 c3
      cases e0
      replace hx := (HB.out.cell (World.block_lt_of_cell? w _ hx)).trans hx
      replace c3 := eq_true c3
      replace c4 := eq_true c4
      by_cases c5 : rd l0 i < 0
      ·rw [if_pos c5] at H
       have c5b0 : decide (rd l0 i < 0) = true := oC_ c5
       clear c5
       obtain rfl := Option.some.inj H
       go_wp2
       go_ret
       exact ⟨rfl, HB.out⟩
      ·rw [if_neg c5] at H
       have c5b0 : decide (rd l0 i < 0) = false := oD_ c5
       by_cases c6 : rd l0 i ≥ (l0.length : Int)
       ·rw [if_pos c6] at H
        have c6b0 : decide ((l0.length : Int) ≤ rd l0 i) = true := oC_ c6
        clear c5 c6
        obtain rfl := Option.some.inj H
        go_wp2
        go_ret
        exact ⟨rfl, HB.out⟩
       ·rw [if_neg c6] at H
        have c6b0 : decide ((l0.length : Int) ≤ rd l0 i) = false := oD_ c6
        have p1 : 0 ≤ rd l0 i := by omega
        have p2 : rd l0 i < ((24 : Nat) : Int) := by have := HN.out; omega
        have p2' : rd l0 i < 24 := p2
        obtain ⟨hy, hz⟩ := Kd.R_celln false HO.out (rd l0 i) p1 p2
        have p1b : decide (0 ≤ rd l0 i) = true := oC_ p1
        have p2b : decide (rd l0 i < 24) = true := oC_ p2'
        clear c5 c6
        by_cases c7 : rdOf false s (rd l0 i) = true
        ·rw [if_pos c7] at H
         rw [c7] at hy
         clear c7
         obtain rfl := Option.some.inj H
         go_wp2
         go_ret
         exact ⟨rfl, HB.out⟩
        ·rw [if_neg c7] at H
         replace c7 := Bool.eq_false_iff.mpr c7
         rw [c7] at hy
         clear c7
         have H' := A_ H
         clear H
         have HP := Kd.R_putg HO.out (rd l0 i) true
         have HP' := A_ HP
         clear HP
         go_wp2
         go_roundg k1
         case measure => have := HK1.out; omega
         case rel => exact ⟨s.set (rd l0 i).toNat true, wrap64 (i + 1), rfl, H', ⟨by have := HK1.out; omega⟩, ⟨by rw [List.length_set]; exact HS.out⟩, ⟨HP'.out.1⟩, ⟨bD_ HB.out (nA_ _)⟩⟩
     ·rw [if_neg c4] at H
      exact absurd H (by simp)
    ·rw [if_neg c3] at H
     have c3b0 : decide (i < (l0.length : Int)) = false := oD_ c3
     clear c3
     obtain rfl := Option.some.inj H
     go_wp2
     go_ret
     exact ⟨rfl, HB.out⟩
end Go.Proofs.Ytbdnellgioimbaa.A
end
