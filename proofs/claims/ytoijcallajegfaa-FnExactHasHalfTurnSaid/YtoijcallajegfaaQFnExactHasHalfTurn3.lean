/- Lemmas for the row FnExactHasHalfTurn: the program's functions told as plain functions, and plain mathematics. No conditions. -/
import Derived.Test.YtoijcallajegfaaQFnExactHasHalfTurn2
section
namespace Go.Proofs.Ytoijcallajegfaa.A
open Go.RowKit Go.Proofs.YtoijcallajegfaaW.PrintWords Go.Proofs.YtoijcallajegfaaW.PrintLast Go.Proofs.YtoijcallajegfaaW.PrintMore
attribute [local go_sem] max2_int min2_int max_two min_two max_three min_three max_four min_four
set_option linter.unusedVariables false
set_option linter.unusedSimpArgs false
mutual
def spec_l02Reach.l0 : Nat → List Int → List Int → List Int → Int → Option (List Int)
  | 0, _, _, _, _ => none
  | k + 1, x0, x1, x7, x8 => if x8 < (x7.length : Int) then (if 0 ≤ x8 then (if 0 ≤ (rd x7 x8) then (if (rd x7 x8) < (x0.length : Int) then (if (rd x7 x8) < (x1.length : Int) then ((some (([rd x0 (rd x7 x8), rd x1 (rd x7 x8)] : List Int) : List Int)).bind fun y466 => (spec_l02Reach.l1 k x0 x1 x7 x8 y466 (y466.length : Int) 0)) else (none)) else (none)) else (none)) else (none)) else (some x7)
def spec_l02Reach.l1 : Nat → List Int → List Int → List Int → Int → List Int → Int → Int → Option (List Int)
  | 0, _, _, _, _, _, _, _ => none
  | k + 1, x0, x1, x7, x8, x33, x34, x35 => if x35 < x34 then (if 0 ≤ x35 then (if x35 < (x33.length : Int) then ((spec_l02Has.f k x7 (rd x33 x35)).bind fun t470 => (if t470 = true then (spec_l02Reach.l1 k x0 x1 x7 x8 x33 x34 (wrap64 (x35 + 1))) else (if x7.length < 17592186044416 then (spec_l02Reach.l1 k x0 x1 (x7 ++ [rd x33 x35]) x8 x33 x34 (wrap64 (x35 + 1))) else (none)))) else (none)) else (none)) else (spec_l02Reach.l0 k x0 x1 x7 (wrap64 (x8 + 1)))
end
def spec_l02Reach.f (k : Nat) (l0 : List Int) (l1 : List Int) (a2 : Int) : Option (List Int) := spec_l02Reach.l0 k l0 l1 (([a2] : List Int)) 0
theorem spec_l02Reach.mono_l : ∀ k, (∀ y0 y1 y2 y3, LeO (spec_l02Reach.l0 k y0 y1 y2 y3) (spec_l02Reach.l0 (k + 1) y0 y1 y2 y3)) ∧ (∀ y0 y1 y2 y3 y4 y5 y6, LeO (spec_l02Reach.l1 k y0 y1 y2 y3 y4 y5 y6) (spec_l02Reach.l1 (k + 1) y0 y1 y2 y3 y4 y5 y6))
  | 0 => ⟨fun _ _ _ _ r h => by simp [spec_l02Reach.l0] at h, fun _ _ _ _ _ _ _ r h => by simp [spec_l02Reach.l1] at h⟩
  | k + 1 => by
    obtain ⟨ih0, ih1⟩ := spec_l02Reach.mono_l k
    refine ⟨?_, ?_⟩
    · intro y0 y1 y2 y3
      unfold spec_l02Reach.l0
      repeat' first|exact ih0 _ _ _ _|exact ih1 _ _ _ _ _ _ _|exact spec_l02Has.mono _ _ _|exact lo_|refine LeO.ite ?_ ?_|refine LeO.bind ?_ (fun _ => ?_)
    · intro y0 y1 y2 y3 y4 y5 y6
      unfold spec_l02Reach.l1
      repeat' first|exact ih0 _ _ _ _|exact ih1 _ _ _ _ _ _ _|exact spec_l02Has.mono _ _ _|exact lo_|refine LeO.ite ?_ ?_|refine LeO.bind ?_ (fun _ => ?_)
theorem spec_l02Reach.mono : ∀ a0 a1 a2 k, LeO (spec_l02Reach.f k a0 a1 a2) (spec_l02Reach.f (k + 1) a0 a1 a2) := by
  intro a0 a1 a2 k
  obtain ⟨ih0, ih1⟩ := spec_l02Reach.mono_l k
  unfold spec_l02Reach.f
  repeat' first|exact ih0 _ _ _ _|exact ih1 _ _ _ _ _ _ _|exact spec_l02Has.mono _ _ _|exact lo_|refine LeO.ite ?_ ?_|refine LeO.bind ?_ (fun _ => ?_)
def spec_l02Reach.T5 : Bool × List (List Nat × List Nat) := (true, [([], []), ([], []), ([], []), ([1, 2], [1, 2]), ([3], [3]), ([0, 4], [0, 4]), ([5], [5]), ([], []), ([], []), ([], []), ([8, 9], [8, 9]), ([10], [10]), ([7, 11], [7, 11]), ([12], [12]), ([6, 13], [6, 13]), ([14], [14]), ([], [])])
def spec_l02Reach.B5 : List Nat := [0, 0, 0, 6, 14, 31, 63, 0, 0, 0, 768, 1792, 3968, 8064, 16383, 32767, 0]
theorem spec_l02Reach.tab5 : rtab .any (opsOf Try.f162 5) = spec_l02Reach.T5 := by kernel_rfl
theorem spec_l02Reach.bits5 : waitsOk spec_l02Reach.T5.2 spec_l02Reach.B5 = true := by kernel_rfl
set_option maxHeartbeats 8000000 in
set_option maxRecDepth 100000 in
theorem spec_l02Reach.calls (k : Nat) (A0 : Option Addr) (c0 : Nat) (l0 : List Int) (A1 : Option Addr) (c1 : Nat) (l1 : List Int) (a2 : Int) (r : List Int) (w : World) (hr0 : Kd.C (Kd.int .i64) w A0 l0.length l0) (hc0 : l0.length ≤ c0) (hr1 : Kd.C (Kd.int .i64) w A1 l1.length l1) (hc1 : l1.length ≤ c1) (h : spec_l02Reach.f k l0 l1 a2 = some r) :
    Calls Try.prog 162 #[.slice A0 l0.length c0, .slice A1 l1.length c1, .int .i64 a2] w fun e w' => ∃ v0_ : Value, e = .returned (v0_) ∧ Kd.R (Kd.int .i64) 3 w' w.heap.size (fun _ => True) v0_ r ∧ Below w.heap.size w w' := by
  have HR0 := Aside0.mk hr0
  have HC0 := Aside0.mk hc0
  clear hr0 hc0
  have HR1 := Aside0.mk hr1
  have HC1 := Aside0.mk hc1
  clear hr1 hc1
  have HB := Aside0.mk (Below.refl w.heap.size w)
  have H := h
  unfold spec_l02Reach.f at H
  clear h
  obtain ⟨y459, hy459⟩ : ∃ y_ : List Int, y_ = (([a2] : List Int)) := ⟨_, rfl⟩
  replace H : (spec_l02Reach.l0 k l0 l1 y459 0) = some r := by first | (rw [hy459]; exact H) | exact H
  have Ny459 := Aside0.mk hy459
  clear hy459
  have H' := Aside0.mk H
  clear H
  go_enter Try.func162, Try.ntmps162
  go_wp2_with (first | ((with_reducible refine gate_dst (N := 12) rfl ?_); refine Kd.R_lit (Kd.int .i64) _ 3 ?hg (N := 12) ?hd (xs := ([a2] : List Int)) (inner := [.int .i64 a2]) (ok := fun _ => True) (okp := fun _ => True) ?hr ?hp (fun _ hk => hk) trivial (Below.refl _ _) (Nat.le_refl _) (by simp) ?_; (case hd => rfl); (case hg => rfl); (case hr => first | (go_simp; done) | (go_simp; rfl)); (case hp => exact (Reps.one (show Kd.M (Kd.int .i64) _ _ _ a2 [.int .i64 a2] from rfl) (Reps.none _ _))); intro v460 w4 ho5 hb hg_ hnew_; clear hg_ hnew_; (first | rw [← Ny459.out] at ho5 | (simp only [Int.reduceToNat] at ho5; rw [← Ny459.out] at ho5)); have HO461 := rl_ w ho5; replace HB := b1_ hb; clear hb ho5))
  go_loopg [7, 8] k (fun kq v7 v8 w' => ∃ (x7_1 : List Int) (x8_1 : Int), v8 = .int .i64 x8_1 ∧ Aside0 (spec_l02Reach.l0 kq l0 l1 x7_1 x8_1 = some r) ∧ Aside0 (kq ≤ k) ∧ Aside0 (Kd.R (Kd.int .i64) 3 w' w.heap.size (fun _ => True) v7 x7_1) ∧ Aside0 (Below w.heap.size w w'))
  case atStart => exact ⟨(y459), (0), qc_, H', ⟨Nat.le_refl _⟩, ⟨(rr_ HO461)⟩, ⟨hB_⟩⟩
  case round =>
    clear H'
    obtain ⟨x7_1, x8_1, rfl, HA, HK1, HO_7, HB⟩ := hrel
    cases gk with
    | zero => exact absurd HA.out (by simp [spec_l02Reach.l0])
    | succ k1 =>
      have H := HA.out
      clear HA
      simp only [spec_l02Reach.l0] at H
      by_cases c6 : x8_1 < (x7_1.length : Int)
      · rw [if_pos c6] at H
        have c6b0 := decide_eq_true c6
        clear c6
        have c7 := cp_ H
        replace H := ca_ H
        have c7b0 := decide_eq_true c7
        clear c7
        have c8 := cp_ H
        replace H := ca_ H
        have c8b0 := decide_eq_true c8
        clear c8
        have c9 := cp_ H
        replace H := ca_ H
        have c9b0 := decide_eq_true c9
        clear c9
        have c10 := cp_ H
        replace H := ca_ H
        have c10b0 := decide_eq_true c10
        clear c10
        obtain ⟨y466, hy466⟩ : ∃ y_ : List Int, y_ = (([rd l0 (rd x7_1 x8_1), rd l1 (rd x7_1 x8_1)] : List Int)) := ⟨_, rfl⟩
        replace H : (spec_l02Reach.l1 k1 l0 l1 x7_1 x8_1 y466 (y466.length : Int) 0) = some r := by first | (rw [hy466]; exact H) | exact H
        have Ny466 := Aside0.mk hy466
        clear hy466
        have H' := Aside0.mk H
        clear H
        obtain ⟨Ao11, co11, eo11⟩ := Kd.R_slice HO_7.out
        subst eo11
        try go_wp2
        replace HO_7 := Aside0.mk (Kd.R_drew HO_7.out)
        replace HB := Aside0.mk (below_drew1 HB.out)
        have p462 : 0 ≤ (x8_1 : Int) := of_decide_eq_true qe_
        have q462 : x8_1 < (x7_1.length : Int) := of_decide_eq_true qe_
        obtain ⟨ad462, e462, hx462_0⟩ := Kd.at_int (Kd.R_reads' HO_7.out).2.2 x8_1 p462 q462
        cases e462
        replace p462 := eq_true p462
        replace q462 := eq_true q462
        have p463 : 0 ≤ ((rd x7_1 x8_1) : Int) := of_decide_eq_true qe_
        have q463 : (rd x7_1 x8_1) < (l0.length : Int) := of_decide_eq_true qe_
        obtain ⟨ad463, e463, hx463_0⟩ := Kd.at_int HR0.out (rd x7_1 x8_1) p463 q463
        have hw463_0 := hx463_0
        cases e463
        replace hx463_0 := (HB.out.cell (World.block_lt_of_cell? w _ hx463_0)).trans hx463_0
        replace p463 := eq_true p463
        replace q463 := eq_true q463
        have p464 : 0 ≤ (x8_1 : Int) := of_decide_eq_true qe_
        have q464 : x8_1 < (x7_1.length : Int) := of_decide_eq_true qe_
        obtain ⟨ad464, e464, hx464_0⟩ := Kd.at_int (Kd.R_reads' HO_7.out).2.2 x8_1 p464 q464
        obtain rfl : ad462 = ad464 := (by injection e464)
        replace p464 := eq_true p464
        replace q464 := eq_true q464
        have p465 : 0 ≤ ((rd x7_1 x8_1) : Int) := of_decide_eq_true qe_
        have q465 : (rd x7_1 x8_1) < (l1.length : Int) := of_decide_eq_true qe_
        obtain ⟨ad465, e465, hx465_0⟩ := Kd.at_int HR1.out (rd x7_1 x8_1) p465 q465
        have hw465_0 := hx465_0
        cases e465
        replace hx465_0 := (HB.out.cell (World.block_lt_of_cell? w _ hx465_0)).trans hx465_0
        replace p465 := eq_true p465
        replace q465 := eq_true q465
        refine start_ (n := 17) (S := fun w' => w'.cell? (ad462.add (x8_1).toNat) = some (.int .i64 (rd x7_1 x8_1)) ∧ w'.cell? (ad463.add ((rd x7_1 x8_1)).toNat) = some (.int .i64 (rd l0 (rd x7_1 x8_1))) ∧ w'.cell? (ad462.add (x8_1).toNat) = some (.int .i64 (rd x7_1 x8_1)) ∧ w'.cell? (ad465.add ((rd x7_1 x8_1)).toNat) = some (.int .i64 (rd l1 (rd x7_1 x8_1)))) (ds := []) (bl_ 17 0) (by kernel_rfl) rfl (by kernel_rfl) ⟨hx462_0, ((HB.out.cell (World.block_lt_of_cell? w _ hw463_0)).trans hw463_0), hx464_0, ((HB.out.cell (World.block_lt_of_cell? w _ hw465_0)).trans hw465_0)⟩ (fun hHeld => ?_); refine with_tabW spec_l02Reach.tab5 spec_l02Reach.bits5 (fun HT_ HW_ => ?_)
        generalize wr.drew = w12 at HO_7 HB hx462_0 hx463_0 hx464_0 hx465_0 hHeld ⊢
        refine pu_ 0 (some 19) (bl_ 17 1) HT_ ?_
        refine pu_ 1 (some 20) (bl_ 17 3) HT_ ?_
        refine pu_ 2 (some 21) (bl_ 17 7) HT_ ?_
        refine pu_ 3 (some 22) (bl_ 17 15) HT_ ?_
        refine pu_ 7 (some 26) (bl_ 17 143) HT_ ?_
        refine pu_ 8 (some 27) (bl_ 17 399) HT_ ?_
        refine pu_ 9 (some 28) (bl_ 17 911) HT_ ?_
        refine pu_ 10 (some 29) (bl_ 17 1935) HT_ ?_
        refine pu_ 16 (some 35) (bl_ 17 67471) HT_ ?_
        refine ta_ 4 (some 23) (bl_ 17 67487) HT_ HW_ hHeld ?_
        refine pu_ 5 (some 24) (bl_ 17 67519) HT_ ?_
        refine ta_ 6 (some 25) (bl_ 17 67583) HT_ HW_ hHeld ?_
        refine ta_ 11 (some 30) (bl_ 17 69631) HT_ HW_ hHeld ?_
        refine pu_ 12 (some 31) (bl_ 17 73727) HT_ ?_
        refine ta_ 13 (some 32) (bl_ 17 81919) HT_ HW_ hHeld ?_
        refine on_ 14 (some 33) (bl_ 17 98303) HT_ (fun K hK => ?_)
        refine Kd.R_lit_step (Kd.int .i64) _ 3 ?hg (N := 33) ?hd (xs := ([rd l0 (rd x7_1 x8_1), rd l1 (rd x7_1 x8_1)] : List Int)) (inner := [.int .i64 (rd l0 (rd x7_1 x8_1)), .int .i64 (rd l1 (rd x7_1 x8_1))]) (ok := fun _ => True) (okp := fun _ => True) ?hr ?hp (fun _ hk => hk) trivial (Below.refl _ _) (Nat.le_refl _) (by simp) ?_; (case hd => rfl); (case hg => rfl); (case hr => first | (go_simp; done) | (go_simp; rfl)); (case hp => exact (Reps.one (show Kd.M (Kd.int .i64) _ _ _ (rd l0 (rd x7_1 x8_1)) [.int .i64 (rd l0 (rd x7_1 x8_1))] from rfl) (Reps.one (show Kd.M (Kd.int .i64) _ _ _ (rd l1 (rd x7_1 x8_1)) [.int .i64 (rd l1 (rd x7_1 x8_1))] from rfl) (Reps.none _ _))))
        intro v467 w13 ho14 hb hg_ hnew_
        have HS0_ := (hb.cell (World.block_lt_of_cell? _ _ (hHeld.1))).trans (hHeld.1)
        have HS2_ := (hb.cell (World.block_lt_of_cell? _ _ (hHeld.2.2.1))).trans (hHeld.2.2.1)
        clear hg_ hnew_
        (first | rw [← Ny466.out] at ho14 | (simp only [Int.reduceToNat] at ho14; rw [← Ny466.out] at ho14))
        have HO468 := Aside0.mk (Kd.R_lower (Kd.R_new' ho14 (Kd.R_lt (rr_ HO_7))) (below_size hB_))
        replace HO_7 := Aside0.mk (Kd.R_elder' (rr_ HO_7) (Kd.R_base ho14) hb)
        replace HB := b1_ hb
        clear hb ho14
        obtain ⟨Ao15, co15, eo15⟩ := Kd.R_slice HO468.out
        (first | subst eo15 | (injection eo15 with f1_ f2_ f3_; have f4_ := f1_.symm; have f5_ := f3_.symm; clear f1_ f2_ f3_; subst f4_; subst f5_))
        refine hK.out _ _ ⟨HS0_, ((HB.out.cell (World.block_lt_of_cell? w _ hw463_0)).trans hw463_0), HS2_, ((HB.out.cell (World.block_lt_of_cell? w _ hw465_0)).trans hw465_0)⟩ (fun hHeld => ?_)
        clear hK K
        refine no_ (some 33) ?_
        refine pu_ 15 (some 34) (bl_ 17 131071) HT_ ?_
        refine done_ (done_of HT_.out (by kernel_rfl)) ?_
        try go_wp2
        go_loopg [7, 35] k1 (fun kq v7 v35 w' => ∃ (x7_2 : List Int) (x35_2 : Int), v35 = .int .i64 x35_2 ∧ Aside0 (spec_l02Reach.l1 kq l0 l1 x7_2 x8_1 y466 (y466.length : Int) x35_2 = some r) ∧ Aside0 (kq ≤ k1) ∧ Aside0 (Kd.R (Kd.int .i64) 3 w' w.heap.size (fun k_ => some k_ ≠ ((.slice Ao15 y466.length co15) : Value).ownBlock) v7 x7_2) ∧ Aside0 (Kd.R (Kd.int .i64) 3 w' w.heap.size (fun k_ => some k_ ≠ (v7 : Value).ownBlock) (.slice Ao15 y466.length co15) y466) ∧ Aside0 (Below w.heap.size w w'))
        case atStart => exact ⟨(x7_1), (0), qc_, H', ⟨Nat.le_refl _⟩, ⟨(rw_ (Kd.R_mono HO_7.out (fun _ hk => hk.2)))⟩, ⟨(rw_ (Kd.R_mono HO468.out (fun _ hk => hk.2)))⟩, ⟨hB_⟩⟩
        case round =>
          clear H'
          obtain ⟨x7_2, x35_2, rfl, HA, HK2, HO_7, HO_33, HB⟩ := hrel
          cases gk with
          | zero => exact absurd HA.out (by simp [spec_l02Reach.l1])
          | succ k2 =>
            have H := HA.out
            clear HA
            simp only [spec_l02Reach.l1] at H
            by_cases c16 : x35_2 < (y466.length : Int)
            · rw [if_pos c16] at H
              have c16b0 := decide_eq_true c16
              clear c16
              have c17 := cp_ H
              replace H := ca_ H
              have c17b0 := decide_eq_true c17
              clear c17
              have c18 := cp_ H
              replace H := ca_ H
              have c18b0 := decide_eq_true c18
              clear c18
              obtain ⟨t470, A19, H⟩ := bi_ H
              by_cases c20 : t470 = true
              · subst c20
                rw [if_pos rfl] at H
                have H' := Aside0.mk H
                clear H
                have p469 : 0 ≤ (x35_2 : Int) := of_decide_eq_true qe_
                have q469 : x35_2 < (y466.length : Int) := of_decide_eq_true qe_
                obtain ⟨ad469, e469, hx469_0⟩ := Kd.at_int (Kd.R_reads' HO_33.out).2.2 x35_2 p469 q469
                cases e469
                replace p469 := eq_true p469
                replace q469 := eq_true q469
                obtain ⟨Ao21, co21, eo21⟩ := Kd.R_slice HO_7.out
                subst eo21
                go_wp2_with (first | ((with_reducible refine gate_callee (f := 126) rfl ?_); refine gL_ (some 41) Try.func126 #[.slice Ao21 x7_2.length co21, .int .i64 (rd y466 x35_2)] rfl qa_ ?_; (with_reducible refine (spec_l02Has.calls k2 _ _ x7_2 (rd y466 x35_2) true _ (cr_ HO_7) ((Kd.R_reads' HO_7.out).2.1) A19.out).mono ?_); rintro e w' ⟨rfl, ⟨nd, rfl⟩⟩; refine ⟨_, rfl, ?_⟩))
                go_roundg k2
                case measure => have := HK1.out; have := HK2.out; omega
                case rel => exact ⟨(x7_2), (wrap64 (x35_2 + 1)), qc_, H', ⟨by have := HK1.out; have := HK2.out; omega⟩, ⟨(rr_ HO_7)⟩, ⟨(rr_ HO_33)⟩, ⟨hB_⟩⟩
              · replace c20 := Bool.eq_false_iff.mpr c20
                subst c20
                have H1 : (if x7_2.length < 17592186044416 then (spec_l02Reach.l1 k2 l0 l1 (x7_2 ++ [rd y466 x35_2]) x8_1 y466 (y466.length : Int) (wrap64 (x35_2 + 1))) else (none)) = some r := by rw [if_neg (show ¬ (false = true) by decide)] at H; exact H
                clear H
                have H := H1
                clear H1
                have c22 := cp_ H
                replace H := ca_ H
                have LMc22 := Aside0.mk c22
                clear c22
                obtain ⟨y471, hy471⟩ : ∃ y_ : List Int, y_ = (x7_2 ++ [rd y466 x35_2]) := ⟨_, rfl⟩
                replace H : (spec_l02Reach.l1 k2 l0 l1 y471 x8_1 y466 (y466.length : Int) (wrap64 (x35_2 + 1))) = some r := by first | (rw [hy471]; exact H) | exact H
                have Ny471 := Aside0.mk hy471
                clear hy471
                have H' := Aside0.mk H
                clear H
                have p469 : 0 ≤ (x35_2 : Int) := of_decide_eq_true qe_
                have q469 : x35_2 < (y466.length : Int) := of_decide_eq_true qe_
                obtain ⟨ad469, e469, hx469_0⟩ := Kd.at_int (Kd.R_reads' HO_33.out).2.2 x35_2 p469 q469
                cases e469
                replace p469 := eq_true p469
                replace q469 := eq_true q469
                obtain ⟨Ao23, co23, eo23⟩ := Kd.R_slice HO_7.out
                subst eo23
                go_wp2_with (first | ((with_reducible refine gate_callee (f := 126) rfl ?_); refine gL_ (some 41) Try.func126 #[.slice Ao23 x7_2.length co23, .int .i64 (rd y466 x35_2)] rfl qa_ ?_; (with_reducible refine (spec_l02Has.calls k2 _ _ x7_2 (rd y466 x35_2) false _ (cr_ HO_7) ((Kd.R_reads' HO_7.out).2.1) A19.out).mono ?_); rintro e w' ⟨rfl, ⟨nd, rfl⟩⟩; refine ⟨_, rfl, ?_⟩) | ((with_reducible refine gate_builtin (b := .append) (xs := #[.tmp 43, .tmp 45]) rfl ?_); at_builtin; refine Kd.R_append (Kd.int .i64) (w0 := w) w.heap.size rfl (.tmp 43) (.tmp 45) 23 3 (.int .i64 0) 8 rfl Try.underlying23 info3 rfl (by decide) (by omega) (.slice Ao23 x7_2.length co23) x7_2 (rd y466 x35_2) [.int .i64 (rd y466 x35_2)] (fun k_ => some k_ ≠ (.slice (some ad469) y466.length co15 : Value).ownBlock) (fun _ => False) rfl rfl ?aP (fun _ hk => hk.elim) ?aF ?aO ?aB ?aS ?aL ?_; (case aP => exact rfl); (case aB => exact hB_); (case aF => exact (fun k_ hk => Kd.fresh' (Kd.R_lt (rr_ HO_33)) k_ hk)); (case aO => exact (rr_ HO_7)); (case aS => exact (below_size hB_)); (case aL => have := LMc22.out; omega); intro v472 w24 ho hb hg hat; rw [← Ny471.out] at ho; replace HO_33 := Aside0.mk (Kd.R_after (ok := (fun _ => True)) (rw_ (Kd.R_mono HO_33.out (fun _ hk => ⟨trivial, hk⟩))) hg hat); replace HB := Aside0.mk hb; have HO473 := Aside0.mk ho; clear HO_7; clear ho hb hg hat))
                go_roundg k2
                case measure => have := HK1.out; have := HK2.out; omega
                case rel => exact ⟨(y471), (wrap64 (x35_2 + 1)), qc_, H', ⟨by have := HK1.out; have := HK2.out; omega⟩, ⟨(rr_ HO473)⟩, ⟨(rw_ (Kd.R_mono HO_33.out (fun _ hk => hk.2)))⟩, ⟨hB_⟩⟩
            · rw [if_neg c16] at H
              have c16b0 := decide_eq_false c16
              clear c16
              have H' := Aside0.mk H
              clear H
              go_wp2
              go_roundg k2
              case measure => have := HK1.out; have := HK2.out; omega
              case rel => exact ⟨(x7_2), (wrap64 (x8_1 + 1)), qc_, H', ⟨by have := HK1.out; have := HK2.out; omega⟩, ⟨(rw_ (Kd.R_mono HO_7.out (fun _ hk => trivial)))⟩, ⟨hB_⟩⟩
      · rw [if_neg c6] at H
        have c6b0 := decide_eq_false c6
        clear c6
        obtain rfl := Option.some.inj H
        obtain ⟨Ao25, co25, eo25⟩ := Kd.R_slice HO_7.out
        subst eo25
        go_wp2
        go_ret
        exact ⟨_, qb_, (rr_ HO_7), hB_⟩
end Go.Proofs.Ytoijcallajegfaa.A
end
section
namespace Go.Proofs.Ytoijcallajegfaa.A
open Go.RowKit Go.Proofs.YtoijcallajegfaaW.PrintWords Go.Proofs.YtoijcallajegfaaW.PrintLast Go.Proofs.YtoijcallajegfaaW.PrintMore
attribute [local go_sem] max2_int min2_int max_two min_two max_three min_three max_four min_four
set_option linter.unusedVariables false
set_option linter.unusedSimpArgs false
def spec_IsTransitive.f (k : Nat) (l0 : List Int) (l1 : List Int) : Option (Bool) := (spec_PermOk.f k l0).bind fun t474 => (if t474 = true then ((spec_PermOk.f k l1).bind fun t475 => (if t475 = true then (if (l0.length : Int) = (l1.length : Int) then (if (l0.length : Int) > 0 then ((spec_l02Reach.f k l0 l1 0).bind fun t476 => (some ((t476.length : Int) == (l0.length : Int)))) else (some false)) else (some false)) else (some false))) else (some false))
theorem spec_IsTransitive.mono : ∀ a0 a1 k, LeO (spec_IsTransitive.f k a0 a1) (spec_IsTransitive.f (k + 1) a0 a1) := by
  intro a0 a1 k
  unfold spec_IsTransitive.f
  repeat' first|exact spec_PermOk.mono _ _|exact spec_l02Reach.mono _ _ _ _|exact lo_|refine LeO.ite ?_ ?_|refine LeO.bind ?_ (fun _ => ?_)
set_option maxHeartbeats 8000000 in
set_option maxRecDepth 100000 in
theorem spec_IsTransitive.calls (k : Nat) (A0 : Option Addr) (c0 : Nat) (l0 : List Int) (A1 : Option Addr) (c1 : Nat) (l1 : List Int) (r : Bool) (w : World) (hr0 : Kd.C (Kd.int .i64) w A0 l0.length l0) (hc0 : l0.length ≤ c0) (hr1 : Kd.C (Kd.int .i64) w A1 l1.length l1) (hc1 : l1.length ≤ c1) (h : spec_IsTransitive.f k l0 l1 = some r) :
    Calls Try.prog 127 #[.slice A0 l0.length c0, .slice A1 l1.length c1] w fun e w' => e = .returned (.bool r) ∧ Below w.heap.size w w' := by
  have HR0 := Aside0.mk hr0
  have HC0 := Aside0.mk hc0
  clear hr0 hc0
  have HR1 := Aside0.mk hr1
  have HC1 := Aside0.mk hc1
  clear hr1 hc1
  have HB := Aside0.mk (Below.refl w.heap.size w)
  have H := h
  unfold spec_IsTransitive.f at H
  clear h
  obtain ⟨t474, A3, H⟩ := bi_ H
  by_cases c4 : t474 = true
  · subst c4
    rw [if_pos rfl] at H
    obtain ⟨t475, A5, H⟩ := bi_ H
    by_cases c6 : t475 = true
    · subst c6
      rw [if_pos rfl] at H
      by_cases c7 : (l0.length : Int) = (l1.length : Int)
      · rw [if_pos c7] at H
        have c7b0 : ((l0.length : Int) == (l1.length : Int)) = true := beq_iff_eq.mpr c7
        have c7b1 : ((l0.length : Int) != (l1.length : Int)) = false := bne_eq_false_iff_eq.mpr c7
        have c7b2 : (l0.length == l1.length) = true := by first | simpa using c7 | (simp at c7 ⊢; omega)
        clear c7
        by_cases c8 : (l0.length : Int) > 0
        · rw [if_pos c8] at H
          have c8b0 : decide (0 < (l0.length : Int)) = true := decide_eq_true c8
          have c8b1 : decide (0 < l0.length) = true := decide_eq_true (by omega)
          clear c8
          obtain ⟨t476, A9, H⟩ := bi_ H
          obtain rfl := Option.some.inj H
          go_enter Try.func127, Try.ntmps127
          go_wp2_with (first | ((with_reducible refine gate_callee (f := 161) rfl ?_); refine gL_ (some 6) Try.func161 #[.slice A0 l0.length c0] rfl qa_ ?_; (with_reducible refine (spec_PermOk.calls k _ _ l0 true _ (cc_ HR0) HC0.out A3.out).mono ?_); rintro e w' ⟨rfl, ⟨nd, rfl⟩⟩; refine ⟨_, rfl, ?_⟩) | (go_at_call 161; (with_reducible refine (spec_PermOk.calls k _ _ l1 true _ (cc_ HR1) HC1.out A5.out).mono ?_); rintro e w' ⟨rfl, ⟨nd, rfl⟩⟩) | (go_at_call 162; (with_reducible refine (spec_l02Reach.calls k _ _ l0 _ _ l1 0 t476 _ (cc_ HR0) HC0.out (cc_ HR1) HC1.out A9.out).mono ?_); rintro e w10 ⟨v477, rfl, ho0, hb⟩; have HO478 := rl_ w ho0; replace HB := b1_ hb; clear hb ho0; obtain ⟨Ao11, co11, eo11⟩ := Kd.R_slice HO478.out; subst eo11))
          go_ret
          exact ⟨qb_, hB_⟩
        · rw [if_neg c8] at H
          have c8b0 : decide (0 < (l0.length : Int)) = false := decide_eq_false c8
          have c8b1 : decide (0 < l0.length) = false := decide_eq_false (by omega)
          clear c8
          obtain rfl := Option.some.inj H
          go_enter Try.func127, Try.ntmps127
          go_wp2_with (first | ((with_reducible refine gate_callee (f := 161) rfl ?_); refine gL_ (some 6) Try.func161 #[.slice A0 l0.length c0] rfl qa_ ?_; (with_reducible refine (spec_PermOk.calls k _ _ l0 true _ (cc_ HR0) HC0.out A3.out).mono ?_); rintro e w' ⟨rfl, ⟨nd, rfl⟩⟩; refine ⟨_, rfl, ?_⟩) | (go_at_call 161; (with_reducible refine (spec_PermOk.calls k _ _ l1 true _ (cc_ HR1) HC1.out A5.out).mono ?_); rintro e w' ⟨rfl, ⟨nd, rfl⟩⟩))
          go_ret
          exact ⟨qb_, hB_⟩
      · rw [if_neg c7] at H
        have c7b0 : ((l0.length : Int) == (l1.length : Int)) = false := beq_eq_false_iff_ne.mpr c7
        have c7b1 : ((l0.length : Int) != (l1.length : Int)) = true := bne_iff_ne.mpr c7
        have c7b2 : (l0.length == l1.length) = false := by first | simpa using c7 | (simp at c7 ⊢; omega)
        obtain rfl := Option.some.inj H
        go_enter Try.func127, Try.ntmps127
        go_wp2_with (first | ((with_reducible refine gate_callee (f := 161) rfl ?_); refine gL_ (some 6) Try.func161 #[.slice A0 l0.length c0] rfl qa_ ?_; (with_reducible refine (spec_PermOk.calls k _ _ l0 true _ (cc_ HR0) HC0.out A3.out).mono ?_); rintro e w' ⟨rfl, ⟨nd, rfl⟩⟩; refine ⟨_, rfl, ?_⟩) | (go_at_call 161; (with_reducible refine (spec_PermOk.calls k _ _ l1 true _ (cc_ HR1) HC1.out A5.out).mono ?_); rintro e w' ⟨rfl, ⟨nd, rfl⟩⟩))
        go_ret
        exact ⟨qb_, hB_⟩
    · replace c6 := Bool.eq_false_iff.mpr c6
      subst c6
      have H1 : (some false) = some r := by rw [if_neg (show ¬ (false = true) by decide)] at H; exact H
      clear H
      have H := H1
      clear H1
      obtain rfl := Option.some.inj H
      go_enter Try.func127, Try.ntmps127
      go_wp2_with (first | ((with_reducible refine gate_callee (f := 161) rfl ?_); refine gL_ (some 6) Try.func161 #[.slice A0 l0.length c0] rfl qa_ ?_; (with_reducible refine (spec_PermOk.calls k _ _ l0 true _ (cc_ HR0) HC0.out A3.out).mono ?_); rintro e w' ⟨rfl, ⟨nd, rfl⟩⟩; refine ⟨_, rfl, ?_⟩) | (go_at_call 161; (with_reducible refine (spec_PermOk.calls k _ _ l1 false _ (cc_ HR1) HC1.out A5.out).mono ?_); rintro e w' ⟨rfl, ⟨nd, rfl⟩⟩))
      go_ret
      exact ⟨qb_, hB_⟩
  · replace c4 := Bool.eq_false_iff.mpr c4
    subst c4
    have H1 : (some false) = some r := by rw [if_neg (show ¬ (false = true) by decide)] at H; exact H
    clear H
    have H := H1
    clear H1
    obtain rfl := Option.some.inj H
    go_enter Try.func127, Try.ntmps127
    go_wp2_with (first | ((with_reducible refine gate_callee (f := 161) rfl ?_); refine gL_ (some 6) Try.func161 #[.slice A0 l0.length c0] rfl qa_ ?_; (with_reducible refine (spec_PermOk.calls k _ _ l0 false _ (cc_ HR0) HC0.out A3.out).mono ?_); rintro e w' ⟨rfl, ⟨nd, rfl⟩⟩; refine ⟨_, rfl, ?_⟩))
    go_ret
    exact ⟨qb_, hB_⟩
end Go.Proofs.Ytoijcallajegfaa.A
end
section
namespace Go.Proofs.Ytoijcallajegfaa.A
open Go.RowKit Go.Proofs.YtoijcallajegfaaW.PrintWords Go.Proofs.YtoijcallajegfaaW.PrintLast Go.Proofs.YtoijcallajegfaaW.PrintMore
attribute [local go_sem] max2_int min2_int max_two min_two max_three min_three max_four min_four
set_option linter.unusedVariables false
set_option linter.unusedSimpArgs false
def spec_SurfaceOk.f (k : Nat) (l0_0 : List Int) (l0_1 : List Int) : Option (Bool) := (spec_IsTransitive.f k l0_0 l0_1).bind fun t480 => (some t480)
theorem spec_SurfaceOk.mono : ∀ a0 a1 k, LeO (spec_SurfaceOk.f k a0 a1) (spec_SurfaceOk.f (k + 1) a0 a1) := by
  intro a0 a1 k
  unfold spec_SurfaceOk.f
  repeat' first|exact spec_IsTransitive.mono _ _ _|exact lo_|refine LeO.ite ?_ ?_|refine LeO.bind ?_ (fun _ => ?_)
set_option maxHeartbeats 8000000 in
set_option maxRecDepth 100000 in
theorem spec_SurfaceOk.calls (k : Nat) (A0_0 : Option Addr) (c0_0 : Nat) (l0_0 : List Int) (A0_1 : Option Addr) (c0_1 : Nat) (l0_1 : List Int) (r : Bool) (w : World) (hr0_0 : Kd.C (Kd.int .i64) w A0_0 l0_0.length l0_0) (hc0_0 : l0_0.length ≤ c0_0) (hr0_1 : Kd.C (Kd.int .i64) w A0_1 l0_1.length l0_1) (hc0_1 : l0_1.length ≤ c0_1) (h : spec_SurfaceOk.f k l0_0 l0_1 = some r) :
    Calls Try.prog 85 #[.agg #[.slice A0_0 l0_0.length c0_0, .slice A0_1 l0_1.length c0_1]] w fun e w' => e = .returned (.bool r) ∧ Below w.heap.size w w' := by
  have hu33 := Try.underlying33
  have HR0_0 := Aside0.mk hr0_0
  have HC0_0 := Aside0.mk hc0_0
  clear hr0_0 hc0_0
  have HR0_1 := Aside0.mk hr0_1
  have HC0_1 := Aside0.mk hc0_1
  clear hr0_1 hc0_1
  have HB := Aside0.mk (Below.refl w.heap.size w)
  have H := h
  unfold spec_SurfaceOk.f at H
  clear h
  obtain ⟨t480, A2, H⟩ := bi_ H
  obtain rfl := Option.some.inj H
  go_enter Try.func85, Try.ntmps85
  go_wp2_with (first | ((with_reducible refine gate_dst (N := 1) rfl ?_); refine bx_ 1 #[.slice A0_0 l0_0.length c0_0, .slice A0_1 l0_1.length c0_1] 33 ?_; intro gb479 hg w3 hbox hb; have BK479 := Aside0.mk hbox; have GW479 := gw_ w hg; have GE479 := GW479; replace HB := b1_ hb; clear hb hbox hg; obtain ⟨hcz4_0, hcz4_1, hfz4_0, hfz4_1⟩ := c2_ BK479) | ((with_reducible refine gate_callee (f := 127) rfl ?_); refine gL_ (some 7) Try.func127 #[.slice A0_0 l0_0.length c0_0, .slice A0_1 l0_1.length c0_1] rfl qa_ ?_; (with_reducible refine (spec_IsTransitive.calls k _ _ l0_0 _ _ l0_1 t480 _ (cb_ HR0_0) HC0_0.out (cb_ HR0_1) HC0_1.out A2.out).mono ?_); rintro e w5 ⟨rfl, hb⟩; refine ⟨_, rfl, ?_⟩; replace BK479 := bb_ BK479 hb; replace HB := b1_ hb; clear hb))
  go_ret
  exact ⟨qb_, hB_⟩
end Go.Proofs.Ytoijcallajegfaa.A
end
section
namespace Go.Proofs.Ytoijcallajegfaa.A
open Go.RowKit Go.Proofs.YtoijcallajegfaaW.PrintWords Go.Proofs.YtoijcallajegfaaW.PrintLast Go.Proofs.YtoijcallajegfaaW.PrintMore
attribute [local go_sem] max2_int min2_int max_two min_two max_three min_three max_four min_four
set_option linter.unusedVariables false
set_option linter.unusedSimpArgs false
def spec_WordOk.l0 : Nat → ByteArray → Int → Option (Bool)
  | 0, _, _ => none
  | k + 1, x0, x3 => if x3 < (x0.size : Int) then (if 0 ≤ x3 then (if (bt x0 x3) = 84 then (spec_WordOk.l0 k x0 (wrap64 (x3 + 1))) else (if (bt x0 x3) = 116 then (spec_WordOk.l0 k x0 (wrap64 (x3 + 1))) else (if (bt x0 x3) = 83 then (spec_WordOk.l0 k x0 (wrap64 (x3 + 1))) else (if (bt x0 x3) = 115 then (spec_WordOk.l0 k x0 (wrap64 (x3 + 1))) else (some false))))) else (none)) else (some true)
def spec_WordOk.f (k : Nat) (a0 : ByteArray) : Option (Bool) := if (a0.size : Int) > 40 then (some false) else (spec_WordOk.l0 k a0 0)
theorem spec_WordOk.mono_l : ∀ k, (∀ y0 y1, LeO (spec_WordOk.l0 k y0 y1) (spec_WordOk.l0 (k + 1) y0 y1))
  | 0 => fun _ _ r h => by simp [spec_WordOk.l0] at h
  | k + 1 => by
    have ih0 := spec_WordOk.mono_l k
    · intro y0 y1
      unfold spec_WordOk.l0
      repeat' first|exact ih0 _ _|exact lo_|refine LeO.ite ?_ ?_|refine LeO.bind ?_ (fun _ => ?_)
theorem spec_WordOk.mono : ∀ a0 k, LeO (spec_WordOk.f k a0) (spec_WordOk.f (k + 1) a0) := by
  intro a0 k
  have ih0 := spec_WordOk.mono_l k
  unfold spec_WordOk.f
  repeat' first|exact ih0 _ _|exact lo_|refine LeO.ite ?_ ?_|refine LeO.bind ?_ (fun _ => ?_)
set_option maxHeartbeats 8000000 in
set_option maxRecDepth 100000 in
theorem spec_WordOk.calls (k : Nat) (a0 : ByteArray) (r : Bool) (w : World) (h : spec_WordOk.f k a0 = some r) :
    Calls Try.prog 123 #[.string a0] w fun e w' => e = .returned (.bool r) ∧ Drawn0 w w' := by
  have H := h
  unfold spec_WordOk.f at H
  clear h
  by_cases c2 : (a0.size : Int) > 40
  · rw [if_pos c2] at H
    have c2b0 : decide (40 < (a0.size : Int)) = true := decide_eq_true c2
    have c2b1 : decide (40 < a0.size) = true := decide_eq_true (by omega)
    clear c2
    obtain rfl := Option.some.inj H
    go_enter Try.func123, Try.ntmps123
    go_wp2
    go_ret
    exact ⟨qc_, by repeat (first | exact Drawn0.refl _ | apply Drawn0.step)⟩
  · rw [if_neg c2] at H
    have c2b0 : decide (40 < (a0.size : Int)) = false := decide_eq_false c2
    have c2b1 : decide (40 < a0.size) = false := decide_eq_false (by omega)
    clear c2
    have H' := Aside0.mk H
    clear H
    go_enter Try.func123, Try.ntmps123
    go_wp2
    go_loopg [3] k (fun kq v3 w' => ∃ (x3_1 : Int), v3 = .int .i64 x3_1 ∧ Aside0 (spec_WordOk.l0 kq a0 x3_1 = some r) ∧ Aside0 (kq ≤ k) ∧ Drawn0 w w')
    case atStart => exact ⟨(0), qc_, H', ⟨Nat.le_refl _⟩, by repeat (first | exact Drawn0.refl _ | apply Drawn0.step)⟩
    case round =>
      clear H'
      obtain ⟨x3_1, rfl, HA, HK1, ⟨m1, rfl⟩⟩ := hrel
      cases gk with
      | zero => exact absurd HA.out (by simp [spec_WordOk.l0])
      | succ k1 =>
        have H := HA.out
        clear HA
        simp only [spec_WordOk.l0] at H
        by_cases c3 : x3_1 < (a0.size : Int)
        · rw [if_pos c3] at H
          have c3b0 := decide_eq_true c3
          clear c3
          have c4 := cp_ H
          replace H := ca_ H
          have c4b0 := decide_eq_true c4
          clear c4
          by_cases c6 : (bt a0 x3_1) = 84
          · rw [if_pos c6] at H
            have c6b0 : ((bt a0 x3_1) == 84) = true := beq_iff_eq.mpr c6
            have c6b1 : ((bt a0 x3_1) != 84) = false := bne_eq_false_iff_eq.mpr c6
            clear c6
            have H' := Aside0.mk H
            clear H
            have p5 : 0 ≤ (x3_1 : Int) := of_decide_eq_true qe_
            have q5 : x3_1 < (a0.size : Int) := of_decide_eq_true qe_
            have hx5 := bt_at a0 x3_1
            replace p5 := eq_true p5
            replace q5 := eq_true q5
            go_wp2
            go_roundg k1
            case measure => have := HK1.out; omega
            case rel => exact ⟨(wrap64 (x3_1 + 1)), qc_, H', ⟨by have := HK1.out; omega⟩, by repeat (first | exact Drawn0.refl _ | apply Drawn0.step)⟩
          · rw [if_neg c6] at H
            have c6b0 : ((bt a0 x3_1) == 84) = false := beq_eq_false_iff_ne.mpr c6
            have c6b1 : ((bt a0 x3_1) != 84) = true := bne_iff_ne.mpr c6
            by_cases c7 : (bt a0 x3_1) = 116
            · rw [if_pos c7] at H
              have c7b0 : ((bt a0 x3_1) == 116) = true := beq_iff_eq.mpr c7
              have c7b1 : ((bt a0 x3_1) != 116) = false := bne_eq_false_iff_eq.mpr c7
              clear c7
              have H' := Aside0.mk H
              clear H
              have p5 : 0 ≤ (x3_1 : Int) := of_decide_eq_true qe_
              have q5 : x3_1 < (a0.size : Int) := of_decide_eq_true qe_
              have hx5 := bt_at a0 x3_1
              replace p5 := eq_true p5
              replace q5 := eq_true q5
              go_wp2
              go_roundg k1
              case measure => have := HK1.out; omega
              case rel => exact ⟨(wrap64 (x3_1 + 1)), qc_, H', ⟨by have := HK1.out; omega⟩, by repeat (first | exact Drawn0.refl _ | apply Drawn0.step)⟩
            · rw [if_neg c7] at H
              have c7b0 : ((bt a0 x3_1) == 116) = false := beq_eq_false_iff_ne.mpr c7
              have c7b1 : ((bt a0 x3_1) != 116) = true := bne_iff_ne.mpr c7
              by_cases c8 : (bt a0 x3_1) = 83
              · rw [if_pos c8] at H
                have c8b0 : ((bt a0 x3_1) == 83) = true := beq_iff_eq.mpr c8
                have c8b1 : ((bt a0 x3_1) != 83) = false := bne_eq_false_iff_eq.mpr c8
                clear c8
                have H' := Aside0.mk H
                clear H
                have p5 : 0 ≤ (x3_1 : Int) := of_decide_eq_true qe_
                have q5 : x3_1 < (a0.size : Int) := of_decide_eq_true qe_
                have hx5 := bt_at a0 x3_1
                replace p5 := eq_true p5
                replace q5 := eq_true q5
                go_wp2
                go_roundg k1
                case measure => have := HK1.out; omega
                case rel => exact ⟨(wrap64 (x3_1 + 1)), qc_, H', ⟨by have := HK1.out; omega⟩, by repeat (first | exact Drawn0.refl _ | apply Drawn0.step)⟩
              · rw [if_neg c8] at H
                have c8b0 : ((bt a0 x3_1) == 83) = false := beq_eq_false_iff_ne.mpr c8
                have c8b1 : ((bt a0 x3_1) != 83) = true := bne_iff_ne.mpr c8
                by_cases c9 : (bt a0 x3_1) = 115
                · rw [if_pos c9] at H
                  have c9b0 : ((bt a0 x3_1) == 115) = true := beq_iff_eq.mpr c9
                  have c9b1 : ((bt a0 x3_1) != 115) = false := bne_eq_false_iff_eq.mpr c9
                  clear c9
                  have H' := Aside0.mk H
                  clear H
                  have p5 : 0 ≤ (x3_1 : Int) := of_decide_eq_true qe_
                  have q5 : x3_1 < (a0.size : Int) := of_decide_eq_true qe_
                  have hx5 := bt_at a0 x3_1
                  replace p5 := eq_true p5
                  replace q5 := eq_true q5
                  go_wp2
                  go_roundg k1
                  case measure => have := HK1.out; omega
                  case rel => exact ⟨(wrap64 (x3_1 + 1)), qc_, H', ⟨by have := HK1.out; omega⟩, by repeat (first | exact Drawn0.refl _ | apply Drawn0.step)⟩
                · rw [if_neg c9] at H
                  have c9b0 : ((bt a0 x3_1) == 115) = false := beq_eq_false_iff_ne.mpr c9
                  have c9b1 : ((bt a0 x3_1) != 115) = true := bne_iff_ne.mpr c9
                  obtain rfl := Option.some.inj H
                  have p5 : 0 ≤ (x3_1 : Int) := of_decide_eq_true qe_
                  have q5 : x3_1 < (a0.size : Int) := of_decide_eq_true qe_
                  have hx5 := bt_at a0 x3_1
                  replace p5 := eq_true p5
                  replace q5 := eq_true q5
                  go_wp2
                  go_ret
                  exact ⟨qc_, by repeat (first | exact Drawn0.refl _ | apply Drawn0.step)⟩
        · rw [if_neg c3] at H
          have c3b0 := decide_eq_false c3
          clear c3
          obtain rfl := Option.some.inj H
          go_wp2
          go_ret
          exact ⟨qc_, by repeat (first | exact Drawn0.refl _ | apply Drawn0.step)⟩
end Go.Proofs.Ytoijcallajegfaa.A
end
section
namespace Go.Proofs.Ytoijcallajegfaa.A
open Go.RowKit Go.Proofs.YtoijcallajegfaaW.PrintWords Go.Proofs.YtoijcallajegfaaW.PrintLast Go.Proofs.YtoijcallajegfaaW.PrintMore
attribute [local go_sem] max2_int min2_int max_two min_two max_three min_three max_four min_four
set_option linter.unusedVariables false
set_option linter.unusedSimpArgs false
def spec_l02Then.l0 : Nat → List Int → List Int → List Int → Int → Int → Option (List Int)
  | 0, _, _, _, _, _ => none
  | k + 1, x1, x5, x9, x10, x11 => if x11 < x10 then (if 0 ≤ x11 then (if x11 < (x9.length : Int) then (if 0 ≤ (rd x9 x11) then (if (rd x9 x11) < (x1.length : Int) then (if x5.length < 17592186044416 then (spec_l02Then.l0 k x1 (x5 ++ [rd x1 (rd x9 x11)]) x9 x10 (wrap64 (x11 + 1))) else (none)) else (none)) else (none)) else (none)) else (none)) else (some x5)
def spec_l02Then.f (k : Nat) (l0 : List Int) (l1 : List Int) : Option (List Int) := spec_l02Then.l0 k l1 (([] : List Int)) l0 (l0.length : Int) 0
theorem spec_l02Then.mono_l : ∀ k, (∀ y0 y1 y2 y3 y4, LeO (spec_l02Then.l0 k y0 y1 y2 y3 y4) (spec_l02Then.l0 (k + 1) y0 y1 y2 y3 y4))
  | 0 => fun _ _ _ _ _ r h => by simp [spec_l02Then.l0] at h
  | k + 1 => by
    have ih0 := spec_l02Then.mono_l k
    · intro y0 y1 y2 y3 y4
      unfold spec_l02Then.l0
      repeat' first|exact ih0 _ _ _ _ _|exact lo_|refine LeO.ite ?_ ?_|refine LeO.bind ?_ (fun _ => ?_)
theorem spec_l02Then.mono : ∀ a0 a1 k, LeO (spec_l02Then.f k a0 a1) (spec_l02Then.f (k + 1) a0 a1) := by
  intro a0 a1 k
  have ih0 := spec_l02Then.mono_l k
  unfold spec_l02Then.f
  repeat' first|exact ih0 _ _ _ _ _|exact lo_|refine LeO.ite ?_ ?_|refine LeO.bind ?_ (fun _ => ?_)
set_option maxHeartbeats 8000000 in
set_option maxRecDepth 100000 in
theorem spec_l02Then.calls (k : Nat) (A0 : Option Addr) (c0 : Nat) (l0 : List Int) (A1 : Option Addr) (c1 : Nat) (l1 : List Int) (r : List Int) (w : World) (hr0 : Kd.C (Kd.int .i64) w A0 l0.length l0) (hc0 : l0.length ≤ c0) (hr1 : Kd.C (Kd.int .i64) w A1 l1.length l1) (hc1 : l1.length ≤ c1) (h : spec_l02Then.f k l0 l1 = some r) :
    Calls Try.prog 110 #[.slice A0 l0.length c0, .slice A1 l1.length c1] w fun e w' => ∃ v0_ : Value, e = .returned (v0_) ∧ Kd.R (Kd.int .i64) 3 w' w.heap.size (fun _ => True) v0_ r ∧ Below w.heap.size w w' := by
  have HR0 := Aside0.mk hr0
  have HC0 := Aside0.mk hc0
  clear hr0 hc0
  have HR1 := Aside0.mk hr1
  have HC1 := Aside0.mk hc1
  clear hr1 hc1
  have HB := Aside0.mk (Below.refl w.heap.size w)
  have H := h
  unfold spec_l02Then.f at H
  clear h
  obtain ⟨y408, hy408⟩ : ∃ y_ : List Int, y_ = (([] : List Int)) := ⟨_, rfl⟩
  replace H : (spec_l02Then.l0 k l1 y408 l0 (l0.length : Int) 0) = some r := by first | (rw [hy408]; exact H) | exact H
  have Ny408 := Aside0.mk hy408
  clear hy408
  have H' := Aside0.mk H
  clear H
  go_enter Try.func110, Try.ntmps110
  go_wp2_with (first | ((with_reducible refine gate_dst (N := 8) rfl ?_); refine Kd.R_lit (Kd.int .i64) _ 3 ?hg (N := 8) ?hd (xs := ([] : List Int)) (inner := []) (ok := fun _ => True) (okp := fun _ => True) ?hr ?hp (fun _ hk => hk) trivial (Below.refl _ _) (Nat.le_refl _) (by simp) ?_; (case hd => rfl); (case hg => rfl); (case hr => first | (go_simp; done) | (go_simp; rfl)); (case hp => exact (Reps.none _ _)); intro v409 w3 ho4 hb hg_ hnew_; clear hg_ hnew_; (first | rw [← Ny408.out] at ho4 | (simp only [Int.reduceToNat] at ho4; rw [← Ny408.out] at ho4)); have HO410 := rl_ w ho4; replace HB := b1_ hb; clear hb ho4))
  go_loopg [5, 11] k (fun kq v5 v11 w' => ∃ (x5_1 : List Int) (x11_1 : Int), v11 = .int .i64 x11_1 ∧ Aside0 (spec_l02Then.l0 kq l1 x5_1 l0 (l0.length : Int) x11_1 = some r) ∧ Aside0 (kq ≤ k) ∧ Aside0 (Kd.R (Kd.int .i64) 3 w' w.heap.size (fun _ => True) v5 x5_1) ∧ Aside0 (Below w.heap.size w w'))
  case atStart => exact ⟨(y408), (0), qc_, H', ⟨Nat.le_refl _⟩, ⟨(rr_ HO410)⟩, ⟨hB_⟩⟩
  case round =>
    clear H'
    obtain ⟨x5_1, x11_1, rfl, HA, HK1, HO_5, HB⟩ := hrel
    cases gk with
    | zero => exact absurd HA.out (by simp [spec_l02Then.l0])
    | succ k1 =>
      have H := HA.out
      clear HA
      simp only [spec_l02Then.l0] at H
      by_cases c5 : x11_1 < (l0.length : Int)
      · rw [if_pos c5] at H
        have c5b0 := decide_eq_true c5
        clear c5
        have c6 := cp_ H
        replace H := ca_ H
        have c6b0 := decide_eq_true c6
        clear c6
        have c7 := cp_ H
        replace H := ca_ H
        have c7b0 := decide_eq_true c7
        clear c7
        have c8 := cp_ H
        replace H := ca_ H
        have c8b0 := decide_eq_true c8
        clear c8
        have c9 := cp_ H
        replace H := ca_ H
        have c9b0 := decide_eq_true c9
        clear c9
        have c10 := cp_ H
        replace H := ca_ H
        have LMc10 := Aside0.mk c10
        clear c10
        obtain ⟨y413, hy413⟩ : ∃ y_ : List Int, y_ = (x5_1 ++ [rd l1 (rd l0 x11_1)]) := ⟨_, rfl⟩
        replace H : (spec_l02Then.l0 k1 l1 y413 l0 (l0.length : Int) (wrap64 (x11_1 + 1))) = some r := by first | (rw [hy413]; exact H) | exact H
        have Ny413 := Aside0.mk hy413
        clear hy413
        have H' := Aside0.mk H
        clear H
        have p411 : 0 ≤ (x11_1 : Int) := of_decide_eq_true qe_
        have q411 : x11_1 < (l0.length : Int) := of_decide_eq_true qe_
        obtain ⟨ad411, e411, hx411_0⟩ := Kd.at_int HR0.out x11_1 p411 q411
        cases e411
        replace hx411_0 := (HB.out.cell (World.block_lt_of_cell? w _ hx411_0)).trans hx411_0
        replace p411 := eq_true p411
        replace q411 := eq_true q411
        have p412 : 0 ≤ ((rd l0 x11_1) : Int) := of_decide_eq_true qe_
        have q412 : (rd l0 x11_1) < (l1.length : Int) := of_decide_eq_true qe_
        obtain ⟨ad412, e412, hx412_0⟩ := Kd.at_int HR1.out (rd l0 x11_1) p412 q412
        cases e412
        replace hx412_0 := (HB.out.cell (World.block_lt_of_cell? w _ hx412_0)).trans hx412_0
        replace p412 := eq_true p412
        replace q412 := eq_true q412
        go_wp2_with (first | ((with_reducible refine gate_builtin (b := .append) (xs := #[.tmp 15, .tmp 20]) rfl ?_); at_builtin; refine Kd.R_append (Kd.int .i64) (w0 := w) w.heap.size rfl (.tmp 15) (.tmp 20) 23 3 (.int .i64 0) 8 rfl Try.underlying23 info3 rfl (by decide) (by omega) u5 x5_1 (rd l1 (rd l0 x11_1)) [.int .i64 (rd l1 (rd l0 x11_1))] (fun _ => True) (fun _ => False) rfl rfl ?aP (fun _ hk => hk.elim) ?aF ?aO ?aB ?aS ?aL ?_; (case aP => exact rfl); (case aB => exact hB_); (case aF => exact (fun _ _ => trivial)); (case aO => exact (rr_ HO_5)); (case aS => exact (below_size hB_)); (case aL => have := LMc10.out; omega); intro v414 w11 ho hb hg hat; rw [← Ny413.out] at ho; replace HB := Aside0.mk hb; have HO415 := Aside0.mk ho; clear HO_5; clear ho hb hg hat))
        go_roundg k1
        case measure => have := HK1.out; omega
        case rel => exact ⟨(y413), (wrap64 (x11_1 + 1)), qc_, H', ⟨by have := HK1.out; omega⟩, ⟨(rr_ HO415)⟩, ⟨hB_⟩⟩
      · rw [if_neg c5] at H
        have c5b0 := decide_eq_false c5
        clear c5
        obtain rfl := Option.some.inj H
        go_wp2
        go_ret
        exact ⟨_, qb_, (rr_ HO_5), hB_⟩
end Go.Proofs.Ytoijcallajegfaa.A
end
section
namespace Go.Proofs.Ytoijcallajegfaa.A
open Go.RowKit Go.Proofs.YtoijcallajegfaaW.PrintWords Go.Proofs.YtoijcallajegfaaW.PrintLast Go.Proofs.YtoijcallajegfaaW.PrintMore
attribute [local go_sem] max2_int min2_int max_two min_two max_three min_three max_four min_four
set_option linter.unusedVariables false
set_option linter.unusedSimpArgs false
def spec_l02Inverse.l0 : Nat → List Int → List Int → Int → Int → Option (List Int)
  | 0, _, _, _, _ => none
  | k + 1, x3, x9, x10, x11 => if x11 < x10 then (if 0 ≤ x11 then (if x11 < (x9.length : Int) then (if 0 ≤ (rd x9 x11) then (if (rd x9 x11) < (x3.length : Int) then (spec_l02Inverse.l0 k (x3.set ((rd x9 x11) : Int).toNat x11) x9 x10 (wrap64 (x11 + 1))) else (none)) else (none)) else (none)) else (none)) else (some x3)
def spec_l02Inverse.f (k : Nat) (l0 : List Int) : Option (List Int) := if 0 ≤ (l0.length : Int) then (if ((l0.length : Int) : Int).toNat ≤ 35184372088832 then (spec_l02Inverse.l0 k (List.replicate ((l0.length : Int) : Int).toNat 0) l0 (l0.length : Int) 0) else (none)) else (none)
theorem spec_l02Inverse.mono_l : ∀ k, (∀ y0 y1 y2 y3, LeO (spec_l02Inverse.l0 k y0 y1 y2 y3) (spec_l02Inverse.l0 (k + 1) y0 y1 y2 y3))
  | 0 => fun _ _ _ _ r h => by simp [spec_l02Inverse.l0] at h
  | k + 1 => by
    have ih0 := spec_l02Inverse.mono_l k
    · intro y0 y1 y2 y3
      unfold spec_l02Inverse.l0
      repeat' first|exact ih0 _ _ _ _|exact lo_|refine LeO.ite ?_ ?_|refine LeO.bind ?_ (fun _ => ?_)
theorem spec_l02Inverse.mono : ∀ a0 k, LeO (spec_l02Inverse.f k a0) (spec_l02Inverse.f (k + 1) a0) := by
  intro a0 k
  have ih0 := spec_l02Inverse.mono_l k
  unfold spec_l02Inverse.f
  repeat' first|exact ih0 _ _ _ _|exact lo_|refine LeO.ite ?_ ?_|refine LeO.bind ?_ (fun _ => ?_)
set_option maxHeartbeats 8000000 in
set_option maxRecDepth 100000 in
theorem spec_l02Inverse.calls (k : Nat) (A0 : Option Addr) (c0 : Nat) (l0 : List Int) (r : List Int) (w : World) (hr0 : Kd.C (Kd.int .i64) w A0 l0.length l0) (hc0 : l0.length ≤ c0) (h : spec_l02Inverse.f k l0 = some r) :
    Calls Try.prog 111 #[.slice A0 l0.length c0] w fun e w' => ∃ v0_ : Value, e = .returned (v0_) ∧ Kd.R (Kd.int .i64) 3 w' w.heap.size (fun _ => True) v0_ r ∧ Below w.heap.size w w' := by
  have HR0 := Aside0.mk hr0
  have HC0 := Aside0.mk hc0
  clear hr0 hc0
  have HB := Aside0.mk (Below.refl w.heap.size w)
  have H := h
  unfold spec_l02Inverse.f at H
  clear h
  have c2 := cp_ H
  replace H := ca_ H
  have c2b0 := eq_true c2
  have c2b1 := decide_eq_true c2
  clear c2
  have c3 := cp_ H
  replace H := ca_ H
  have c3b0 := eq_true c3
  have c3b1 := decide_eq_true c3
  clear c3
  obtain ⟨y416, hy416⟩ : ∃ y_ : List Int, y_ = (List.replicate ((l0.length : Int) : Int).toNat 0) := ⟨_, rfl⟩
  replace H : (spec_l02Inverse.l0 k y416 l0 (l0.length : Int) 0) = some r := by first | (rw [hy416]; exact H) | exact H
  have Ny416 := Aside0.mk hy416
  clear hy416
  have H' := Aside0.mk H
  clear H
  go_enter Try.func111, Try.ntmps111
  go_wp2_with (first | ((with_reducible refine gate_dst (N := 8) rfl ?_); refine Kd.R_make (Kd.int .i64) _ 3 rfl (N := 8) rfl 23 _ _ rfl (l0.length : Int) rfl rfl Try.underlying23 (.int .i64 0) 8 info3 rfl (by decide) (by omega) 0 (ok := fun _ => True) (okp := fun _ => True) rfl (fun _ hk => hk) trivial (of_decide_eq_true qe_) (Nat.le_trans (Nat.mul_le_mul_right _ (of_decide_eq_true qe_ : (l0.length : Int).toNat ≤ 35184372088832)) (by omega)) (Below.refl _ _) (Nat.le_refl _) ?_; intro v417 w4 ho5 hb hg_ hnew_; clear hg_ hnew_; (first | rw [← Ny416.out] at ho5 | (simp only [Int.reduceToNat] at ho5; rw [← Ny416.out] at ho5)); have HO418 := rl_ w ho5; replace HB := b1_ hb; clear hb ho5))
  go_loopg [11] k (fun kq v11 w' => ∃ (x3_1 : List Int) (x11_1 : Int), v11 = .int .i64 x11_1 ∧ Aside0 (spec_l02Inverse.l0 kq x3_1 l0 (l0.length : Int) x11_1 = some r) ∧ Aside0 (kq ≤ k) ∧ Aside0 (Kd.R (Kd.int .i64) 3 w' w.heap.size (fun _ => True) v417 x3_1) ∧ Aside0 (Below w.heap.size w w'))
  case atStart => exact ⟨(y416), (0), qc_, H', ⟨Nat.le_refl _⟩, ⟨(rr_ HO418)⟩, ⟨hB_⟩⟩
  case round =>
    clear H'
    obtain ⟨x3_1, x11_1, rfl, HA, HK1, HO_3, HB⟩ := hrel
    cases gk with
    | zero => exact absurd HA.out (by simp [spec_l02Inverse.l0])
    | succ k1 =>
      have H := HA.out
      clear HA
      simp only [spec_l02Inverse.l0] at H
      by_cases c6 : x11_1 < (l0.length : Int)
      · rw [if_pos c6] at H
        have c6b0 := decide_eq_true c6
        clear c6
        have c7 := cp_ H
        replace H := ca_ H
        have c7b0 := decide_eq_true c7
        clear c7
        have c8 := cp_ H
        replace H := ca_ H
        have c8b0 := decide_eq_true c8
        clear c8
        have c9 := cp_ H
        replace H := ca_ H
        have c9b0 := decide_eq_true c9
        clear c9
        have c10 := cp_ H
        replace H := ca_ H
        have c10b0 := decide_eq_true c10
        clear c10
        obtain ⟨y420, hy420⟩ : ∃ y_ : List Int, y_ = (x3_1.set ((rd l0 x11_1) : Int).toNat x11_1) := ⟨_, rfl⟩
        replace H : (spec_l02Inverse.l0 k1 y420 l0 (l0.length : Int) (wrap64 (x11_1 + 1))) = some r := by first | (rw [hy420]; exact H) | exact H
        have Ny420 := Aside0.mk hy420
        clear hy420
        have H' := Aside0.mk H
        clear H
        have p419 : 0 ≤ (x11_1 : Int) := of_decide_eq_true qe_
        have q419 : x11_1 < (l0.length : Int) := of_decide_eq_true qe_
        obtain ⟨ad419, e419, hx419_0⟩ := Kd.at_int HR0.out x11_1 p419 q419
        cases e419
        replace hx419_0 := (HB.out.cell (World.block_lt_of_cell? w _ hx419_0)).trans hx419_0
        replace p419 := eq_true p419
        replace q419 := eq_true q419
        have p11 : 0 ≤ ((rd l0 x11_1) : Int) := of_decide_eq_true qe_
        have q11 : ((rd l0 x11_1) : Int) < ((x3_1.length : Int) : Int) := of_decide_eq_true qe_
        obtain ⟨go11, co11, eo11, gb11, gl11, cl11, HG11⟩ := Kd.R_form HO_3.out (by omega)
        (first | cases eo11 | (injection eo11 with ea_ en_ ec_; (first | subst ea_ | (injection ea_ with ea_; subst ea_)); subst ec_; clear en_))
        have GB11 := Aside0.mk gb11
        have GG11 := Aside0.mk HG11
        clear gb11 gl11 HG11
        obtain ⟨hx11_0, hf11_0⟩ := Kd.R_celln 0 HO_3.out ((rd l0 x11_1) : Int) p11 q11
        replace p11 := eq_true p11
        replace q11 := eq_true q11
        have HP12 := Kd.R_putg HO_3.out ((rd l0 x11_1) : Int) x11_1
        go_wp2_with (first | ((with_reducible refine gate_store (t := 3) (p := 19) rfl ?_); refine store_event (t := 3) (p := 19) (v := ?vo_w13) (w1 := (wr.setCell ⟨go11, ((rd l0 x11_1) : Int).toNat, none⟩ (.int .i64 x11_1))) ?hg ?ho ?hn ?hr ?_; (case ho => rfl); (case hg => rfl); (case hn => rfl); (case hr => first | (go_simp; done) | (go_simp; rfl)); intro w13 hw; have hg : wr.grownBy w13 (some go11) := (by rw [hw]; exact HP12.2); have hp_ : Kd.R (Kd.int .i64) 3 w13 w.heap.size (fun _ => True) (.slice (some ⟨go11, 0, none⟩) x3_1.length co11) y420 := (by rw [hw, Ny420.out]; exact HP12.1); clear HP12; replace HO_3 := Aside0.mk (hp_); replace HB := Aside0.mk ((by rw [hw]; exact below_set (HB.out) GB11.out : Below w.heap.size w w13)); clear hg hw hp_))
        go_roundg k1
        case measure => have := HK1.out; omega
        case rel => exact ⟨(y420), (wrap64 (x11_1 + 1)), qc_, H', ⟨by have := HK1.out; omega⟩, ⟨(rr_ HO_3)⟩, ⟨hB_⟩⟩
      · rw [if_neg c6] at H
        have c6b0 := decide_eq_false c6
        clear c6
        obtain rfl := Option.some.inj H
        go_wp2
        go_ret
        exact ⟨_, qb_, (rr_ HO_3), hB_⟩
end Go.Proofs.Ytoijcallajegfaa.A
end
section
namespace Go.Proofs.Ytoijcallajegfaa.A
open Go.RowKit Go.Proofs.YtoijcallajegfaaW.PrintWords Go.Proofs.YtoijcallajegfaaW.PrintLast Go.Proofs.YtoijcallajegfaaW.PrintMore
attribute [local go_sem] max2_int min2_int max_two min_two max_three min_three max_four min_four
set_option linter.unusedVariables false
set_option linter.unusedSimpArgs false
def spec_l05Shear.f (k : Nat) (l0_0 : List Int) (l0_1 : List Int) : Option (List Int × List Int) := (some (([] : List Int) : List Int)).bind fun y423 => (if y423.length + l0_0.length < 17592186044416 then ((spec_l02Inverse.f k l0_0).bind fun t429 => ((spec_l02Then.f k t429 l0_1).bind fun t432 => (some ((y423 ++ l0_0), t432)))) else (none))
theorem spec_l05Shear.mono : ∀ a0 a1 k, LeO (spec_l05Shear.f k a0 a1) (spec_l05Shear.f (k + 1) a0 a1) := by
  intro a0 a1 k
  unfold spec_l05Shear.f
  repeat' first|exact spec_l02Inverse.mono _ _|exact spec_l02Then.mono _ _ _|exact lo_|refine LeO.ite ?_ ?_|refine LeO.bind ?_ (fun _ => ?_)
def spec_l05Shear.T1 : Bool × List (List Nat × List Nat) := (true, [([], []), ([], []), ([1], [1]), ([0, 2], [0, 2]), ([], []), ([4], [4]), ([5, 3], [5]), ([], []), ([7], [7]), ([6, 8, 6], [6, 8]), ([3, 9], [3, 9]), ([10, 9, 0, 1, 2, 3, 4, 5, 6, 7, 8, 9, 10], [10])])
def spec_l05Shear.B1 : List Nat := [0, 0, 2, 7, 0, 16, 63, 0, 128, 511, 1023, 2047]
theorem spec_l05Shear.tab1 : rtab .any (opsOf Try.f65 1) = spec_l05Shear.T1 := by kernel_rfl
theorem spec_l05Shear.bits1 : waitsOk spec_l05Shear.T1.2 spec_l05Shear.B1 = true := by kernel_rfl
set_option maxHeartbeats 8000000 in
set_option maxRecDepth 100000 in
theorem spec_l05Shear.calls (k : Nat) (A0_0 : Option Addr) (c0_0 : Nat) (l0_0 : List Int) (A0_1 : Option Addr) (c0_1 : Nat) (l0_1 : List Int) (r1 : List Int) (r2 : List Int) (w : World) (hr0_0 : Kd.C (Kd.int .i64) w A0_0 l0_0.length l0_0) (hc0_0 : l0_0.length ≤ c0_0) (hr0_1 : Kd.C (Kd.int .i64) w A0_1 l0_1.length l0_1) (hc0_1 : l0_1.length ≤ c0_1) (h : spec_l05Shear.f k l0_0 l0_1 = some (r1, r2)) :
    Calls Try.prog 65 #[.agg #[.slice A0_0 l0_0.length c0_0, .slice A0_1 l0_1.length c0_1]] w fun e w' => ∃ v0_ v1_ : Value, e = .returned (.agg #[v0_, v1_]) ∧ Kd.R (Kd.int .i64) 3 w' w.heap.size (fun k_ => some k_ ≠ (v1_ : Value).ownBlock) v0_ r1 ∧ Kd.R (Kd.int .i64) 3 w' w.heap.size (fun k_ => some k_ ≠ (v0_ : Value).ownBlock) v1_ r2 ∧ Below w.heap.size w w' := by
  have hu33 := Try.underlying33
  have HR0_0 := Aside0.mk hr0_0
  have HC0_0 := Aside0.mk hc0_0
  clear hr0_0 hc0_0
  have HR0_1 := Aside0.mk hr0_1
  have HC0_1 := Aside0.mk hc0_1
  clear hr0_1 hc0_1
  have HB := Aside0.mk (Below.refl w.heap.size w)
  have H := h
  unfold spec_l05Shear.f at H
  clear h
  obtain ⟨y423, hy423⟩ : ∃ y_ : List Int, y_ = (([] : List Int)) := ⟨_, rfl⟩
  replace H : (if y423.length + l0_0.length < 17592186044416 then ((spec_l02Inverse.f k l0_0).bind fun t429 => ((spec_l02Then.f k t429 l0_1).bind fun t432 => (some ((y423 ++ l0_0), t432)))) else (none)) = some (r1, r2) := by first | (rw [hy423]; exact H) | exact H
  have Ny423 := Aside0.mk hy423
  clear hy423
  have c2 := cp_ H
  replace H := ca_ H
  have LMc2 := Aside0.mk c2
  clear c2
  obtain ⟨y426, hy426⟩ : ∃ y_ : List Int, y_ = (y423 ++ l0_0) := ⟨_, rfl⟩
  replace H : ((spec_l02Inverse.f k l0_0).bind fun t429 => ((spec_l02Then.f k t429 l0_1).bind fun t432 => (some (y426, t432)))) = some (r1, r2) := by first | (rw [hy426]; exact H) | exact H
  have Ny426 := Aside0.mk hy426
  clear hy426
  obtain ⟨t429, A3, H⟩ := bi_ H
  obtain ⟨t432, A4, H⟩ := bi_ H
  simp only [Option.some.injEq, Prod.mk.injEq] at H
  obtain ⟨rfl, rfl⟩ := H
  go_enter Try.func65, Try.ntmps65
  try go_wp2_with (first | ((with_reducible refine gate_dst (N := 1) rfl ?_); refine bx_ 1 #[.slice A0_0 l0_0.length c0_0, .slice A0_1 l0_1.length c0_1] 33 ?_; intro gb421 hg w5 hbox hb; have BK421 := Aside0.mk hbox; have GW421 := gw_ w hg; have GE421 := GW421; replace HB := b1_ hb; clear hb hbox hg) | ((with_reducible refine gate_dst (N := 2) rfl ?_); refine bx_ 2 #[.slice none 0 0, .slice none 0 0] 33 ?_; intro gb422 hg w6 hbox hb; have BK422 := Aside0.mk hbox; have GW422 := gw_ w hg; have GE422 := GW422; replace HB := b1_ hb; have NB421_422 := gN_ BK421 hg; have NB422_421 := gP_ BK421 hg; replace BK421 := bb_ BK421 hb; clear hb hbox hg))
  replace BK421 := Aside0.mk (blk_drew BK421.out)
  replace BK422 := Aside0.mk (blk_drew BK422.out)
  replace HB := Aside0.mk (below_drew1 HB.out)
  refine start_ (n := 12) (S := fun w' => w'.cell? ⟨gb421, 0, none⟩ = some (.slice A0_0 l0_0.length c0_0) ∧ w'.cell? ⟨gb421, 1, none⟩ = some (.slice A0_1 l0_1.length c0_1)) (ds := []) (bl_ 12 0) (by kernel_rfl) rfl (by kernel_rfl) ⟨cz0_ BK421, cz1_ BK421⟩ (fun hHeld => ?_); refine with_tabW spec_l05Shear.tab1 spec_l05Shear.bits1 (fun HT_ HW_ => ?_)
  generalize w6.drew = w7 at BK421 BK422 HB hHeld ⊢
  refine pu_ 1 (some 4) (bl_ 12 2) HT_ ?_
  refine pu_ 4 (some 7) (bl_ 12 18) HT_ ?_
  refine pu_ 7 (some 10) (bl_ 12 146) HT_ ?_
  refine ta_ 2 (some 5) (bl_ 12 150) HT_ HW_ hHeld ?_
  refine ta_ 5 (some 8) (bl_ 12 182) HT_ HW_ hHeld ?_
  refine ta_ 8 (some 11) (bl_ 12 438) HT_ HW_ hHeld ?_
  refine on_ 0 (some 3) (bl_ 12 439) HT_ (fun K hK => ?_)
  refine Kd.R_lit_step (Kd.int .i64) _ 3 ?hg (N := 3) ?hd (xs := ([] : List Int)) (inner := []) (ok := fun _ => True) (okp := fun _ => True) ?hr ?hp (fun _ hk => hk) trivial (Below.refl _ _) (Nat.le_refl _) (by simp) ?_; (case hd => rfl); (case hg => rfl); (case hr => first | (go_simp; done) | (go_simp; rfl)); (case hp => exact (Reps.none _ _))
  intro v424 w8 ho9 hb hg_ hnew_
  clear hg_ hnew_
  (first | rw [← Ny423.out] at ho9 | (simp only [Int.reduceToNat] at ho9; rw [← Ny423.out] at ho9))
  have HO425 := rl_ w ho9
  replace BK421 := bb_ BK421 hb
  replace BK422 := bb_ BK422 hb
  replace HB := b1_ hb
  clear hb ho9
  refine hK.out _ _ ⟨cz0_ BK421, cz1_ BK421⟩ (fun hHeld => ?_)
  clear hK K
  refine no_ (some 3) ?_
  refine on_ 3 (some 6) (bl_ 12 447) HT_ (fun K hK => ?_)
  refine Kd.R_append_rows_step (Kd.int .i64) (w0 := w) w.heap.size (by rfl) (.tmp 3) (.tmp 5) 23 3 (.int .i64 0) 8 rfl Try.underlying23 info3 rfl (by decide) (by omega) v424 y423 l0_0 _ _ _ (fun _ => True) (fun _ => False) rfl rfl ?aO ?aR (fun _ _ h => h) (fun _ h => h.elim) ?aF ?aB ?aS ?aL ?_
  (case aR => exact cb_ HR0_0)
  (case aB => exact hB_)
  (case aF => exact (fun _ _ => trivial))
  (case aO => exact (rr_ HO425))
  (case aS => exact (below_size hB_))
  (case aL => have := LMc2.out; omega)
  intro v427 w10 ho hb hg hat
  rw [← Ny426.out] at ho
  replace BK421 := Aside0.mk (blk_grown (kk_ BK421) hg (Kd.R_ne HO425.out BK421.out (by decide)))
  replace BK422 := Aside0.mk (blk_grown (kk_ BK422) hg (Kd.R_ne HO425.out BK422.out (by decide)))
  replace HB := Aside0.mk hb
  have HO428 := Aside0.mk ho
  clear HO425
  clear ho hb hg hat
  refine hK.out _ _ ⟨cz0_ BK421, cz1_ BK421⟩ (fun hHeld => ?_)
  clear hK K
  refine no_ (some 6) ?_
  refine on_ 6 (some 9) (bl_ 12 511) HT_ (fun K hK => ?_)
  refine gO_ Try.func111 #[.slice A0_0 l0_0.length c0_0] (by rfl) rfl rfl qa_ ?_
  with_reducible refine (spec_l02Inverse.calls k _ _ l0_0 t429 _ (cb_ HR0_0) HC0_0.out A3.out).mono ?_
  rintro e w11 ⟨v430, rfl, ho0, hb⟩
  refine ⟨_, rfl, ?_⟩
  have HO431 := Aside0.mk (Kd.R_lower (Kd.R_new' ho0 (Kd.R_lt (rr_ HO428))) (below_size hB_))
  replace HO428 := Aside0.mk (Kd.R_elder' (rr_ HO428) (Kd.R_base ho0) hb)
  replace BK421 := bb_ BK421 hb
  replace BK422 := bb_ BK422 hb
  replace HB := b1_ hb
  clear hb ho0
  obtain ⟨Ao12, co12, eo12⟩ := Kd.R_slice HO431.out
  (first | subst eo12 | (injection eo12 with f1_ f2_ f3_; have f4_ := f1_.symm; have f5_ := f3_.symm; clear f1_ f2_ f3_; subst f4_; subst f5_))
  refine hK.out _ _ ⟨cz0_ BK421, cz1_ BK421⟩ (fun hHeld => ?_)
  clear hK K
  refine no_ (some 9) ?_
  refine on_ 9 (some 12) (bl_ 12 1023) HT_ (fun K hK => ?_)
  refine gO_ Try.func110 #[.slice Ao12 t429.length co12, .slice A0_1 l0_1.length c0_1] (by rfl) rfl rfl qa_ ?_
  with_reducible refine (spec_l02Then.calls k _ _ t429 _ _ l0_1 t432 _ (cr_ HO431) ((Kd.R_reads' HO431.out).2.1) (cb_ HR0_1) HC0_1.out A4.out).mono ?_
  rintro e w13 ⟨v433, rfl, ho0, hb⟩
  refine ⟨_, rfl, ?_⟩
  have HO434 := Aside0.mk (Kd.R_lower (Kd.R_new' (Kd.R_new' ho0 (Kd.R_lt (rr_ HO428))) (Kd.R_lt (rr_ HO431))) (below_size hB_))
  replace HO428 := Aside0.mk (Kd.R_elder' (rr_ HO428) (Kd.R_base ho0) hb)
  replace HO431 := Aside0.mk (Kd.R_elder' (rr_ HO431) (Kd.R_base ho0) hb)
  replace BK421 := bb_ BK421 hb
  replace BK422 := bb_ BK422 hb
  replace HB := b1_ hb
  clear hb ho0
  obtain ⟨Ao14, co14, eo14⟩ := Kd.R_slice HO434.out
  (first | subst eo14 | (injection eo14 with f1_ f2_ f3_; have f4_ := f1_.symm; have f5_ := f3_.symm; clear f1_ f2_ f3_; subst f4_; subst f5_))
  obtain ⟨Ao15, co15, eo15⟩ := Kd.R_slice HO428.out
  (first | subst eo15 | (injection eo15 with f1_ f2_ f3_; have f4_ := f1_.symm; have f5_ := f3_.symm; clear f1_ f2_ f3_; subst f4_; subst f5_))
  refine hK.out _ _ ⟨cz0_ BK421, cz1_ BK421⟩ (fun hHeld => ?_)
  clear hK K
  refine no_ (some 12) ?_
  refine pu_ 10 (some 13) (bl_ 12 2047) HT_ ?_
  refine on_ 11 (none) (bl_ 12 4095) HT_ (fun K hK => ?_)
  have hs16 : w13.cell? ⟨gb422, 0, none⟩ = some (.slice none 0 0) := cz0_ BK422
  have hfs16 := blk_frozen BK422.out 0
  have hns16_0 := NB421_422.out
  have hms16_0 := NB422_421.out
  have hs17 : w13.cell? ⟨gb422, 1, none⟩ = some (.slice none 0 0) := cz1_ BK422
  have hfs17 := blk_frozen BK422.out 1
  have hns17_0 := NB421_422.out
  have hms17_0 := NB422_421.out
  refine skip_ (w1 := ?_) (by rfl) rfl ?_ ?_
  rotate_left
  · go_simp
    rfl
  refine hK.out _ _ ⟨((cell_far (p := ⟨gb422, _, none⟩) NB421_422.out _).trans (((cell_far (p := ⟨gb422, _, none⟩) NB421_422.out _).trans (hHeld.1)))), ((cell_far (p := ⟨gb422, _, none⟩) NB421_422.out _).trans (((cell_far (p := ⟨gb422, _, none⟩) NB421_422.out _).trans (hHeld.2))))⟩ (fun hHeld => ?_)
  clear hK K
  refine done_ (done_of HT_.out (by kernel_rfl)) ?_
  try go_wp2
  refine bodyPost_ret (results_cell_row rfl _ _ gb422 33 #[.slice Ao15 y426.length co15, .slice Ao14 t432.length co14] (0, 0) _ rfl qp_ Try.underlying33 rfl (by kernel_rfl)) rfl ?_
  exact ⟨_, _, qb_, (rw_ (Kd.R_mono (fa_ HO428 BK422) (fun _ hk => hk.2))), (rw_ (Kd.R_mono (fa_ HO434 BK422) (fun _ hk => hk.1.2))), hB_⟩
end Go.Proofs.Ytoijcallajegfaa.A
end
section
namespace Go.Proofs.Ytoijcallajegfaa.A
open Go.RowKit Go.Proofs.YtoijcallajegfaaW.PrintWords Go.Proofs.YtoijcallajegfaaW.PrintLast Go.Proofs.YtoijcallajegfaaW.PrintMore
attribute [local go_sem] max2_int min2_int max_two min_two max_three min_three max_four min_four
set_option linter.unusedVariables false
set_option linter.unusedSimpArgs false
def spec_l05Unshear.f (k : Nat) (l0_0 : List Int) (l0_1 : List Int) : Option (List Int × List Int) := (some (([] : List Int) : List Int)).bind fun y807 => (if y807.length + l0_0.length < 17592186044416 then ((spec_l02Then.f k l0_0 l0_1).bind fun t813 => (some ((y807 ++ l0_0), t813))) else (none))
theorem spec_l05Unshear.mono : ∀ a0 a1 k, LeO (spec_l05Unshear.f k a0 a1) (spec_l05Unshear.f (k + 1) a0 a1) := by
  intro a0 a1 k
  unfold spec_l05Unshear.f
  repeat' first|exact spec_l02Then.mono _ _ _|exact lo_|refine LeO.ite ?_ ?_|refine LeO.bind ?_ (fun _ => ?_)
def spec_l05Unshear.T1 : Bool × List (List Nat × List Nat) := (true, [([], []), ([], []), ([1], [1]), ([0, 2], [0, 2]), ([], []), ([4], [4]), ([], []), ([6], [6]), ([5, 7, 3], [5, 7]), ([3, 8], [3, 8]), ([9, 8, 0, 1, 2, 3, 4, 5, 6, 7, 8, 9], [9])])
def spec_l05Unshear.B1 : List Nat := [0, 0, 2, 7, 0, 16, 0, 64, 255, 511, 1023]
theorem spec_l05Unshear.tab1 : rtab .any (opsOf Try.f167 1) = spec_l05Unshear.T1 := by kernel_rfl
theorem spec_l05Unshear.bits1 : waitsOk spec_l05Unshear.T1.2 spec_l05Unshear.B1 = true := by kernel_rfl
set_option maxHeartbeats 8000000 in
set_option maxRecDepth 100000 in
theorem spec_l05Unshear.calls (k : Nat) (A0_0 : Option Addr) (c0_0 : Nat) (l0_0 : List Int) (A0_1 : Option Addr) (c0_1 : Nat) (l0_1 : List Int) (r1 : List Int) (r2 : List Int) (w : World) (hr0_0 : Kd.C (Kd.int .i64) w A0_0 l0_0.length l0_0) (hc0_0 : l0_0.length ≤ c0_0) (hr0_1 : Kd.C (Kd.int .i64) w A0_1 l0_1.length l0_1) (hc0_1 : l0_1.length ≤ c0_1) (h : spec_l05Unshear.f k l0_0 l0_1 = some (r1, r2)) :
    Calls Try.prog 167 #[.agg #[.slice A0_0 l0_0.length c0_0, .slice A0_1 l0_1.length c0_1]] w fun e w' => ∃ v0_ v1_ : Value, e = .returned (.agg #[v0_, v1_]) ∧ Kd.R (Kd.int .i64) 3 w' w.heap.size (fun k_ => some k_ ≠ (v1_ : Value).ownBlock) v0_ r1 ∧ Kd.R (Kd.int .i64) 3 w' w.heap.size (fun k_ => some k_ ≠ (v0_ : Value).ownBlock) v1_ r2 ∧ Below w.heap.size w w' := by
  have hu33 := Try.underlying33
  have HR0_0 := Aside0.mk hr0_0
  have HC0_0 := Aside0.mk hc0_0
  clear hr0_0 hc0_0
  have HR0_1 := Aside0.mk hr0_1
  have HC0_1 := Aside0.mk hc0_1
  clear hr0_1 hc0_1
  have HB := Aside0.mk (Below.refl w.heap.size w)
  have H := h
  unfold spec_l05Unshear.f at H
  clear h
  obtain ⟨y807, hy807⟩ : ∃ y_ : List Int, y_ = (([] : List Int)) := ⟨_, rfl⟩
  replace H : (if y807.length + l0_0.length < 17592186044416 then ((spec_l02Then.f k l0_0 l0_1).bind fun t813 => (some ((y807 ++ l0_0), t813))) else (none)) = some (r1, r2) := by first | (rw [hy807]; exact H) | exact H
  have Ny807 := Aside0.mk hy807
  clear hy807
  have c2 := cp_ H
  replace H := ca_ H
  have LMc2 := Aside0.mk c2
  clear c2
  obtain ⟨y810, hy810⟩ : ∃ y_ : List Int, y_ = (y807 ++ l0_0) := ⟨_, rfl⟩
  replace H : ((spec_l02Then.f k l0_0 l0_1).bind fun t813 => (some (y810, t813))) = some (r1, r2) := by first | (rw [hy810]; exact H) | exact H
  have Ny810 := Aside0.mk hy810
  clear hy810
  obtain ⟨t813, A3, H⟩ := bi_ H
  simp only [Option.some.injEq, Prod.mk.injEq] at H
  obtain ⟨rfl, rfl⟩ := H
  go_enter Try.func167, Try.ntmps167
  try go_wp2_with (first | ((with_reducible refine gate_dst (N := 1) rfl ?_); refine bx_ 1 #[.slice A0_0 l0_0.length c0_0, .slice A0_1 l0_1.length c0_1] 33 ?_; intro gb805 hg w4 hbox hb; have BK805 := Aside0.mk hbox; have GW805 := gw_ w hg; have GE805 := GW805; replace HB := b1_ hb; clear hb hbox hg) | ((with_reducible refine gate_dst (N := 2) rfl ?_); refine bx_ 2 #[.slice none 0 0, .slice none 0 0] 33 ?_; intro gb806 hg w5 hbox hb; have BK806 := Aside0.mk hbox; have GW806 := gw_ w hg; have GE806 := GW806; replace HB := b1_ hb; have NB805_806 := gN_ BK805 hg; have NB806_805 := gP_ BK805 hg; replace BK805 := bb_ BK805 hb; clear hb hbox hg))
  replace BK805 := Aside0.mk (blk_drew BK805.out)
  replace BK806 := Aside0.mk (blk_drew BK806.out)
  replace HB := Aside0.mk (below_drew1 HB.out)
  refine start_ (n := 11) (S := fun w' => w'.cell? ⟨gb805, 0, none⟩ = some (.slice A0_0 l0_0.length c0_0) ∧ w'.cell? ⟨gb805, 1, none⟩ = some (.slice A0_1 l0_1.length c0_1)) (ds := []) (bl_ 11 0) (by kernel_rfl) rfl (by kernel_rfl) ⟨cz0_ BK805, cz1_ BK805⟩ (fun hHeld => ?_); refine with_tabW spec_l05Unshear.tab1 spec_l05Unshear.bits1 (fun HT_ HW_ => ?_)
  generalize w5.drew = w6 at BK805 BK806 HB hHeld ⊢
  refine pu_ 1 (some 4) (bl_ 11 2) HT_ ?_
  refine pu_ 4 (some 7) (bl_ 11 18) HT_ ?_
  refine pu_ 6 (some 9) (bl_ 11 82) HT_ ?_
  refine ta_ 2 (some 5) (bl_ 11 86) HT_ HW_ hHeld ?_
  refine ta_ 5 (some 8) (bl_ 11 118) HT_ HW_ hHeld ?_
  refine ta_ 7 (some 10) (bl_ 11 246) HT_ HW_ hHeld ?_
  refine on_ 0 (some 3) (bl_ 11 247) HT_ (fun K hK => ?_)
  refine Kd.R_lit_step (Kd.int .i64) _ 3 ?hg (N := 3) ?hd (xs := ([] : List Int)) (inner := []) (ok := fun _ => True) (okp := fun _ => True) ?hr ?hp (fun _ hk => hk) trivial (Below.refl _ _) (Nat.le_refl _) (by simp) ?_; (case hd => rfl); (case hg => rfl); (case hr => first | (go_simp; done) | (go_simp; rfl)); (case hp => exact (Reps.none _ _))
  intro v808 w7 ho8 hb hg_ hnew_
  clear hg_ hnew_
  (first | rw [← Ny807.out] at ho8 | (simp only [Int.reduceToNat] at ho8; rw [← Ny807.out] at ho8))
  have HO809 := rl_ w ho8
  replace BK805 := bb_ BK805 hb
  replace BK806 := bb_ BK806 hb
  replace HB := b1_ hb
  clear hb ho8
  refine hK.out _ _ ⟨cz0_ BK805, cz1_ BK805⟩ (fun hHeld => ?_)
  clear hK K
  refine no_ (some 3) ?_
  refine on_ 3 (some 6) (bl_ 11 255) HT_ (fun K hK => ?_)
  refine Kd.R_append_rows_step (Kd.int .i64) (w0 := w) w.heap.size (by rfl) (.tmp 3) (.tmp 5) 23 3 (.int .i64 0) 8 rfl Try.underlying23 info3 rfl (by decide) (by omega) v808 y807 l0_0 _ _ _ (fun _ => True) (fun _ => False) rfl rfl ?aO ?aR (fun _ _ h => h) (fun _ h => h.elim) ?aF ?aB ?aS ?aL ?_
  (case aR => exact cb_ HR0_0)
  (case aB => exact hB_)
  (case aF => exact (fun _ _ => trivial))
  (case aO => exact (rr_ HO809))
  (case aS => exact (below_size hB_))
  (case aL => have := LMc2.out; omega)
  intro v811 w9 ho hb hg hat
  rw [← Ny810.out] at ho
  replace BK805 := Aside0.mk (blk_grown (kk_ BK805) hg (Kd.R_ne HO809.out BK805.out (by decide)))
  replace BK806 := Aside0.mk (blk_grown (kk_ BK806) hg (Kd.R_ne HO809.out BK806.out (by decide)))
  replace HB := Aside0.mk hb
  have HO812 := Aside0.mk ho
  clear HO809
  clear ho hb hg hat
  refine hK.out _ _ ⟨cz0_ BK805, cz1_ BK805⟩ (fun hHeld => ?_)
  clear hK K
  refine no_ (some 6) ?_
  refine on_ 8 (some 11) (bl_ 11 511) HT_ (fun K hK => ?_)
  refine gO_ Try.func110 #[.slice A0_0 l0_0.length c0_0, .slice A0_1 l0_1.length c0_1] (by rfl) rfl rfl qa_ ?_
  with_reducible refine (spec_l02Then.calls k _ _ l0_0 _ _ l0_1 t813 _ (cb_ HR0_0) HC0_0.out (cb_ HR0_1) HC0_1.out A3.out).mono ?_
  rintro e w10 ⟨v814, rfl, ho0, hb⟩
  refine ⟨_, rfl, ?_⟩
  have HO815 := Aside0.mk (Kd.R_lower (Kd.R_new' ho0 (Kd.R_lt (rr_ HO812))) (below_size hB_))
  replace HO812 := Aside0.mk (Kd.R_elder' (rr_ HO812) (Kd.R_base ho0) hb)
  replace BK805 := bb_ BK805 hb
  replace BK806 := bb_ BK806 hb
  replace HB := b1_ hb
  clear hb ho0
  obtain ⟨Ao11, co11, eo11⟩ := Kd.R_slice HO815.out
  (first | subst eo11 | (injection eo11 with f1_ f2_ f3_; have f4_ := f1_.symm; have f5_ := f3_.symm; clear f1_ f2_ f3_; subst f4_; subst f5_))
  obtain ⟨Ao12, co12, eo12⟩ := Kd.R_slice HO812.out
  (first | subst eo12 | (injection eo12 with f1_ f2_ f3_; have f4_ := f1_.symm; have f5_ := f3_.symm; clear f1_ f2_ f3_; subst f4_; subst f5_))
  refine hK.out _ _ ⟨cz0_ BK805, cz1_ BK805⟩ (fun hHeld => ?_)
  clear hK K
  refine no_ (some 11) ?_
  refine pu_ 9 (some 12) (bl_ 11 1023) HT_ ?_
  refine on_ 10 (none) (bl_ 11 2047) HT_ (fun K hK => ?_)
  have hs13 : w10.cell? ⟨gb806, 0, none⟩ = some (.slice none 0 0) := cz0_ BK806
  have hfs13 := blk_frozen BK806.out 0
  have hns13_0 := NB805_806.out
  have hms13_0 := NB806_805.out
  have hs14 : w10.cell? ⟨gb806, 1, none⟩ = some (.slice none 0 0) := cz1_ BK806
  have hfs14 := blk_frozen BK806.out 1
  have hns14_0 := NB805_806.out
  have hms14_0 := NB806_805.out
  refine skip_ (w1 := ?_) (by rfl) rfl ?_ ?_
  rotate_left
  · go_simp
    rfl
  refine hK.out _ _ ⟨((cell_far (p := ⟨gb806, _, none⟩) NB805_806.out _).trans (((cell_far (p := ⟨gb806, _, none⟩) NB805_806.out _).trans (hHeld.1)))), ((cell_far (p := ⟨gb806, _, none⟩) NB805_806.out _).trans (((cell_far (p := ⟨gb806, _, none⟩) NB805_806.out _).trans (hHeld.2))))⟩ (fun hHeld => ?_)
  clear hK K
  refine done_ (done_of HT_.out (by kernel_rfl)) ?_
  try go_wp2
  refine bodyPost_ret (results_cell_row rfl _ _ gb806 33 #[.slice Ao12 y810.length co12, .slice Ao11 t813.length co11] (0, 0) _ rfl qp_ Try.underlying33 rfl (by kernel_rfl)) rfl ?_
  exact ⟨_, _, qb_, (rw_ (Kd.R_mono (fa_ HO812 BK806) (fun _ hk => hk.2))), (rw_ (Kd.R_mono (fa_ HO815 BK806) (fun _ hk => hk.2))), hB_⟩
end Go.Proofs.Ytoijcallajegfaa.A
end
section
namespace Go.Proofs.Ytoijcallajegfaa.A
open Go.RowKit Go.Proofs.YtoijcallajegfaaW.PrintWords Go.Proofs.YtoijcallajegfaaW.PrintLast Go.Proofs.YtoijcallajegfaaW.PrintMore
attribute [local go_sem] max2_int min2_int max_two min_two max_three min_three max_four min_four
set_option linter.unusedVariables false
set_option linter.unusedSimpArgs false
def spec_l05Turn.f (k : Nat) (l0_0 : List Int) (l0_1 : List Int) : Option (List Int × List Int) := (spec_l02Inverse.f k l0_1).bind fun t818 => ((some (([] : List Int) : List Int)).bind fun y821 => (if y821.length + l0_0.length < 17592186044416 then (some (t818, (y821 ++ l0_0))) else (none)))
theorem spec_l05Turn.mono : ∀ a0 a1 k, LeO (spec_l05Turn.f k a0 a1) (spec_l05Turn.f (k + 1) a0 a1) := by
  intro a0 a1 k
  unfold spec_l05Turn.f
  repeat' first|exact spec_l02Inverse.mono _ _|exact lo_|refine LeO.ite ?_ ?_|refine LeO.bind ?_ (fun _ => ?_)
def spec_l05Turn.T1 : Bool × List (List Nat × List Nat) := (true, [([], []), ([0], [0]), ([1], [1]), ([], []), ([], []), ([4], [4]), ([3, 5, 2], [3, 5]), ([2, 6], [2, 6]), ([7, 6, 0, 1, 2, 3, 4, 5, 6, 7], [7])])
def spec_l05Turn.B1 : List Nat := [0, 1, 3, 0, 0, 16, 63, 127, 255]
theorem spec_l05Turn.tab1 : rtab .any (opsOf Try.f168 1) = spec_l05Turn.T1 := by kernel_rfl
theorem spec_l05Turn.bits1 : waitsOk spec_l05Turn.T1.2 spec_l05Turn.B1 = true := by kernel_rfl
set_option maxHeartbeats 8000000 in
set_option maxRecDepth 100000 in
theorem spec_l05Turn.calls (k : Nat) (A0_0 : Option Addr) (c0_0 : Nat) (l0_0 : List Int) (A0_1 : Option Addr) (c0_1 : Nat) (l0_1 : List Int) (r1 : List Int) (r2 : List Int) (w : World) (hr0_0 : Kd.C (Kd.int .i64) w A0_0 l0_0.length l0_0) (hc0_0 : l0_0.length ≤ c0_0) (hr0_1 : Kd.C (Kd.int .i64) w A0_1 l0_1.length l0_1) (hc0_1 : l0_1.length ≤ c0_1) (h : spec_l05Turn.f k l0_0 l0_1 = some (r1, r2)) :
    Calls Try.prog 168 #[.agg #[.slice A0_0 l0_0.length c0_0, .slice A0_1 l0_1.length c0_1]] w fun e w' => ∃ v0_ v1_ : Value, e = .returned (.agg #[v0_, v1_]) ∧ Kd.R (Kd.int .i64) 3 w' w.heap.size (fun k_ => some k_ ≠ (v1_ : Value).ownBlock) v0_ r1 ∧ Kd.R (Kd.int .i64) 3 w' w.heap.size (fun k_ => some k_ ≠ (v0_ : Value).ownBlock) v1_ r2 ∧ Below w.heap.size w w' := by
  have hu33 := Try.underlying33
  have HR0_0 := Aside0.mk hr0_0
  have HC0_0 := Aside0.mk hc0_0
  clear hr0_0 hc0_0
  have HR0_1 := Aside0.mk hr0_1
  have HC0_1 := Aside0.mk hc0_1
  clear hr0_1 hc0_1
  have HB := Aside0.mk (Below.refl w.heap.size w)
  have H := h
  unfold spec_l05Turn.f at H
  clear h
  obtain ⟨t818, A2, H⟩ := bi_ H
  obtain ⟨y821, hy821⟩ : ∃ y_ : List Int, y_ = (([] : List Int)) := ⟨_, rfl⟩
  replace H : (if y821.length + l0_0.length < 17592186044416 then (some (t818, (y821 ++ l0_0))) else (none)) = some (r1, r2) := by first | (rw [hy821]; exact H) | exact H
  have Ny821 := Aside0.mk hy821
  clear hy821
  have c3 := cp_ H
  replace H := ca_ H
  have LMc3 := Aside0.mk c3
  clear c3
  obtain ⟨y824, hy824⟩ : ∃ y_ : List Int, y_ = (y821 ++ l0_0) := ⟨_, rfl⟩
  replace H : (some (t818, y824)) = some (r1, r2) := by first | (rw [hy824]; exact H) | exact H
  have Ny824 := Aside0.mk hy824
  clear hy824
  simp only [Option.some.injEq, Prod.mk.injEq] at H
  obtain ⟨rfl, rfl⟩ := H
  go_enter Try.func168, Try.ntmps168
  try go_wp2_with (first | ((with_reducible refine gate_dst (N := 1) rfl ?_); refine bx_ 1 #[.slice A0_0 l0_0.length c0_0, .slice A0_1 l0_1.length c0_1] 33 ?_; intro gb816 hg w4 hbox hb; have BK816 := Aside0.mk hbox; have GW816 := gw_ w hg; have GE816 := GW816; replace HB := b1_ hb; clear hb hbox hg) | ((with_reducible refine gate_dst (N := 2) rfl ?_); refine bx_ 2 #[.slice none 0 0, .slice none 0 0] 33 ?_; intro gb817 hg w5 hbox hb; have BK817 := Aside0.mk hbox; have GW817 := gw_ w hg; have GE817 := GW817; replace HB := b1_ hb; have NB816_817 := gN_ BK816 hg; have NB817_816 := gP_ BK816 hg; replace BK816 := bb_ BK816 hb; clear hb hbox hg))
  replace BK816 := Aside0.mk (blk_drew BK816.out)
  replace BK817 := Aside0.mk (blk_drew BK817.out)
  replace HB := Aside0.mk (below_drew1 HB.out)
  refine start_ (n := 9) (S := fun w' => w'.cell? ⟨gb816, 0, none⟩ = some (.slice A0_0 l0_0.length c0_0) ∧ w'.cell? ⟨gb816, 1, none⟩ = some (.slice A0_1 l0_1.length c0_1)) (ds := []) (bl_ 9 0) (by kernel_rfl) rfl (by kernel_rfl) ⟨cz0_ BK816, cz1_ BK816⟩ (fun hHeld => ?_); refine with_tabW spec_l05Turn.tab1 spec_l05Turn.bits1 (fun HT_ HW_ => ?_)
  generalize w5.drew = w6 at BK816 BK817 HB hHeld ⊢
  refine pu_ 0 (some 3) (bl_ 9 1) HT_ ?_
  refine pu_ 4 (some 7) (bl_ 9 17) HT_ ?_
  refine ta_ 1 (some 4) (bl_ 9 19) HT_ HW_ hHeld ?_
  refine ta_ 5 (some 8) (bl_ 9 51) HT_ HW_ hHeld ?_
  refine join_ (σ := Value × Value) 3 (bl_ 9 63) (fun s_ => [(5, s_.1), (6, s_.2)]) (fun s_ w' => (w'.cell? ⟨gb816, 0, none⟩ = some (.slice A0_0 l0_0.length c0_0) ∧ w'.cell? ⟨gb816, 1, none⟩ = some (.slice A0_1 l0_1.length c0_1)) ∧ (Kd.R (Kd.int .i64) 3 w' w.heap.size (fun k_ => some k_ ≠ (s_.2 : Value).ownBlock) s_.1 t818) ∧ (Kd.R (Kd.int .i64) 3 w' w.heap.size (fun k_ => some k_ ≠ (s_.1 : Value).ownBlock) s_.2 y821) ∧ (w'.heap[gb816]? = some (.cells #[.slice A0_0 l0_0.length c0_0, .slice A0_1 l0_1.length c0_1] 33 (0, 0))) ∧ (w'.heap[gb817]? = some (.cells #[.slice none 0 0, .slice none 0 0] 33 (0, 0))) ∧ (Below w.heap.size w w')) ?_ ?_
  rotate_left
  · intro hCont
    refine two_ (i := 2) (j := 3) (Ni := some 5) (Nj := some 6) (bl_ 9 55) (bl_ 9 59) rfl rfl rfl rfl (two_of HT_.out (by kernel_rfl)) (by decide) (by decide) (fun K hK => ?_) (fun K hK => ?_)
    · skip
      refine gO_ Try.func111 #[.slice A0_1 l0_1.length c0_1] (by rfl) rfl rfl qa_ ?_
      with_reducible refine (spec_l02Inverse.calls k _ _ l0_1 t818 _ (cb_ HR0_1) HC0_1.out A2.out).mono ?_
      rintro e w7 ⟨v819, rfl, ho0, hb⟩
      refine ⟨_, rfl, ?_⟩
      have HO820 := rl_ w ho0
      replace BK816 := bb_ BK816 hb
      replace BK817 := bb_ BK817 hb
      replace HB := b1_ hb
      clear hb ho0
      refine hK.out _ _ ⟨cz0_ BK816, cz1_ BK816⟩ (fun hHeld => ?_)
      clear hK K
      refine no_ (some 5) ?_
      refine on_ 3 (some 6) (bl_ 9 63) HT_ (fun K hK => ?_)
      refine Kd.R_lit_step (Kd.int .i64) _ 3 ?hg (N := 6) ?hd (xs := ([] : List Int)) (inner := []) (ok := fun _ => True) (okp := fun _ => True) ?hr ?hp (fun _ hk => hk) trivial (Below.refl _ _) (Nat.le_refl _) (by simp) ?_; (case hd => rfl); (case hg => rfl); (case hr => first | (go_simp; done) | (go_simp; rfl)); (case hp => exact (Reps.none _ _))
      intro v822 w8 ho9 hb hg_ hnew_
      clear hg_ hnew_
      (first | rw [← Ny821.out] at ho9 | (simp only [Int.reduceToNat] at ho9; rw [← Ny821.out] at ho9))
      have HO823 := Aside0.mk (Kd.R_lower (Kd.R_new' ho9 (Kd.R_lt (rr_ HO820))) (below_size hB_))
      replace HO820 := Aside0.mk (Kd.R_elder' (rr_ HO820) (Kd.R_base ho9) hb)
      replace BK816 := bb_ BK816 hb
      replace BK817 := bb_ BK817 hb
      replace HB := b1_ hb
      clear hb ho9
      refine hK.out _ _ ⟨cz0_ BK816, cz1_ BK816⟩ (fun hHeld => ?_)
      clear hK K
      refine no_ (some 6) ?_
      exact norm_ (by simp only [putAll, Act.put, List.setIfInBounds_toArray, List.set_cons_zero, List.set_cons_succ]) (hCont (v819, v822) _ ⟨hHeld, (rw_ (Kd.R_mono HO820.out (fun _ hk => hk.2))), (rw_ (Kd.R_mono HO823.out (fun _ hk => hk.2))), (kk_ BK816), (kk_ BK817), hB_⟩)
    · skip
      refine Kd.R_lit_step (Kd.int .i64) _ 3 ?hg (N := 6) ?hd (xs := ([] : List Int)) (inner := []) (ok := fun _ => True) (okp := fun _ => True) ?hr ?hp (fun _ hk => hk) trivial (Below.refl _ _) (Nat.le_refl _) (by simp) ?_; (case hd => rfl); (case hg => rfl); (case hr => first | (go_simp; done) | (go_simp; rfl)); (case hp => exact (Reps.none _ _))
      intro v822 w7 ho8 hb hg_ hnew_
      clear hg_ hnew_
      (first | rw [← Ny821.out] at ho8 | (simp only [Int.reduceToNat] at ho8; rw [← Ny821.out] at ho8))
      have HO823 := rl_ w ho8
      replace BK816 := bb_ BK816 hb
      replace BK817 := bb_ BK817 hb
      replace HB := b1_ hb
      clear hb ho8
      refine hK.out _ _ ⟨cz0_ BK816, cz1_ BK816⟩ (fun hHeld => ?_)
      clear hK K
      refine no_ (some 6) ?_
      refine on_ 2 (some 5) (bl_ 9 63) HT_ (fun K hK => ?_)
      refine gO_ Try.func111 #[.slice A0_1 l0_1.length c0_1] (by rfl) rfl rfl qa_ ?_
      with_reducible refine (spec_l02Inverse.calls k _ _ l0_1 t818 _ (cb_ HR0_1) HC0_1.out A2.out).mono ?_
      rintro e w9 ⟨v819, rfl, ho0, hb⟩
      refine ⟨_, rfl, ?_⟩
      have HO820 := Aside0.mk (Kd.R_lower (Kd.R_new' ho0 (Kd.R_lt (rr_ HO823))) (below_size hB_))
      replace HO823 := Aside0.mk (Kd.R_elder' (rr_ HO823) (Kd.R_base ho0) hb)
      replace BK816 := bb_ BK816 hb
      replace BK817 := bb_ BK817 hb
      replace HB := b1_ hb
      clear hb ho0
      refine hK.out _ _ ⟨cz0_ BK816, cz1_ BK816⟩ (fun hHeld => ?_)
      clear hK K
      refine no_ (some 5) ?_
      exact norm_ (by simp only [putAll, Act.put, List.setIfInBounds_toArray, List.set_cons_zero, List.set_cons_succ]) (hCont (v819, v822) _ ⟨hHeld, (rw_ (Kd.R_mono HO820.out (fun _ hk => hk.2))), (rw_ (Kd.R_mono HO823.out (fun _ hk => hk.2))), (kk_ BK816), (kk_ BK817), hB_⟩)
  rintro ⟨v819, v822⟩ w10 ⟨hS_, h0_, h1_, h2_, h3_, h4_⟩
  have n0_ : Aside0 (Kd.R (Kd.int .i64) 3 w10 w.heap.size (fun k_ => some k_ ≠ (v822 : Value).ownBlock) v819 t818) := ⟨h0_⟩
  have n1_ : Aside0 (Kd.R (Kd.int .i64) 3 w10 w.heap.size (fun k_ => some k_ ≠ (v819 : Value).ownBlock) v822 y821) := ⟨h1_⟩
  have n2_ : Aside0 (w10.heap[gb816]? = some (.cells #[.slice A0_0 l0_0.length c0_0, .slice A0_1 l0_1.length c0_1] 33 (0, 0))) := ⟨h2_⟩
  have n3_ : Aside0 (w10.heap[gb817]? = some (.cells #[.slice none 0 0, .slice none 0 0] 33 (0, 0))) := ⟨h3_⟩
  have n4_ : Aside0 (Below w.heap.size w w10) := ⟨h4_⟩
  clear BK816
  clear BK817
  clear HB
  clear h0_ h1_ h2_ h3_ h4_
  have HO820 := n0_
  have HO823 := n1_
  have BK816 := n2_
  have BK817 := n3_
  have HB := n4_
  clear n0_ n1_ n2_ n3_ n4_
  have hHeld : w10.cell? ⟨gb816, 0, none⟩ = some (.slice A0_0 l0_0.length c0_0) ∧ w10.cell? ⟨gb816, 1, none⟩ = some (.slice A0_1 l0_1.length c0_1) := hS_
  refine norm_ (a' := ?_) ?_ ?_
  rotate_left
  · simp only [putAll, Act.put, List.setIfInBounds_toArray, List.set_cons_zero, List.set_cons_succ]
    rfl
  refine on_ 6 (some 9) (bl_ 9 127) HT_ (fun K hK => ?_)
  refine Kd.R_append_rows_step (Kd.int .i64) (w0 := w) w.heap.size (by rfl) (.tmp 6) (.tmp 8) 23 3 (.int .i64 0) 8 rfl Try.underlying23 info3 rfl (by decide) (by omega) v822 y821 l0_0 _ _ _ (fun k_ => some k_ ≠ (v819 : Value).ownBlock) (fun _ => False) rfl rfl ?aO ?aR (fun _ _ h => h) (fun _ h => h.elim) ?aF ?aB ?aS ?aL ?_
  (case aR => exact cb_ HR0_0)
  (case aB => exact hB_)
  (case aF => exact (fun k_ hk => Kd.fresh' (Kd.R_lt (rr_ HO820)) k_ hk))
  (case aO => exact (rr_ HO823))
  (case aS => exact (below_size hB_))
  (case aL => have := LMc3.out; omega)
  intro v825 w11 ho hb hg hat
  rw [← Ny824.out] at ho
  replace BK816 := Aside0.mk (blk_grown (kk_ BK816) hg (Kd.R_ne HO823.out BK816.out (by decide)))
  replace BK817 := Aside0.mk (blk_grown (kk_ BK817) hg (Kd.R_ne HO823.out BK817.out (by decide)))
  replace HO820 := Aside0.mk (Kd.R_after (ok := (fun _ => True)) (rw_ (Kd.R_mono HO820.out (fun _ hk => ⟨trivial, hk⟩))) hg hat)
  replace HB := Aside0.mk hb
  have HO826 := Aside0.mk ho
  clear HO823
  clear ho hb hg hat
  obtain ⟨Ao12, co12, eo12⟩ := Kd.R_slice HO826.out
  (first | subst eo12 | (injection eo12 with f1_ f2_ f3_; have f4_ := f1_.symm; have f5_ := f3_.symm; clear f1_ f2_ f3_; subst f4_; subst f5_))
  obtain ⟨Ao13, co13, eo13⟩ := Kd.R_slice HO820.out
  (first | subst eo13 | (injection eo13 with f1_ f2_ f3_; have f4_ := f1_.symm; have f5_ := f3_.symm; clear f1_ f2_ f3_; subst f4_; subst f5_))
  refine hK.out _ _ ⟨cz0_ BK816, cz1_ BK816⟩ (fun hHeld => ?_)
  clear hK K
  refine no_ (some 9) ?_
  refine pu_ 7 (some 10) (bl_ 9 255) HT_ ?_
  refine on_ 8 (none) (bl_ 9 511) HT_ (fun K hK => ?_)
  have hs14 : w11.cell? ⟨gb817, 0, none⟩ = some (.slice none 0 0) := cz0_ BK817
  have hfs14 := blk_frozen BK817.out 0
  have hns14_0 := NB816_817.out
  have hms14_0 := NB817_816.out
  have hs15 : w11.cell? ⟨gb817, 1, none⟩ = some (.slice none 0 0) := cz1_ BK817
  have hfs15 := blk_frozen BK817.out 1
  have hns15_0 := NB816_817.out
  have hms15_0 := NB817_816.out
  refine skip_ (w1 := ?_) (by rfl) rfl ?_ ?_
  rotate_left
  · go_simp
    rfl
  refine hK.out _ _ ⟨((cell_far (p := ⟨gb817, _, none⟩) NB816_817.out _).trans (((cell_far (p := ⟨gb817, _, none⟩) NB816_817.out _).trans (hHeld.1)))), ((cell_far (p := ⟨gb817, _, none⟩) NB816_817.out _).trans (((cell_far (p := ⟨gb817, _, none⟩) NB816_817.out _).trans (hHeld.2))))⟩ (fun hHeld => ?_)
  clear hK K
  refine done_ (done_of HT_.out (by kernel_rfl)) ?_
  try go_wp2
  refine bodyPost_ret (results_cell_row rfl _ _ gb817 33 #[.slice Ao13 t818.length co13, .slice Ao12 y824.length co12] (0, 0) _ rfl qp_ Try.underlying33 rfl (by kernel_rfl)) rfl ?_
  exact ⟨_, _, qb_, (rw_ (Kd.R_mono (fa_ HO820 BK817) (fun _ hk => hk.2))), (rw_ (fa_ HO826 BK817)), hB_⟩
end Go.Proofs.Ytoijcallajegfaa.A
end
section
namespace Go.Proofs.Ytoijcallajegfaa.A
open Go.RowKit Go.Proofs.YtoijcallajegfaaW.PrintWords Go.Proofs.YtoijcallajegfaaW.PrintLast Go.Proofs.YtoijcallajegfaaW.PrintMore
attribute [local go_sem] max2_int min2_int max_two min_two max_three min_three max_four min_four
set_option linter.unusedVariables false
set_option linter.unusedSimpArgs false
def spec_l05Unturn.f (k : Nat) (l0_0 : List Int) (l0_1 : List Int) : Option (List Int × List Int) := (some (([] : List Int) : List Int)).bind fun y829 => (if y829.length + l0_1.length < 17592186044416 then ((spec_l02Inverse.f k l0_0).bind fun t835 => (some ((y829 ++ l0_1), t835))) else (none))
theorem spec_l05Unturn.mono : ∀ a0 a1 k, LeO (spec_l05Unturn.f k a0 a1) (spec_l05Unturn.f (k + 1) a0 a1) := by
  intro a0 a1 k
  unfold spec_l05Unturn.f
  repeat' first|exact spec_l02Inverse.mono _ _|exact lo_|refine LeO.ite ?_ ?_|refine LeO.bind ?_ (fun _ => ?_)
def spec_l05Unturn.T1 : Bool × List (List Nat × List Nat) := (true, [([], []), ([], []), ([1], [1]), ([0, 2], [0, 2]), ([], []), ([4], [4]), ([5, 3], [5]), ([3, 6], [3, 6]), ([7, 6, 0, 1, 2, 3, 4, 5, 6, 7], [7])])
def spec_l05Unturn.B1 : List Nat := [0, 0, 2, 7, 0, 16, 63, 127, 255]
theorem spec_l05Unturn.tab1 : rtab .any (opsOf Try.f169 1) = spec_l05Unturn.T1 := by kernel_rfl
theorem spec_l05Unturn.bits1 : waitsOk spec_l05Unturn.T1.2 spec_l05Unturn.B1 = true := by kernel_rfl
set_option maxHeartbeats 8000000 in
set_option maxRecDepth 100000 in
theorem spec_l05Unturn.calls (k : Nat) (A0_0 : Option Addr) (c0_0 : Nat) (l0_0 : List Int) (A0_1 : Option Addr) (c0_1 : Nat) (l0_1 : List Int) (r1 : List Int) (r2 : List Int) (w : World) (hr0_0 : Kd.C (Kd.int .i64) w A0_0 l0_0.length l0_0) (hc0_0 : l0_0.length ≤ c0_0) (hr0_1 : Kd.C (Kd.int .i64) w A0_1 l0_1.length l0_1) (hc0_1 : l0_1.length ≤ c0_1) (h : spec_l05Unturn.f k l0_0 l0_1 = some (r1, r2)) :
    Calls Try.prog 169 #[.agg #[.slice A0_0 l0_0.length c0_0, .slice A0_1 l0_1.length c0_1]] w fun e w' => ∃ v0_ v1_ : Value, e = .returned (.agg #[v0_, v1_]) ∧ Kd.R (Kd.int .i64) 3 w' w.heap.size (fun k_ => some k_ ≠ (v1_ : Value).ownBlock) v0_ r1 ∧ Kd.R (Kd.int .i64) 3 w' w.heap.size (fun k_ => some k_ ≠ (v0_ : Value).ownBlock) v1_ r2 ∧ Below w.heap.size w w' := by
  have hu33 := Try.underlying33
  have HR0_0 := Aside0.mk hr0_0
  have HC0_0 := Aside0.mk hc0_0
  clear hr0_0 hc0_0
  have HR0_1 := Aside0.mk hr0_1
  have HC0_1 := Aside0.mk hc0_1
  clear hr0_1 hc0_1
  have HB := Aside0.mk (Below.refl w.heap.size w)
  have H := h
  unfold spec_l05Unturn.f at H
  clear h
  obtain ⟨y829, hy829⟩ : ∃ y_ : List Int, y_ = (([] : List Int)) := ⟨_, rfl⟩
  replace H : (if y829.length + l0_1.length < 17592186044416 then ((spec_l02Inverse.f k l0_0).bind fun t835 => (some ((y829 ++ l0_1), t835))) else (none)) = some (r1, r2) := by first | (rw [hy829]; exact H) | exact H
  have Ny829 := Aside0.mk hy829
  clear hy829
  have c2 := cp_ H
  replace H := ca_ H
  have LMc2 := Aside0.mk c2
  clear c2
  obtain ⟨y832, hy832⟩ : ∃ y_ : List Int, y_ = (y829 ++ l0_1) := ⟨_, rfl⟩
  replace H : ((spec_l02Inverse.f k l0_0).bind fun t835 => (some (y832, t835))) = some (r1, r2) := by first | (rw [hy832]; exact H) | exact H
  have Ny832 := Aside0.mk hy832
  clear hy832
  obtain ⟨t835, A3, H⟩ := bi_ H
  simp only [Option.some.injEq, Prod.mk.injEq] at H
  obtain ⟨rfl, rfl⟩ := H
  go_enter Try.func169, Try.ntmps169
  try go_wp2_with (first | ((with_reducible refine gate_dst (N := 1) rfl ?_); refine bx_ 1 #[.slice A0_0 l0_0.length c0_0, .slice A0_1 l0_1.length c0_1] 33 ?_; intro gb827 hg w4 hbox hb; have BK827 := Aside0.mk hbox; have GW827 := gw_ w hg; have GE827 := GW827; replace HB := b1_ hb; clear hb hbox hg) | ((with_reducible refine gate_dst (N := 2) rfl ?_); refine bx_ 2 #[.slice none 0 0, .slice none 0 0] 33 ?_; intro gb828 hg w5 hbox hb; have BK828 := Aside0.mk hbox; have GW828 := gw_ w hg; have GE828 := GW828; replace HB := b1_ hb; have NB827_828 := gN_ BK827 hg; have NB828_827 := gP_ BK827 hg; replace BK827 := bb_ BK827 hb; clear hb hbox hg))
  replace BK827 := Aside0.mk (blk_drew BK827.out)
  replace BK828 := Aside0.mk (blk_drew BK828.out)
  replace HB := Aside0.mk (below_drew1 HB.out)
  refine start_ (n := 9) (S := fun w' => w'.cell? ⟨gb827, 0, none⟩ = some (.slice A0_0 l0_0.length c0_0) ∧ w'.cell? ⟨gb827, 1, none⟩ = some (.slice A0_1 l0_1.length c0_1)) (ds := []) (bl_ 9 0) (by kernel_rfl) rfl (by kernel_rfl) ⟨cz0_ BK827, cz1_ BK827⟩ (fun hHeld => ?_); refine with_tabW spec_l05Unturn.tab1 spec_l05Unturn.bits1 (fun HT_ HW_ => ?_)
  generalize w5.drew = w6 at BK827 BK828 HB hHeld ⊢
  refine pu_ 1 (some 4) (bl_ 9 2) HT_ ?_
  refine pu_ 4 (some 7) (bl_ 9 18) HT_ ?_
  refine ta_ 2 (some 5) (bl_ 9 22) HT_ HW_ hHeld ?_
  refine ta_ 5 (some 8) (bl_ 9 54) HT_ HW_ hHeld ?_
  refine on_ 0 (some 3) (bl_ 9 55) HT_ (fun K hK => ?_)
  refine Kd.R_lit_step (Kd.int .i64) _ 3 ?hg (N := 3) ?hd (xs := ([] : List Int)) (inner := []) (ok := fun _ => True) (okp := fun _ => True) ?hr ?hp (fun _ hk => hk) trivial (Below.refl _ _) (Nat.le_refl _) (by simp) ?_; (case hd => rfl); (case hg => rfl); (case hr => first | (go_simp; done) | (go_simp; rfl)); (case hp => exact (Reps.none _ _))
  intro v830 w7 ho8 hb hg_ hnew_
  clear hg_ hnew_
  (first | rw [← Ny829.out] at ho8 | (simp only [Int.reduceToNat] at ho8; rw [← Ny829.out] at ho8))
  have HO831 := rl_ w ho8
  replace BK827 := bb_ BK827 hb
  replace BK828 := bb_ BK828 hb
  replace HB := b1_ hb
  clear hb ho8
  refine hK.out _ _ ⟨cz0_ BK827, cz1_ BK827⟩ (fun hHeld => ?_)
  clear hK K
  refine no_ (some 3) ?_
  refine on_ 3 (some 6) (bl_ 9 63) HT_ (fun K hK => ?_)
  refine Kd.R_append_rows_step (Kd.int .i64) (w0 := w) w.heap.size (by rfl) (.tmp 3) (.tmp 5) 23 3 (.int .i64 0) 8 rfl Try.underlying23 info3 rfl (by decide) (by omega) v830 y829 l0_1 _ _ _ (fun _ => True) (fun _ => False) rfl rfl ?aO ?aR (fun _ _ h => h) (fun _ h => h.elim) ?aF ?aB ?aS ?aL ?_
  (case aR => exact cb_ HR0_1)
  (case aB => exact hB_)
  (case aF => exact (fun _ _ => trivial))
  (case aO => exact (rr_ HO831))
  (case aS => exact (below_size hB_))
  (case aL => have := LMc2.out; omega)
  intro v833 w9 ho hb hg hat
  rw [← Ny832.out] at ho
  replace BK827 := Aside0.mk (blk_grown (kk_ BK827) hg (Kd.R_ne HO831.out BK827.out (by decide)))
  replace BK828 := Aside0.mk (blk_grown (kk_ BK828) hg (Kd.R_ne HO831.out BK828.out (by decide)))
  replace HB := Aside0.mk hb
  have HO834 := Aside0.mk ho
  clear HO831
  clear ho hb hg hat
  refine hK.out _ _ ⟨cz0_ BK827, cz1_ BK827⟩ (fun hHeld => ?_)
  clear hK K
  refine no_ (some 6) ?_
  refine on_ 6 (some 9) (bl_ 9 127) HT_ (fun K hK => ?_)
  refine gO_ Try.func111 #[.slice A0_0 l0_0.length c0_0] (by rfl) rfl rfl qa_ ?_
  with_reducible refine (spec_l02Inverse.calls k _ _ l0_0 t835 _ (cb_ HR0_0) HC0_0.out A3.out).mono ?_
  rintro e w10 ⟨v836, rfl, ho0, hb⟩
  refine ⟨_, rfl, ?_⟩
  have HO837 := Aside0.mk (Kd.R_lower (Kd.R_new' ho0 (Kd.R_lt (rr_ HO834))) (below_size hB_))
  replace HO834 := Aside0.mk (Kd.R_elder' (rr_ HO834) (Kd.R_base ho0) hb)
  replace BK827 := bb_ BK827 hb
  replace BK828 := bb_ BK828 hb
  replace HB := b1_ hb
  clear hb ho0
  obtain ⟨Ao11, co11, eo11⟩ := Kd.R_slice HO837.out
  (first | subst eo11 | (injection eo11 with f1_ f2_ f3_; have f4_ := f1_.symm; have f5_ := f3_.symm; clear f1_ f2_ f3_; subst f4_; subst f5_))
  obtain ⟨Ao12, co12, eo12⟩ := Kd.R_slice HO834.out
  (first | subst eo12 | (injection eo12 with f1_ f2_ f3_; have f4_ := f1_.symm; have f5_ := f3_.symm; clear f1_ f2_ f3_; subst f4_; subst f5_))
  refine hK.out _ _ ⟨cz0_ BK827, cz1_ BK827⟩ (fun hHeld => ?_)
  clear hK K
  refine no_ (some 9) ?_
  refine pu_ 7 (some 10) (bl_ 9 255) HT_ ?_
  refine on_ 8 (none) (bl_ 9 511) HT_ (fun K hK => ?_)
  have hs13 : w10.cell? ⟨gb828, 0, none⟩ = some (.slice none 0 0) := cz0_ BK828
  have hfs13 := blk_frozen BK828.out 0
  have hns13_0 := NB827_828.out
  have hms13_0 := NB828_827.out
  have hs14 : w10.cell? ⟨gb828, 1, none⟩ = some (.slice none 0 0) := cz1_ BK828
  have hfs14 := blk_frozen BK828.out 1
  have hns14_0 := NB827_828.out
  have hms14_0 := NB828_827.out
  refine skip_ (w1 := ?_) (by rfl) rfl ?_ ?_
  rotate_left
  · go_simp
    rfl
  refine hK.out _ _ ⟨((cell_far (p := ⟨gb828, _, none⟩) NB827_828.out _).trans (((cell_far (p := ⟨gb828, _, none⟩) NB827_828.out _).trans (hHeld.1)))), ((cell_far (p := ⟨gb828, _, none⟩) NB827_828.out _).trans (((cell_far (p := ⟨gb828, _, none⟩) NB827_828.out _).trans (hHeld.2))))⟩ (fun hHeld => ?_)
  clear hK K
  refine done_ (done_of HT_.out (by kernel_rfl)) ?_
  try go_wp2
  refine bodyPost_ret (results_cell_row rfl _ _ gb828 33 #[.slice Ao12 y832.length co12, .slice Ao11 t835.length co11] (0, 0) _ rfl qp_ Try.underlying33 rfl (by kernel_rfl)) rfl ?_
  exact ⟨_, _, qb_, (rw_ (Kd.R_mono (fa_ HO834 BK828) (fun _ hk => hk.2))), (rw_ (Kd.R_mono (fa_ HO837 BK828) (fun _ hk => hk.2))), hB_⟩
end Go.Proofs.Ytoijcallajegfaa.A
end
section
namespace Go.Proofs.Ytoijcallajegfaa.A
open Go.RowKit Go.Proofs.YtoijcallajegfaaW.PrintWords Go.Proofs.YtoijcallajegfaaW.PrintLast Go.Proofs.YtoijcallajegfaaW.PrintMore
attribute [local go_sem] max2_int min2_int max_two min_two max_three min_three max_four min_four
set_option linter.unusedVariables false
set_option linter.unusedSimpArgs false
def spec_l05Letter.f (k : Nat) (l0_0 : List Int) (l0_1 : List Int) (a1 : Int) : Option (List Int × List Int) := if a1 = 84 then ((spec_l05Shear.f k l0_0 l0_1).bind fun bt840 => (some (bt840.1, bt840.2))) else (if a1 = 116 then ((spec_l05Unshear.f k l0_0 l0_1).bind fun bt846 => (some (bt846.1, bt846.2))) else (if a1 = 83 then ((spec_l05Turn.f k l0_0 l0_1).bind fun bt852 => (some (bt852.1, bt852.2))) else ((spec_l05Unturn.f k l0_0 l0_1).bind fun bt858 => (some (bt858.1, bt858.2)))))
theorem spec_l05Letter.mono : ∀ a0 a1 a2 k, LeO (spec_l05Letter.f k a0 a1 a2) (spec_l05Letter.f (k + 1) a0 a1 a2) := by
  intro a0 a1 a2 k
  unfold spec_l05Letter.f
  repeat' first|exact spec_l05Shear.mono _ _ _|exact spec_l05Turn.mono _ _ _|exact spec_l05Unshear.mono _ _ _|exact spec_l05Unturn.mono _ _ _|exact lo_|refine LeO.ite ?_ ?_|refine LeO.bind ?_ (fun _ => ?_)
set_option maxHeartbeats 8000000 in
set_option maxRecDepth 100000 in
theorem spec_l05Letter.calls (k : Nat) (A0_0 : Option Addr) (c0_0 : Nat) (l0_0 : List Int) (A0_1 : Option Addr) (c0_1 : Nat) (l0_1 : List Int) (a1 : Int) (r1 : List Int) (r2 : List Int) (w : World) (hr0_0 : Kd.C (Kd.int .i64) w A0_0 l0_0.length l0_0) (hc0_0 : l0_0.length ≤ c0_0) (hr0_1 : Kd.C (Kd.int .i64) w A0_1 l0_1.length l0_1) (hc0_1 : l0_1.length ≤ c0_1) (h : spec_l05Letter.f k l0_0 l0_1 a1 = some (r1, r2)) :
    Calls Try.prog 136 #[.agg #[.slice A0_0 l0_0.length c0_0, .slice A0_1 l0_1.length c0_1], .int .u8 a1] w fun e w' => ∃ v0_ v1_ : Value, e = .returned (.agg #[v0_, v1_]) ∧ Kd.R (Kd.int .i64) 3 w' w.heap.size (fun k_ => some k_ ≠ (v1_ : Value).ownBlock) v0_ r1 ∧ Kd.R (Kd.int .i64) 3 w' w.heap.size (fun k_ => some k_ ≠ (v0_ : Value).ownBlock) v1_ r2 ∧ Below w.heap.size w w' := by
  have hu33 := Try.underlying33
  have HR0_0 := Aside0.mk hr0_0
  have HC0_0 := Aside0.mk hc0_0
  clear hr0_0 hc0_0
  have HR0_1 := Aside0.mk hr0_1
  have HC0_1 := Aside0.mk hc0_1
  clear hr0_1 hc0_1
  have HB := Aside0.mk (Below.refl w.heap.size w)
  have H := h
  unfold spec_l05Letter.f at H
  clear h
  by_cases c3 : a1 = 84
  · rw [if_pos c3] at H
    have c3b0 : (a1 == 84) = true := beq_iff_eq.mpr c3
    have c3b1 : (a1 != 84) = false := bne_eq_false_iff_eq.mpr c3
    clear c3
    obtain ⟨⟨t840, t843⟩, A4, H⟩ := bi_ H
    try dsimp only at H
    simp only [Option.some.injEq, Prod.mk.injEq] at H
    obtain ⟨rfl, rfl⟩ := H
    go_enter Try.func136, Try.ntmps136
    go_wp2_with (first | ((with_reducible refine gate_dst (N := 2) rfl ?_); refine bx_ 2 #[.slice A0_0 l0_0.length c0_0, .slice A0_1 l0_1.length c0_1] 33 ?_; intro gb838 hg w5 hbox hb; have BK838 := Aside0.mk hbox; have GW838 := gw_ w hg; have GE838 := GW838; replace HB := b1_ hb; clear hb hbox hg) | ((with_reducible refine gate_dst (N := 4) rfl ?_); refine bx_ 4 #[.slice none 0 0, .slice none 0 0] 33 ?_; intro gb839 hg w6 hbox hb; have BK839 := Aside0.mk hbox; have GW839 := gw_ w hg; have GE839 := GW839; replace HB := b1_ hb; have NB838_839 := gN_ BK838 hg; have NB839_838 := gP_ BK838 hg; replace BK838 := bb_ BK838 hb; clear hb hbox hg; have hnb7 := NB838_839.out; have hnc7 := NB839_838.out; obtain ⟨hcz8_0, hcz8_1, hfz8_0, hfz8_1⟩ := c2_ BK838) | ((with_reducible refine gate_callee (f := 65) rfl ?_); refine gL_ (some 9) Try.func65 #[.agg #[.slice A0_0 l0_0.length c0_0, .slice A0_1 l0_1.length c0_1]] rfl qa_ ?_; (with_reducible refine (spec_l05Shear.calls k _ _ l0_0 _ _ l0_1 t840 t843 _ (cb_ HR0_0) HC0_0.out (cb_ HR0_1) HC0_1.out A4.out).mono ?_); rintro e w9 ⟨v841, v844, rfl, ho0, ho1, hb⟩; refine ⟨_, rfl, ?_⟩; have HO842 := rl_ w ho0; have HO845 := rl_ w ho1; replace BK838 := bb_ BK838 hb; replace BK839 := bb_ BK839 hb; replace HB := b1_ hb; clear hb ho0 ho1; obtain ⟨Ao10, co10, eo10⟩ := Kd.R_slice HO842.out; subst eo10; obtain ⟨hcz11_0, hcz11_1, hfz11_0, hfz11_1⟩ := c2_ BK839; obtain ⟨Ao12, co12, eo12⟩ := Kd.R_slice HO845.out; subst eo12))
    refine bodyPost_ret (results_cell_row rfl _ _ gb839 33 #[.slice Ao10 t840.length co10, .slice Ao12 t843.length co12] (0, 0) _ rfl qp_ Try.underlying33 rfl (by kernel_rfl)) rfl ?_
    exact ⟨_, _, qb_, (rw_ (fa_ HO842 BK839)), (rw_ (fa_ HO845 BK839)), hB_⟩
  · rw [if_neg c3] at H
    have c3b0 : (a1 == 84) = false := beq_eq_false_iff_ne.mpr c3
    have c3b1 : (a1 != 84) = true := bne_iff_ne.mpr c3
    by_cases c13 : a1 = 116
    · rw [if_pos c13] at H
      have c13b0 : (a1 == 116) = true := beq_iff_eq.mpr c13
      have c13b1 : (a1 != 116) = false := bne_eq_false_iff_eq.mpr c13
      clear c13
      obtain ⟨⟨t846, t849⟩, A14, H⟩ := bi_ H
      try dsimp only at H
      simp only [Option.some.injEq, Prod.mk.injEq] at H
      obtain ⟨rfl, rfl⟩ := H
      go_enter Try.func136, Try.ntmps136
      go_wp2_with (first | ((with_reducible refine gate_dst (N := 2) rfl ?_); refine bx_ 2 #[.slice A0_0 l0_0.length c0_0, .slice A0_1 l0_1.length c0_1] 33 ?_; intro gb838 hg w15 hbox hb; have BK838 := Aside0.mk hbox; have GW838 := gw_ w hg; have GE838 := GW838; replace HB := b1_ hb; clear hb hbox hg) | ((with_reducible refine gate_dst (N := 4) rfl ?_); refine bx_ 4 #[.slice none 0 0, .slice none 0 0] 33 ?_; intro gb839 hg w16 hbox hb; have BK839 := Aside0.mk hbox; have GW839 := gw_ w hg; have GE839 := GW839; replace HB := b1_ hb; have NB838_839 := gN_ BK838 hg; have NB839_838 := gP_ BK838 hg; replace BK838 := bb_ BK838 hb; clear hb hbox hg; have hnb17 := NB838_839.out; have hnc17 := NB839_838.out; obtain ⟨hcz18_0, hcz18_1, hfz18_0, hfz18_1⟩ := c2_ BK838) | ((with_reducible refine gate_callee (f := 167) rfl ?_); refine gL_ (some 13) Try.func167 #[.agg #[.slice A0_0 l0_0.length c0_0, .slice A0_1 l0_1.length c0_1]] rfl qa_ ?_; (with_reducible refine (spec_l05Unshear.calls k _ _ l0_0 _ _ l0_1 t846 t849 _ (cb_ HR0_0) HC0_0.out (cb_ HR0_1) HC0_1.out A14.out).mono ?_); rintro e w19 ⟨v847, v850, rfl, ho0, ho1, hb⟩; refine ⟨_, rfl, ?_⟩; have HO848 := rl_ w ho0; have HO851 := rl_ w ho1; replace BK838 := bb_ BK838 hb; replace BK839 := bb_ BK839 hb; replace HB := b1_ hb; clear hb ho0 ho1; obtain ⟨Ao20, co20, eo20⟩ := Kd.R_slice HO848.out; subst eo20; obtain ⟨hcz21_0, hcz21_1, hfz21_0, hfz21_1⟩ := c2_ BK839; obtain ⟨Ao22, co22, eo22⟩ := Kd.R_slice HO851.out; subst eo22))
      refine bodyPost_ret (results_cell_row rfl _ _ gb839 33 #[.slice Ao20 t846.length co20, .slice Ao22 t849.length co22] (0, 0) _ rfl qp_ Try.underlying33 rfl (by kernel_rfl)) rfl ?_
      exact ⟨_, _, qb_, (rw_ (fa_ HO848 BK839)), (rw_ (fa_ HO851 BK839)), hB_⟩
    · rw [if_neg c13] at H
      have c13b0 : (a1 == 116) = false := beq_eq_false_iff_ne.mpr c13
      have c13b1 : (a1 != 116) = true := bne_iff_ne.mpr c13
      by_cases c23 : a1 = 83
      · rw [if_pos c23] at H
        have c23b0 : (a1 == 83) = true := beq_iff_eq.mpr c23
        have c23b1 : (a1 != 83) = false := bne_eq_false_iff_eq.mpr c23
        clear c23
        obtain ⟨⟨t852, t855⟩, A24, H⟩ := bi_ H
        try dsimp only at H
        simp only [Option.some.injEq, Prod.mk.injEq] at H
        obtain ⟨rfl, rfl⟩ := H
        go_enter Try.func136, Try.ntmps136
        go_wp2_with (first | ((with_reducible refine gate_dst (N := 2) rfl ?_); refine bx_ 2 #[.slice A0_0 l0_0.length c0_0, .slice A0_1 l0_1.length c0_1] 33 ?_; intro gb838 hg w25 hbox hb; have BK838 := Aside0.mk hbox; have GW838 := gw_ w hg; have GE838 := GW838; replace HB := b1_ hb; clear hb hbox hg) | ((with_reducible refine gate_dst (N := 4) rfl ?_); refine bx_ 4 #[.slice none 0 0, .slice none 0 0] 33 ?_; intro gb839 hg w26 hbox hb; have BK839 := Aside0.mk hbox; have GW839 := gw_ w hg; have GE839 := GW839; replace HB := b1_ hb; have NB838_839 := gN_ BK838 hg; have NB839_838 := gP_ BK838 hg; replace BK838 := bb_ BK838 hb; clear hb hbox hg; have hnb27 := NB838_839.out; have hnc27 := NB839_838.out; obtain ⟨hcz28_0, hcz28_1, hfz28_0, hfz28_1⟩ := c2_ BK838) | ((with_reducible refine gate_callee (f := 168) rfl ?_); refine gL_ (some 17) Try.func168 #[.agg #[.slice A0_0 l0_0.length c0_0, .slice A0_1 l0_1.length c0_1]] rfl qa_ ?_; (with_reducible refine (spec_l05Turn.calls k _ _ l0_0 _ _ l0_1 t852 t855 _ (cb_ HR0_0) HC0_0.out (cb_ HR0_1) HC0_1.out A24.out).mono ?_); rintro e w29 ⟨v853, v856, rfl, ho0, ho1, hb⟩; refine ⟨_, rfl, ?_⟩; have HO854 := rl_ w ho0; have HO857 := rl_ w ho1; replace BK838 := bb_ BK838 hb; replace BK839 := bb_ BK839 hb; replace HB := b1_ hb; clear hb ho0 ho1; obtain ⟨Ao30, co30, eo30⟩ := Kd.R_slice HO854.out; subst eo30; obtain ⟨hcz31_0, hcz31_1, hfz31_0, hfz31_1⟩ := c2_ BK839; obtain ⟨Ao32, co32, eo32⟩ := Kd.R_slice HO857.out; subst eo32))
        refine bodyPost_ret (results_cell_row rfl _ _ gb839 33 #[.slice Ao30 t852.length co30, .slice Ao32 t855.length co32] (0, 0) _ rfl qp_ Try.underlying33 rfl (by kernel_rfl)) rfl ?_
        exact ⟨_, _, qb_, (rw_ (fa_ HO854 BK839)), (rw_ (fa_ HO857 BK839)), hB_⟩
      · rw [if_neg c23] at H
        have c23b0 : (a1 == 83) = false := beq_eq_false_iff_ne.mpr c23
        have c23b1 : (a1 != 83) = true := bne_iff_ne.mpr c23
        obtain ⟨⟨t858, t861⟩, A33, H⟩ := bi_ H
        try dsimp only at H
        simp only [Option.some.injEq, Prod.mk.injEq] at H
        obtain ⟨rfl, rfl⟩ := H
        go_enter Try.func136, Try.ntmps136
        go_wp2_with (first | ((with_reducible refine gate_dst (N := 2) rfl ?_); refine bx_ 2 #[.slice A0_0 l0_0.length c0_0, .slice A0_1 l0_1.length c0_1] 33 ?_; intro gb838 hg w34 hbox hb; have BK838 := Aside0.mk hbox; have GW838 := gw_ w hg; have GE838 := GW838; replace HB := b1_ hb; clear hb hbox hg) | ((with_reducible refine gate_dst (N := 4) rfl ?_); refine bx_ 4 #[.slice none 0 0, .slice none 0 0] 33 ?_; intro gb839 hg w35 hbox hb; have BK839 := Aside0.mk hbox; have GW839 := gw_ w hg; have GE839 := GW839; replace HB := b1_ hb; have NB838_839 := gN_ BK838 hg; have NB839_838 := gP_ BK838 hg; replace BK838 := bb_ BK838 hb; clear hb hbox hg; have hnb36 := NB838_839.out; have hnc36 := NB839_838.out; obtain ⟨hcz37_0, hcz37_1, hfz37_0, hfz37_1⟩ := c2_ BK838) | ((with_reducible refine gate_callee (f := 169) rfl ?_); refine gL_ (some 19) Try.func169 #[.agg #[.slice A0_0 l0_0.length c0_0, .slice A0_1 l0_1.length c0_1]] rfl qa_ ?_; (with_reducible refine (spec_l05Unturn.calls k _ _ l0_0 _ _ l0_1 t858 t861 _ (cb_ HR0_0) HC0_0.out (cb_ HR0_1) HC0_1.out A33.out).mono ?_); rintro e w38 ⟨v859, v862, rfl, ho0, ho1, hb⟩; refine ⟨_, rfl, ?_⟩; have HO860 := rl_ w ho0; have HO863 := rl_ w ho1; replace BK838 := bb_ BK838 hb; replace BK839 := bb_ BK839 hb; replace HB := b1_ hb; clear hb ho0 ho1; obtain ⟨Ao39, co39, eo39⟩ := Kd.R_slice HO860.out; subst eo39; obtain ⟨hcz40_0, hcz40_1, hfz40_0, hfz40_1⟩ := c2_ BK839; obtain ⟨Ao41, co41, eo41⟩ := Kd.R_slice HO863.out; subst eo41))
        refine bodyPost_ret (results_cell_row rfl _ _ gb839 33 #[.slice Ao39 t858.length co39, .slice Ao41 t861.length co41] (0, 0) _ rfl qp_ Try.underlying33 rfl (by kernel_rfl)) rfl ?_
        exact ⟨_, _, qb_, (rw_ (fa_ HO860 BK839)), (rw_ (fa_ HO863 BK839)), hB_⟩
end Go.Proofs.Ytoijcallajegfaa.A
end
section
namespace Go.Proofs.Ytoijcallajegfaa.A
open Go.RowKit Go.Proofs.YtoijcallajegfaaW.PrintWords Go.Proofs.YtoijcallajegfaaW.PrintLast Go.Proofs.YtoijcallajegfaaW.PrintMore
attribute [local go_sem] max2_int min2_int max_two min_two max_three min_three max_four min_four
set_option linter.unusedVariables false
set_option linter.unusedSimpArgs false
def spec_l05Run.l0 : Nat → ByteArray → Int → List Int → List Int → Option (List Int × List Int)
  | 0, _, _, _, _ => none
  | k + 1, x1, x6, x879000, x879001 => if x6 < (x1.size : Int) then (if 0 ≤ x6 then ((spec_l05Letter.f k x879000 x879001 (bt x1 x6)).bind fun bt879 => (spec_l05Run.l0 k x1 (wrap64 (x6 + 1)) bt879.1 bt879.2)) else (none)) else (some (x879000, x879001))
def spec_l05Run.f (k : Nat) (l0_0 : List Int) (l0_1 : List Int) (a1 : ByteArray) : Option (List Int × List Int) := (some (([] : List Int) : List Int)).bind fun y866 => (if y866.length + l0_0.length < 17592186044416 then ((some (([] : List Int) : List Int)).bind fun y872 => (if y872.length + l0_1.length < 17592186044416 then (spec_l05Run.l0 k a1 0 (y866 ++ l0_0) (y872 ++ l0_1)) else (none))) else (none))
theorem spec_l05Run.mono_l : ∀ k, (∀ y0 y1 y2 y3, LeO (spec_l05Run.l0 k y0 y1 y2 y3) (spec_l05Run.l0 (k + 1) y0 y1 y2 y3))
  | 0 => fun _ _ _ _ r h => by simp [spec_l05Run.l0] at h
  | k + 1 => by
    have ih0 := spec_l05Run.mono_l k
    · intro y0 y1 y2 y3
      unfold spec_l05Run.l0
      repeat' first|exact ih0 _ _ _ _|exact spec_l05Letter.mono _ _ _ _|exact lo_|refine LeO.ite ?_ ?_|refine LeO.bind ?_ (fun _ => ?_)
theorem spec_l05Run.mono : ∀ a0 a1 a2 k, LeO (spec_l05Run.f k a0 a1 a2) (spec_l05Run.f (k + 1) a0 a1 a2) := by
  intro a0 a1 a2 k
  have ih0 := spec_l05Run.mono_l k
  unfold spec_l05Run.f
  repeat' first|exact ih0 _ _ _ _|exact spec_l05Letter.mono _ _ _ _|exact lo_|refine LeO.ite ?_ ?_|refine LeO.bind ?_ (fun _ => ?_)
def spec_l05Run.T1 : Bool × List (List Nat × List Nat) := (true, [([], []), ([], []), ([1], [1]), ([0, 2], [0, 2]), ([], []), ([], []), ([5], [5]), ([4, 6, 3], [4, 6]), ([3, 7], [3, 7]), ([], []), ([9, 8, 7, 0, 1, 2, 3, 4, 5, 6, 7, 8, 9], [8, 9])])
def spec_l05Run.B1 : List Nat := [0, 0, 2, 7, 0, 0, 32, 127, 255, 0, 1023]
theorem spec_l05Run.tab1 : rtab .any (opsOf Try.f124 1) = spec_l05Run.T1 := by kernel_rfl
theorem spec_l05Run.bits1 : waitsOk spec_l05Run.T1.2 spec_l05Run.B1 = true := by kernel_rfl
set_option maxHeartbeats 8000000 in
set_option maxRecDepth 100000 in
theorem spec_l05Run.calls (k : Nat) (A0_0 : Option Addr) (c0_0 : Nat) (l0_0 : List Int) (A0_1 : Option Addr) (c0_1 : Nat) (l0_1 : List Int) (a1 : ByteArray) (r1 : List Int) (r2 : List Int) (w : World) (hr0_0 : Kd.C (Kd.int .i64) w A0_0 l0_0.length l0_0) (hc0_0 : l0_0.length ≤ c0_0) (hr0_1 : Kd.C (Kd.int .i64) w A0_1 l0_1.length l0_1) (hc0_1 : l0_1.length ≤ c0_1) (h : spec_l05Run.f k l0_0 l0_1 a1 = some (r1, r2)) :
    Calls Try.prog 124 #[.agg #[.slice A0_0 l0_0.length c0_0, .slice A0_1 l0_1.length c0_1], .string a1] w fun e w' => ∃ v0_ v1_ : Value, e = .returned (.agg #[v0_, v1_]) ∧ Kd.R (Kd.int .i64) 3 w' w.heap.size (fun k_ => some k_ ≠ (v1_ : Value).ownBlock) v0_ r1 ∧ Kd.R (Kd.int .i64) 3 w' w.heap.size (fun k_ => some k_ ≠ (v0_ : Value).ownBlock) v1_ r2 ∧ Below w.heap.size w w' := by
  have hu33 := Try.underlying33
  have HR0_0 := Aside0.mk hr0_0
  have HC0_0 := Aside0.mk hc0_0
  clear hr0_0 hc0_0
  have HR0_1 := Aside0.mk hr0_1
  have HC0_1 := Aside0.mk hc0_1
  clear hr0_1 hc0_1
  have HB := Aside0.mk (Below.refl w.heap.size w)
  have H := h
  unfold spec_l05Run.f at H
  clear h
  obtain ⟨y866, hy866⟩ : ∃ y_ : List Int, y_ = (([] : List Int)) := ⟨_, rfl⟩
  replace H : (if y866.length + l0_0.length < 17592186044416 then ((some (([] : List Int) : List Int)).bind fun y872 => (if y872.length + l0_1.length < 17592186044416 then (spec_l05Run.l0 k a1 0 (y866 ++ l0_0) (y872 ++ l0_1)) else (none))) else (none)) = some (r1, r2) := by first | (rw [hy866]; exact H) | exact H
  have Ny866 := Aside0.mk hy866
  clear hy866
  have c3 := cp_ H
  replace H := ca_ H
  have LMc3 := Aside0.mk c3
  clear c3
  obtain ⟨y869, hy869⟩ : ∃ y_ : List Int, y_ = (y866 ++ l0_0) := ⟨_, rfl⟩
  replace H : ((some (([] : List Int) : List Int)).bind fun y872 => (if y872.length + l0_1.length < 17592186044416 then (spec_l05Run.l0 k a1 0 y869 (y872 ++ l0_1)) else (none))) = some (r1, r2) := by first | (rw [hy869]; exact H) | exact H
  have Ny869 := Aside0.mk hy869
  clear hy869
  obtain ⟨y872, hy872⟩ : ∃ y_ : List Int, y_ = (([] : List Int)) := ⟨_, rfl⟩
  replace H : (if y872.length + l0_1.length < 17592186044416 then (spec_l05Run.l0 k a1 0 y869 (y872 ++ l0_1)) else (none)) = some (r1, r2) := by first | (rw [hy872]; exact H) | exact H
  have Ny872 := Aside0.mk hy872
  clear hy872
  have c4 := cp_ H
  replace H := ca_ H
  have LMc4 := Aside0.mk c4
  clear c4
  obtain ⟨y875, hy875⟩ : ∃ y_ : List Int, y_ = (y872 ++ l0_1) := ⟨_, rfl⟩
  replace H : (spec_l05Run.l0 k a1 0 y869 y875) = some (r1, r2) := by first | (rw [hy875]; exact H) | exact H
  have Ny875 := Aside0.mk hy875
  clear hy875
  have H' := Aside0.mk H
  clear H
  go_enter Try.func124, Try.ntmps124
  try go_wp2_with (first | ((with_reducible refine gate_dst (N := 2) rfl ?_); refine bx_ 2 #[.slice A0_0 l0_0.length c0_0, .slice A0_1 l0_1.length c0_1] 33 ?_; intro gb864 hg w5 hbox hb; have BK864 := Aside0.mk hbox; have GW864 := gw_ w hg; have GE864 := GW864; replace HB := b1_ hb; clear hb hbox hg) | ((with_reducible refine gate_dst (N := 4) rfl ?_); refine bx_ 4 #[.slice none 0 0, .slice none 0 0] 33 ?_; intro gb865 hg w6 hbox hb; have BK865 := Aside0.mk hbox; have GW865 := gw_ w hg; have GE865 := GW865; replace HB := b1_ hb; have NB864_865 := gN_ BK864 hg; have NB865_864 := gP_ BK864 hg; replace BK864 := bb_ BK864 hb; clear hb hbox hg))
  replace BK864 := Aside0.mk (blk_drew BK864.out)
  replace BK865 := Aside0.mk (blk_drew BK865.out)
  replace HB := Aside0.mk (below_drew1 HB.out)
  refine start_ (n := 11) (S := fun w' => w'.cell? ⟨gb864, 0, none⟩ = some (.slice A0_0 l0_0.length c0_0) ∧ w'.cell? ⟨gb864, 1, none⟩ = some (.slice A0_1 l0_1.length c0_1)) (ds := []) (bl_ 11 0) (by kernel_rfl) rfl (by kernel_rfl) ⟨cz0_ BK864, cz1_ BK864⟩ (fun hHeld => ?_); refine with_tabW spec_l05Run.tab1 spec_l05Run.bits1 (fun HT_ HW_ => ?_)
  generalize w6.drew = w7 at BK864 BK865 HB hHeld ⊢
  refine pu_ 1 (some 8) (bl_ 11 2) HT_ ?_
  refine pu_ 5 (some 12) (bl_ 11 34) HT_ ?_
  refine ta_ 2 (some 9) (bl_ 11 38) HT_ HW_ hHeld ?_
  refine ta_ 6 (some 13) (bl_ 11 102) HT_ HW_ hHeld ?_
  refine join_ (σ := Value × Value × Value × Value × Nat) 1 (bl_ 11 1023) (fun s_ => [(7, s_.1), (10, s_.2.1), (11, s_.2.2.1), (14, s_.2.2.2.1), (5, .pointer (some ⟨s_.2.2.2.2, 0, none⟩)), (15, .agg #[s_.2.1, s_.2.2.2.1])]) (fun s_ w' => (w'.cell? ⟨gb864, 0, none⟩ = some (.slice A0_0 l0_0.length c0_0) ∧ w'.cell? ⟨gb864, 1, none⟩ = some (.slice A0_1 l0_1.length c0_1)) ∧ (Kd.R (Kd.int .i64) 3 w' w.heap.size (fun k_ => some k_ ≠ (s_.2.2.2.1 : Value).ownBlock) s_.2.1 y869) ∧ (Kd.R (Kd.int .i64) 3 w' w.heap.size (fun k_ => some k_ ≠ (s_.2.1 : Value).ownBlock) s_.2.2.2.1 y875) ∧ (w'.heap[gb864]? = some (.cells #[.slice A0_0 l0_0.length c0_0, .slice A0_1 l0_1.length c0_1] 33 (0, 0))) ∧ (w'.heap[gb865]? = some (.cells #[.slice none 0 0, .slice none 0 0] 33 (0, 0))) ∧ (w'.heap[s_.2.2.2.2]? = some (.cells #[.slice none 0 0, .slice none 0 0] 33 (0, 0))) ∧ (w.heap.size ≤ s_.2.2.2.2) ∧ (w.heap.size ≤ s_.2.2.2.2) ∧ (gb864 ≠ s_.2.2.2.2) ∧ (s_.2.2.2.2 ≠ gb864) ∧ (gb865 ≠ s_.2.2.2.2) ∧ (s_.2.2.2.2 ≠ gb865) ∧ (Below w.heap.size w w')) ?_ ?_
  rotate_left
  · intro hJ0_3_4_7_9
    refine join_ (σ := Value × Value × Value × Value) 2 (bl_ 11 511) (fun s_ => [(7, s_.1), (10, s_.2.1), (11, s_.2.2.1), (14, s_.2.2.2), (15, .agg #[s_.2.1, s_.2.2.2])]) (fun s_ w' => (w'.cell? ⟨gb864, 0, none⟩ = some (.slice A0_0 l0_0.length c0_0) ∧ w'.cell? ⟨gb864, 1, none⟩ = some (.slice A0_1 l0_1.length c0_1)) ∧ (Kd.R (Kd.int .i64) 3 w' w.heap.size (fun k_ => some k_ ≠ (s_.2.2.2 : Value).ownBlock) s_.2.1 y869) ∧ (Kd.R (Kd.int .i64) 3 w' w.heap.size (fun k_ => some k_ ≠ (s_.2.1 : Value).ownBlock) s_.2.2.2 y875) ∧ (w'.heap[gb864]? = some (.cells #[.slice A0_0 l0_0.length c0_0, .slice A0_1 l0_1.length c0_1] 33 (0, 0))) ∧ (w'.heap[gb865]? = some (.cells #[.slice none 0 0, .slice none 0 0] 33 (0, 0))) ∧ (Below w.heap.size w w')) ?_ ?_
    rotate_left
    · intro hJ0_3_4_7
      refine join_ (σ := Value × Value × Value × Nat) 3 (bl_ 11 639) (fun s_ => [(7, s_.1), (10, s_.2.1), (11, s_.2.2.1), (5, .pointer (some ⟨s_.2.2.2, 0, none⟩))]) (fun s_ w' => (w'.cell? ⟨gb864, 0, none⟩ = some (.slice A0_0 l0_0.length c0_0) ∧ w'.cell? ⟨gb864, 1, none⟩ = some (.slice A0_1 l0_1.length c0_1)) ∧ (Kd.R (Kd.int .i64) 3 w' w.heap.size (fun k_ => some k_ ≠ (s_.2.2.1 : Value).ownBlock) s_.2.1 y869) ∧ (Kd.R (Kd.int .i64) 3 w' w.heap.size (fun k_ => some k_ ≠ (s_.2.1 : Value).ownBlock) s_.2.2.1 y872) ∧ (w'.heap[gb864]? = some (.cells #[.slice A0_0 l0_0.length c0_0, .slice A0_1 l0_1.length c0_1] 33 (0, 0))) ∧ (w'.heap[gb865]? = some (.cells #[.slice none 0 0, .slice none 0 0] 33 (0, 0))) ∧ (w'.heap[s_.2.2.2]? = some (.cells #[.slice none 0 0, .slice none 0 0] 33 (0, 0))) ∧ (w.heap.size ≤ s_.2.2.2) ∧ (w.heap.size ≤ s_.2.2.2) ∧ (gb864 ≠ s_.2.2.2) ∧ (s_.2.2.2 ≠ gb864) ∧ (gb865 ≠ s_.2.2.2) ∧ (s_.2.2.2 ≠ gb865) ∧ (Below w.heap.size w w')) ?_ ?_
      rotate_left
      · intro hJ0_3_4_9
        refine join_ (σ := Value × Value × Value) 4 (bl_ 11 127) (fun s_ => [(7, s_.1), (10, s_.2.1), (11, s_.2.2)]) (fun s_ w' => (w'.cell? ⟨gb864, 0, none⟩ = some (.slice A0_0 l0_0.length c0_0) ∧ w'.cell? ⟨gb864, 1, none⟩ = some (.slice A0_1 l0_1.length c0_1)) ∧ (Kd.R (Kd.int .i64) 3 w' w.heap.size (fun k_ => some k_ ≠ (s_.2.2 : Value).ownBlock) s_.2.1 y869) ∧ (Kd.R (Kd.int .i64) 3 w' w.heap.size (fun k_ => some k_ ≠ (s_.2.1 : Value).ownBlock) s_.2.2 y872) ∧ (w'.heap[gb864]? = some (.cells #[.slice A0_0 l0_0.length c0_0, .slice A0_1 l0_1.length c0_1] 33 (0, 0))) ∧ (w'.heap[gb865]? = some (.cells #[.slice none 0 0, .slice none 0 0] 33 (0, 0))) ∧ (Below w.heap.size w w')) ?_ ?_
        rotate_left
        · intro hJ0_3_4
          refine join_ (σ := Value × Value × Nat) 4 (bl_ 11 623) (fun s_ => [(7, s_.1), (10, s_.2.1), (5, .pointer (some ⟨s_.2.2, 0, none⟩))]) (fun s_ w' => (w'.cell? ⟨gb864, 0, none⟩ = some (.slice A0_0 l0_0.length c0_0) ∧ w'.cell? ⟨gb864, 1, none⟩ = some (.slice A0_1 l0_1.length c0_1)) ∧ (Kd.R (Kd.int .i64) 3 w' w.heap.size (fun _ => True) s_.2.1 y869) ∧ (w'.heap[gb864]? = some (.cells #[.slice A0_0 l0_0.length c0_0, .slice A0_1 l0_1.length c0_1] 33 (0, 0))) ∧ (w'.heap[gb865]? = some (.cells #[.slice none 0 0, .slice none 0 0] 33 (0, 0))) ∧ (w'.heap[s_.2.2]? = some (.cells #[.slice none 0 0, .slice none 0 0] 33 (0, 0))) ∧ (w.heap.size ≤ s_.2.2) ∧ (w.heap.size ≤ s_.2.2) ∧ (gb864 ≠ s_.2.2) ∧ (s_.2.2 ≠ gb864) ∧ (gb865 ≠ s_.2.2) ∧ (s_.2.2 ≠ gb865) ∧ (Below w.heap.size w w')) ?_ ?_
          rotate_left
          · intro hJ0_3_9
            refine join_ (σ := Value × Value × Nat) 4 (bl_ 11 631) (fun s_ => [(7, s_.1), (11, s_.2.1), (5, .pointer (some ⟨s_.2.2, 0, none⟩))]) (fun s_ w' => (w'.cell? ⟨gb864, 0, none⟩ = some (.slice A0_0 l0_0.length c0_0) ∧ w'.cell? ⟨gb864, 1, none⟩ = some (.slice A0_1 l0_1.length c0_1)) ∧ (Kd.R (Kd.int .i64) 3 w' w.heap.size (fun k_ => some k_ ≠ (s_.2.1 : Value).ownBlock) s_.1 y866) ∧ (Kd.R (Kd.int .i64) 3 w' w.heap.size (fun k_ => some k_ ≠ (s_.1 : Value).ownBlock) s_.2.1 y872) ∧ (w'.heap[gb864]? = some (.cells #[.slice A0_0 l0_0.length c0_0, .slice A0_1 l0_1.length c0_1] 33 (0, 0))) ∧ (w'.heap[gb865]? = some (.cells #[.slice none 0 0, .slice none 0 0] 33 (0, 0))) ∧ (w'.heap[s_.2.2]? = some (.cells #[.slice none 0 0, .slice none 0 0] 33 (0, 0))) ∧ (w.heap.size ≤ s_.2.2) ∧ (w.heap.size ≤ s_.2.2) ∧ (gb864 ≠ s_.2.2) ∧ (s_.2.2 ≠ gb864) ∧ (gb865 ≠ s_.2.2) ∧ (s_.2.2 ≠ gb865) ∧ (Below w.heap.size w w')) ?_ ?_
            rotate_left
            · intro hJ0_4_9
              refine join_ (σ := Value × Value) 5 (bl_ 11 111) (fun s_ => [(7, s_.1), (10, s_.2)]) (fun s_ w' => (w'.cell? ⟨gb864, 0, none⟩ = some (.slice A0_0 l0_0.length c0_0) ∧ w'.cell? ⟨gb864, 1, none⟩ = some (.slice A0_1 l0_1.length c0_1)) ∧ (Kd.R (Kd.int .i64) 3 w' w.heap.size (fun _ => True) s_.2 y869) ∧ (w'.heap[gb864]? = some (.cells #[.slice A0_0 l0_0.length c0_0, .slice A0_1 l0_1.length c0_1] 33 (0, 0))) ∧ (w'.heap[gb865]? = some (.cells #[.slice none 0 0, .slice none 0 0] 33 (0, 0))) ∧ (Below w.heap.size w w')) ?_ ?_
              rotate_left
              · intro hJ0_3
                refine join_ (σ := Value × Value) 5 (bl_ 11 119) (fun s_ => [(7, s_.1), (11, s_.2)]) (fun s_ w' => (w'.cell? ⟨gb864, 0, none⟩ = some (.slice A0_0 l0_0.length c0_0) ∧ w'.cell? ⟨gb864, 1, none⟩ = some (.slice A0_1 l0_1.length c0_1)) ∧ (Kd.R (Kd.int .i64) 3 w' w.heap.size (fun k_ => some k_ ≠ (s_.2 : Value).ownBlock) s_.1 y866) ∧ (Kd.R (Kd.int .i64) 3 w' w.heap.size (fun k_ => some k_ ≠ (s_.1 : Value).ownBlock) s_.2 y872) ∧ (w'.heap[gb864]? = some (.cells #[.slice A0_0 l0_0.length c0_0, .slice A0_1 l0_1.length c0_1] 33 (0, 0))) ∧ (w'.heap[gb865]? = some (.cells #[.slice none 0 0, .slice none 0 0] 33 (0, 0))) ∧ (Below w.heap.size w w')) ?_ ?_
                rotate_left
                · intro hJ0_4
                  refine join_ (σ := Value × Nat) 5 (bl_ 11 615) (fun s_ => [(7, s_.1), (5, .pointer (some ⟨s_.2, 0, none⟩))]) (fun s_ w' => (w'.cell? ⟨gb864, 0, none⟩ = some (.slice A0_0 l0_0.length c0_0) ∧ w'.cell? ⟨gb864, 1, none⟩ = some (.slice A0_1 l0_1.length c0_1)) ∧ (Kd.R (Kd.int .i64) 3 w' w.heap.size (fun _ => True) s_.1 y866) ∧ (w'.heap[gb864]? = some (.cells #[.slice A0_0 l0_0.length c0_0, .slice A0_1 l0_1.length c0_1] 33 (0, 0))) ∧ (w'.heap[gb865]? = some (.cells #[.slice none 0 0, .slice none 0 0] 33 (0, 0))) ∧ (w'.heap[s_.2]? = some (.cells #[.slice none 0 0, .slice none 0 0] 33 (0, 0))) ∧ (w.heap.size ≤ s_.2) ∧ (w.heap.size ≤ s_.2) ∧ (gb864 ≠ s_.2) ∧ (s_.2 ≠ gb864) ∧ (gb865 ≠ s_.2) ∧ (s_.2 ≠ gb865) ∧ (Below w.heap.size w w')) ?_ ?_
                  rotate_left
                  · intro hJ0_9
                    refine join_ (σ := Value × Nat) 5 (bl_ 11 630) (fun s_ => [(11, s_.1), (5, .pointer (some ⟨s_.2, 0, none⟩))]) (fun s_ w' => (w'.cell? ⟨gb864, 0, none⟩ = some (.slice A0_0 l0_0.length c0_0) ∧ w'.cell? ⟨gb864, 1, none⟩ = some (.slice A0_1 l0_1.length c0_1)) ∧ (Kd.R (Kd.int .i64) 3 w' w.heap.size (fun _ => True) s_.1 y872) ∧ (w'.heap[gb864]? = some (.cells #[.slice A0_0 l0_0.length c0_0, .slice A0_1 l0_1.length c0_1] 33 (0, 0))) ∧ (w'.heap[gb865]? = some (.cells #[.slice none 0 0, .slice none 0 0] 33 (0, 0))) ∧ (w'.heap[s_.2]? = some (.cells #[.slice none 0 0, .slice none 0 0] 33 (0, 0))) ∧ (w.heap.size ≤ s_.2) ∧ (w.heap.size ≤ s_.2) ∧ (gb864 ≠ s_.2) ∧ (s_.2 ≠ gb864) ∧ (gb865 ≠ s_.2) ∧ (s_.2 ≠ gb865) ∧ (Below w.heap.size w w')) ?_ ?_
                    rotate_left
                    · intro hJ4_9
                      refine join_ (σ := Value) 6 (bl_ 11 103) (fun s_ => [(7, s_)]) (fun s_ w' => (w'.cell? ⟨gb864, 0, none⟩ = some (.slice A0_0 l0_0.length c0_0) ∧ w'.cell? ⟨gb864, 1, none⟩ = some (.slice A0_1 l0_1.length c0_1)) ∧ (Kd.R (Kd.int .i64) 3 w' w.heap.size (fun _ => True) s_ y866) ∧ (w'.heap[gb864]? = some (.cells #[.slice A0_0 l0_0.length c0_0, .slice A0_1 l0_1.length c0_1] 33 (0, 0))) ∧ (w'.heap[gb865]? = some (.cells #[.slice none 0 0, .slice none 0 0] 33 (0, 0))) ∧ (Below w.heap.size w w')) ?_ ?_
                      rotate_left
                      · intro hJ0
                        refine join_ (σ := Value) 6 (bl_ 11 118) (fun s_ => [(11, s_)]) (fun s_ w' => (w'.cell? ⟨gb864, 0, none⟩ = some (.slice A0_0 l0_0.length c0_0) ∧ w'.cell? ⟨gb864, 1, none⟩ = some (.slice A0_1 l0_1.length c0_1)) ∧ (Kd.R (Kd.int .i64) 3 w' w.heap.size (fun _ => True) s_ y872) ∧ (w'.heap[gb864]? = some (.cells #[.slice A0_0 l0_0.length c0_0, .slice A0_1 l0_1.length c0_1] 33 (0, 0))) ∧ (w'.heap[gb865]? = some (.cells #[.slice none 0 0, .slice none 0 0] 33 (0, 0))) ∧ (Below w.heap.size w w')) ?_ ?_
                        rotate_left
                        · intro hJ4
                          refine join_ (σ := Nat) 6 (bl_ 11 614) (fun s_ => [(5, .pointer (some ⟨s_, 0, none⟩))]) (fun s_ w' => (w'.cell? ⟨gb864, 0, none⟩ = some (.slice A0_0 l0_0.length c0_0) ∧ w'.cell? ⟨gb864, 1, none⟩ = some (.slice A0_1 l0_1.length c0_1)) ∧ (w'.heap[gb864]? = some (.cells #[.slice A0_0 l0_0.length c0_0, .slice A0_1 l0_1.length c0_1] 33 (0, 0))) ∧ (w'.heap[gb865]? = some (.cells #[.slice none 0 0, .slice none 0 0] 33 (0, 0))) ∧ (w'.heap[s_]? = some (.cells #[.slice none 0 0, .slice none 0 0] 33 (0, 0))) ∧ (w.heap.size ≤ s_) ∧ (w.heap.size ≤ s_) ∧ (gb864 ≠ s_) ∧ (s_ ≠ gb864) ∧ (gb865 ≠ s_) ∧ (s_ ≠ gb865) ∧ (Below w.heap.size w w')) ?_ ?_
                          rotate_left
                          · intro hJ9
                            refine three_ (i := 0) (j := 4) (k := 9) (Ni := some 7) (Nj := some 11) (Nk := some 5) (bl_ 11 103) (bl_ 11 118) (bl_ 11 614) rfl rfl rfl rfl rfl rfl (three_of HT_.out (by kernel_rfl)) (by decide) (by decide) (by decide) (fun K hK => ?_) (fun K hK => ?_) (fun K hK => ?_)
                            · skip
                              refine Kd.R_lit_step (Kd.int .i64) _ 3 ?hg (N := 7) ?hd (xs := ([] : List Int)) (inner := []) (ok := fun _ => True) (okp := fun _ => True) ?hr ?hp (fun _ hk => hk) trivial (Below.refl _ _) (Nat.le_refl _) (by simp) ?_; (case hd => rfl); (case hg => rfl); (case hr => first | (go_simp; done) | (go_simp; rfl)); (case hp => exact (Reps.none _ _))
                              intro v867 w8 ho9 hb hg_ hnew_
                              clear hg_ hnew_
                              (first | rw [← Ny866.out] at ho9 | (simp only [Int.reduceToNat] at ho9; rw [← Ny866.out] at ho9))
                              have HO868 := rl_ w ho9
                              replace BK864 := bb_ BK864 hb
                              replace BK865 := bb_ BK865 hb
                              replace HB := b1_ hb
                              clear hb ho9
                              refine hK.out _ _ ⟨cz0_ BK864, cz1_ BK864⟩ (fun hHeld => ?_)
                              clear hK K
                              refine no_ (some 7) ?_
                              exact norm_ (by first | (simp only [putAll, Act.put, List.setIfInBounds_toArray, List.set_cons_zero, List.set_cons_succ]; done) | (simp only [putAll, Act.put, List.setIfInBounds_toArray, List.set_cons_zero, List.set_cons_succ]; rfl)) (hJ0 (v867) _ ⟨hHeld, (rr_ HO868), (kk_ BK864), (kk_ BK865), hB_⟩)
                            · skip
                              refine Kd.R_lit_step (Kd.int .i64) _ 3 ?hg (N := 11) ?hd (xs := ([] : List Int)) (inner := []) (ok := fun _ => True) (okp := fun _ => True) ?hr ?hp (fun _ hk => hk) trivial (Below.refl _ _) (Nat.le_refl _) (by simp) ?_; (case hd => rfl); (case hg => rfl); (case hr => first | (go_simp; done) | (go_simp; rfl)); (case hp => exact (Reps.none _ _))
                              intro v873 w8 ho9 hb hg_ hnew_
                              clear hg_ hnew_
                              (first | rw [← Ny872.out] at ho9 | (simp only [Int.reduceToNat] at ho9; rw [← Ny872.out] at ho9))
                              have HO874 := rl_ w ho9
                              replace BK864 := bb_ BK864 hb
                              replace BK865 := bb_ BK865 hb
                              replace HB := b1_ hb
                              clear hb ho9
                              refine hK.out _ _ ⟨cz0_ BK864, cz1_ BK864⟩ (fun hHeld => ?_)
                              clear hK K
                              refine no_ (some 11) ?_
                              exact norm_ (by first | (simp only [putAll, Act.put, List.setIfInBounds_toArray, List.set_cons_zero, List.set_cons_succ]; done) | (simp only [putAll, Act.put, List.setIfInBounds_toArray, List.set_cons_zero, List.set_cons_succ]; rfl)) (hJ4 (v873) _ ⟨hHeld, (rr_ HO874), (kk_ BK864), (kk_ BK865), hB_⟩)
                            · skip
                              refine box_step ?hg (N := 5) ?hd (cs := #[.slice none 0 0, .slice none 0 0]) (t := 33) ?hr ?_; (case hd => rfl); (case hg => rfl); (case hr => first | (go_simp; done) | (go_simp; rfl))
                              intro gb878 hg w8 hbox hb
                              have BK878 := Aside0.mk hbox
                              have GW878 := gw_ w hg
                              have GE878 := GW878
                              replace HB := b1_ hb
                              have NB864_878 := gN_ BK864 hg
                              have NB878_864 := gP_ BK864 hg
                              replace BK864 := bb_ BK864 hb
                              have NB865_878 := gN_ BK865 hg
                              have NB878_865 := gP_ BK865 hg
                              replace BK865 := bb_ BK865 hb
                              clear hb hbox hg
                              refine hK.out _ _ ⟨cz0_ BK864, cz1_ BK864⟩ (fun hHeld => ?_)
                              clear hK K
                              refine no_ (some 5) ?_
                              exact norm_ (by first | (simp only [putAll, Act.put, List.setIfInBounds_toArray, List.set_cons_zero, List.set_cons_succ]; done) | (simp only [putAll, Act.put, List.setIfInBounds_toArray, List.set_cons_zero, List.set_cons_succ]; rfl)) (hJ9 (gb878) _ ⟨hHeld, (kk_ BK864), (kk_ BK865), (kk_ BK878), GW878.out, GE878.out, NB864_878.out, NB878_864.out, NB865_878.out, NB878_865.out, hB_⟩)
                          · skip
                            rintro gb878 w9 ⟨hS_, h0_, h1_, h2_, h3_, h4_, h5_, h6_, h7_, h8_, h9_⟩
                            have n0_ : Aside0 (w9.heap[gb864]? = some (.cells #[.slice A0_0 l0_0.length c0_0, .slice A0_1 l0_1.length c0_1] 33 (0, 0))) := ⟨h0_⟩
                            have n1_ : Aside0 (w9.heap[gb865]? = some (.cells #[.slice none 0 0, .slice none 0 0] 33 (0, 0))) := ⟨h1_⟩
                            have n2_ : Aside0 (w9.heap[gb878]? = some (.cells #[.slice none 0 0, .slice none 0 0] 33 (0, 0))) := ⟨h2_⟩
                            have n3_ : Aside0 (w.heap.size ≤ gb878) := ⟨h3_⟩
                            have n4_ : Aside0 (w.heap.size ≤ gb878) := ⟨h4_⟩
                            have n5_ : Aside0 (gb864 ≠ gb878) := ⟨h5_⟩
                            have n6_ : Aside0 (gb878 ≠ gb864) := ⟨h6_⟩
                            have n7_ : Aside0 (gb865 ≠ gb878) := ⟨h7_⟩
                            have n8_ : Aside0 (gb878 ≠ gb865) := ⟨h8_⟩
                            have n9_ : Aside0 (Below w.heap.size w w9) := ⟨h9_⟩
                            clear BK864
                            clear BK865
                            clear HB
                            clear h0_ h1_ h2_ h3_ h4_ h5_ h6_ h7_ h8_ h9_
                            have BK864 := n0_
                            have BK865 := n1_
                            have BK878 := n2_
                            have GW878 := n3_
                            have GE878 := n4_
                            have NB864_878 := n5_
                            have NB878_864 := n6_
                            have NB865_878 := n7_
                            have NB878_865 := n8_
                            have HB := n9_
                            clear n0_ n1_ n2_ n3_ n4_ n5_ n6_ n7_ n8_ n9_
                            have hHeld : w9.cell? ⟨gb864, 0, none⟩ = some (.slice A0_0 l0_0.length c0_0) ∧ w9.cell? ⟨gb864, 1, none⟩ = some (.slice A0_1 l0_1.length c0_1) := hS_
                            refine norm_ (a' := ?_) ?_ ?_
                            rotate_left
                            · simp only [putAll, Act.put, List.setIfInBounds_toArray, List.set_cons_zero, List.set_cons_succ]
                              rfl
                            refine two_ (i := 0) (j := 4) (Ni := some 7) (Nj := some 11) (bl_ 11 615) (bl_ 11 630) rfl rfl rfl rfl (two_of HT_.out (by kernel_rfl)) (by decide) (by decide) (fun K hK => ?_) (fun K hK => ?_)
                            · skip
                              refine Kd.R_lit_step (Kd.int .i64) _ 3 ?hg (N := 7) ?hd (xs := ([] : List Int)) (inner := []) (ok := fun _ => True) (okp := fun _ => True) ?hr ?hp (fun _ hk => hk) trivial (Below.refl _ _) (Nat.le_refl _) (by simp) ?_; (case hd => rfl); (case hg => rfl); (case hr => first | (go_simp; done) | (go_simp; rfl)); (case hp => exact (Reps.none _ _))
                              intro v867 w10 ho11 hb hg_ hnew_
                              clear hg_ hnew_
                              (first | rw [← Ny866.out] at ho11 | (simp only [Int.reduceToNat] at ho11; rw [← Ny866.out] at ho11))
                              have HO868 := rl_ w ho11
                              replace BK864 := bb_ BK864 hb
                              replace BK865 := bb_ BK865 hb
                              replace BK878 := bb_ BK878 hb
                              replace HB := b1_ hb
                              clear hb ho11
                              refine hK.out _ _ ⟨cz0_ BK864, cz1_ BK864⟩ (fun hHeld => ?_)
                              clear hK K
                              refine no_ (some 7) ?_
                              exact norm_ (by first | (simp only [putAll, Act.put, List.setIfInBounds_toArray, List.set_cons_zero, List.set_cons_succ]; done) | (simp only [putAll, Act.put, List.setIfInBounds_toArray, List.set_cons_zero, List.set_cons_succ]; rfl)) (hJ0_9 (v867, gb878) _ ⟨hHeld, (rr_ HO868), (kk_ BK864), (kk_ BK865), (kk_ BK878), GW878.out, GE878.out, NB864_878.out, NB878_864.out, NB865_878.out, NB878_865.out, hB_⟩)
                            · skip
                              refine Kd.R_lit_step (Kd.int .i64) _ 3 ?hg (N := 11) ?hd (xs := ([] : List Int)) (inner := []) (ok := fun _ => True) (okp := fun _ => True) ?hr ?hp (fun _ hk => hk) trivial (Below.refl _ _) (Nat.le_refl _) (by simp) ?_; (case hd => rfl); (case hg => rfl); (case hr => first | (go_simp; done) | (go_simp; rfl)); (case hp => exact (Reps.none _ _))
                              intro v873 w10 ho11 hb hg_ hnew_
                              clear hg_ hnew_
                              (first | rw [← Ny872.out] at ho11 | (simp only [Int.reduceToNat] at ho11; rw [← Ny872.out] at ho11))
                              have HO874 := rl_ w ho11
                              replace BK864 := bb_ BK864 hb
                              replace BK865 := bb_ BK865 hb
                              replace BK878 := bb_ BK878 hb
                              replace HB := b1_ hb
                              clear hb ho11
                              refine hK.out _ _ ⟨cz0_ BK864, cz1_ BK864⟩ (fun hHeld => ?_)
                              clear hK K
                              refine no_ (some 11) ?_
                              exact norm_ (by first | (simp only [putAll, Act.put, List.setIfInBounds_toArray, List.set_cons_zero, List.set_cons_succ]; done) | (simp only [putAll, Act.put, List.setIfInBounds_toArray, List.set_cons_zero, List.set_cons_succ]; rfl)) (hJ4_9 (v873, gb878) _ ⟨hHeld, (rr_ HO874), (kk_ BK864), (kk_ BK865), (kk_ BK878), GW878.out, GE878.out, NB864_878.out, NB878_864.out, NB865_878.out, NB878_865.out, hB_⟩)
                        · skip
                          rintro v873 w10 ⟨hS_, h0_, h1_, h2_, h3_⟩
                          have n0_ : Aside0 (Kd.R (Kd.int .i64) 3 w10 w.heap.size (fun _ => True) v873 y872) := ⟨h0_⟩
                          have n1_ : Aside0 (w10.heap[gb864]? = some (.cells #[.slice A0_0 l0_0.length c0_0, .slice A0_1 l0_1.length c0_1] 33 (0, 0))) := ⟨h1_⟩
                          have n2_ : Aside0 (w10.heap[gb865]? = some (.cells #[.slice none 0 0, .slice none 0 0] 33 (0, 0))) := ⟨h2_⟩
                          have n3_ : Aside0 (Below w.heap.size w w10) := ⟨h3_⟩
                          clear BK864
                          clear BK865
                          clear HB
                          clear h0_ h1_ h2_ h3_
                          have HO874 := n0_
                          have BK864 := n1_
                          have BK865 := n2_
                          have HB := n3_
                          clear n0_ n1_ n2_ n3_
                          have hHeld : w10.cell? ⟨gb864, 0, none⟩ = some (.slice A0_0 l0_0.length c0_0) ∧ w10.cell? ⟨gb864, 1, none⟩ = some (.slice A0_1 l0_1.length c0_1) := hS_
                          refine norm_ (a' := ?_) ?_ ?_
                          rotate_left
                          · simp only [putAll, Act.put, List.setIfInBounds_toArray, List.set_cons_zero, List.set_cons_succ]
                            rfl
                          refine two_ (i := 0) (j := 9) (Ni := some 7) (Nj := some 5) (bl_ 11 119) (bl_ 11 630) rfl rfl rfl rfl (two_of HT_.out (by kernel_rfl)) (by decide) (by decide) (fun K hK => ?_) (fun K hK => ?_)
                          · skip
                            refine Kd.R_lit_step (Kd.int .i64) _ 3 ?hg (N := 7) ?hd (xs := ([] : List Int)) (inner := []) (ok := fun _ => True) (okp := fun _ => True) ?hr ?hp (fun _ hk => hk) trivial (Below.refl _ _) (Nat.le_refl _) (by simp) ?_; (case hd => rfl); (case hg => rfl); (case hr => first | (go_simp; done) | (go_simp; rfl)); (case hp => exact (Reps.none _ _))
                            intro v867 w11 ho12 hb hg_ hnew_
                            clear hg_ hnew_
                            (first | rw [← Ny866.out] at ho12 | (simp only [Int.reduceToNat] at ho12; rw [← Ny866.out] at ho12))
                            have HO868 := Aside0.mk (Kd.R_lower (Kd.R_new' ho12 (Kd.R_lt (rr_ HO874))) (below_size hB_))
                            replace HO874 := Aside0.mk (Kd.R_elder' (rr_ HO874) (Kd.R_base ho12) hb)
                            replace BK864 := bb_ BK864 hb
                            replace BK865 := bb_ BK865 hb
                            replace HB := b1_ hb
                            clear hb ho12
                            refine hK.out _ _ ⟨cz0_ BK864, cz1_ BK864⟩ (fun hHeld => ?_)
                            clear hK K
                            refine no_ (some 7) ?_
                            exact norm_ (by first | (simp only [putAll, Act.put, List.setIfInBounds_toArray, List.set_cons_zero, List.set_cons_succ]; done) | (simp only [putAll, Act.put, List.setIfInBounds_toArray, List.set_cons_zero, List.set_cons_succ]; rfl)) (hJ0_4 (v867, v873) _ ⟨hHeld, (rw_ (Kd.R_mono HO868.out (fun _ hk => hk.2))), (rw_ (Kd.R_mono HO874.out (fun _ hk => hk.2))), (kk_ BK864), (kk_ BK865), hB_⟩)
                          · skip
                            refine box_step ?hg (N := 5) ?hd (cs := #[.slice none 0 0, .slice none 0 0]) (t := 33) ?hr ?_; (case hd => rfl); (case hg => rfl); (case hr => first | (go_simp; done) | (go_simp; rfl))
                            intro gb878 hg w11 hbox hb
                            replace HO874 := rb_ HO874 hb
                            have BK878 := Aside0.mk hbox
                            have GW878 := gw_ w hg
                            have GE878 := GW878
                            replace HB := b1_ hb
                            have NB864_878 := gN_ BK864 hg
                            have NB878_864 := gP_ BK864 hg
                            replace BK864 := bb_ BK864 hb
                            have NB865_878 := gN_ BK865 hg
                            have NB878_865 := gP_ BK865 hg
                            replace BK865 := bb_ BK865 hb
                            clear hb hbox hg
                            refine hK.out _ _ ⟨cz0_ BK864, cz1_ BK864⟩ (fun hHeld => ?_)
                            clear hK K
                            refine no_ (some 5) ?_
                            exact norm_ (by first | (simp only [putAll, Act.put, List.setIfInBounds_toArray, List.set_cons_zero, List.set_cons_succ]; done) | (simp only [putAll, Act.put, List.setIfInBounds_toArray, List.set_cons_zero, List.set_cons_succ]; rfl)) (hJ4_9 (v873, gb878) _ ⟨hHeld, (rr_ HO874), (kk_ BK864), (kk_ BK865), (kk_ BK878), GW878.out, GE878.out, NB864_878.out, NB878_864.out, NB865_878.out, NB878_865.out, hB_⟩)
                      · skip
                        rintro v867 w10 ⟨hS_, h0_, h1_, h2_, h3_⟩
                        have n0_ : Aside0 (Kd.R (Kd.int .i64) 3 w10 w.heap.size (fun _ => True) v867 y866) := ⟨h0_⟩
                        have n1_ : Aside0 (w10.heap[gb864]? = some (.cells #[.slice A0_0 l0_0.length c0_0, .slice A0_1 l0_1.length c0_1] 33 (0, 0))) := ⟨h1_⟩
                        have n2_ : Aside0 (w10.heap[gb865]? = some (.cells #[.slice none 0 0, .slice none 0 0] 33 (0, 0))) := ⟨h2_⟩
                        have n3_ : Aside0 (Below w.heap.size w w10) := ⟨h3_⟩
                        clear BK864
                        clear BK865
                        clear HB
                        clear h0_ h1_ h2_ h3_
                        have HO868 := n0_
                        have BK864 := n1_
                        have BK865 := n2_
                        have HB := n3_
                        clear n0_ n1_ n2_ n3_
                        have hHeld : w10.cell? ⟨gb864, 0, none⟩ = some (.slice A0_0 l0_0.length c0_0) ∧ w10.cell? ⟨gb864, 1, none⟩ = some (.slice A0_1 l0_1.length c0_1) := hS_
                        refine norm_ (a' := ?_) ?_ ?_
                        rotate_left
                        · simp only [putAll, Act.put, List.setIfInBounds_toArray, List.set_cons_zero, List.set_cons_succ]
                          rfl
                        refine three_ (i := 3) (j := 4) (k := 9) (Ni := some 10) (Nj := some 11) (Nk := some 5) (bl_ 11 111) (bl_ 11 119) (bl_ 11 615) rfl rfl rfl rfl rfl rfl (three_of HT_.out (by kernel_rfl)) (by decide) (by decide) (by decide) (fun K hK => ?_) (fun K hK => ?_) (fun K hK => ?_)
                        · skip
                          refine Kd.R_append_rows_step (Kd.int .i64) (w0 := w) w.heap.size (by rfl) (.tmp 7) (.tmp 9) 23 3 (.int .i64 0) 8 rfl Try.underlying23 info3 rfl (by decide) (by omega) v867 y866 l0_0 _ _ _ (fun _ => True) (fun _ => False) rfl rfl ?aO ?aR (fun _ _ h => h) (fun _ h => h.elim) ?aF ?aB ?aS ?aL ?_
                          (case aR => exact cb_ HR0_0)
                          (case aB => exact hB_)
                          (case aF => exact (fun _ _ => trivial))
                          (case aO => exact (rr_ HO868))
                          (case aS => exact (below_size hB_))
                          (case aL => have := LMc3.out; omega)
                          intro v870 w11 ho hb hg hat
                          rw [← Ny869.out] at ho
                          replace BK864 := Aside0.mk (blk_grown (kk_ BK864) hg (Kd.R_ne HO868.out BK864.out (by decide)))
                          replace BK865 := Aside0.mk (blk_grown (kk_ BK865) hg (Kd.R_ne HO868.out BK865.out (by decide)))
                          replace HB := Aside0.mk hb
                          have HO871 := Aside0.mk ho
                          clear HO868
                          clear ho hb hg hat
                          refine hK.out _ _ ⟨cz0_ BK864, cz1_ BK864⟩ (fun hHeld => ?_)
                          clear hK K
                          refine no_ (some 10) ?_
                          exact norm_ (by first | (simp only [putAll, Act.put, List.setIfInBounds_toArray, List.set_cons_zero, List.set_cons_succ]; done) | (simp only [putAll, Act.put, List.setIfInBounds_toArray, List.set_cons_zero, List.set_cons_succ]; rfl)) (hJ0_3 (v867, v870) _ ⟨hHeld, (rr_ HO871), (kk_ BK864), (kk_ BK865), hB_⟩)
                        · skip
                          refine Kd.R_lit_step (Kd.int .i64) _ 3 ?hg (N := 11) ?hd (xs := ([] : List Int)) (inner := []) (ok := fun _ => True) (okp := fun _ => True) ?hr ?hp (fun _ hk => hk) trivial (Below.refl _ _) (Nat.le_refl _) (by simp) ?_; (case hd => rfl); (case hg => rfl); (case hr => first | (go_simp; done) | (go_simp; rfl)); (case hp => exact (Reps.none _ _))
                          intro v873 w11 ho12 hb hg_ hnew_
                          clear hg_ hnew_
                          (first | rw [← Ny872.out] at ho12 | (simp only [Int.reduceToNat] at ho12; rw [← Ny872.out] at ho12))
                          have HO874 := Aside0.mk (Kd.R_lower (Kd.R_new' ho12 (Kd.R_lt (rr_ HO868))) (below_size hB_))
                          replace HO868 := Aside0.mk (Kd.R_elder' (rr_ HO868) (Kd.R_base ho12) hb)
                          replace BK864 := bb_ BK864 hb
                          replace BK865 := bb_ BK865 hb
                          replace HB := b1_ hb
                          clear hb ho12
                          refine hK.out _ _ ⟨cz0_ BK864, cz1_ BK864⟩ (fun hHeld => ?_)
                          clear hK K
                          refine no_ (some 11) ?_
                          exact norm_ (by first | (simp only [putAll, Act.put, List.setIfInBounds_toArray, List.set_cons_zero, List.set_cons_succ]; done) | (simp only [putAll, Act.put, List.setIfInBounds_toArray, List.set_cons_zero, List.set_cons_succ]; rfl)) (hJ0_4 (v867, v873) _ ⟨hHeld, (rw_ (Kd.R_mono HO868.out (fun _ hk => hk.2))), (rw_ (Kd.R_mono HO874.out (fun _ hk => hk.2))), (kk_ BK864), (kk_ BK865), hB_⟩)
                        · skip
                          refine box_step ?hg (N := 5) ?hd (cs := #[.slice none 0 0, .slice none 0 0]) (t := 33) ?hr ?_; (case hd => rfl); (case hg => rfl); (case hr => first | (go_simp; done) | (go_simp; rfl))
                          intro gb878 hg w11 hbox hb
                          replace HO868 := rb_ HO868 hb
                          have BK878 := Aside0.mk hbox
                          have GW878 := gw_ w hg
                          have GE878 := GW878
                          replace HB := b1_ hb
                          have NB864_878 := gN_ BK864 hg
                          have NB878_864 := gP_ BK864 hg
                          replace BK864 := bb_ BK864 hb
                          have NB865_878 := gN_ BK865 hg
                          have NB878_865 := gP_ BK865 hg
                          replace BK865 := bb_ BK865 hb
                          clear hb hbox hg
                          refine hK.out _ _ ⟨cz0_ BK864, cz1_ BK864⟩ (fun hHeld => ?_)
                          clear hK K
                          refine no_ (some 5) ?_
                          exact norm_ (by first | (simp only [putAll, Act.put, List.setIfInBounds_toArray, List.set_cons_zero, List.set_cons_succ]; done) | (simp only [putAll, Act.put, List.setIfInBounds_toArray, List.set_cons_zero, List.set_cons_succ]; rfl)) (hJ0_9 (v867, gb878) _ ⟨hHeld, (rr_ HO868), (kk_ BK864), (kk_ BK865), (kk_ BK878), GW878.out, GE878.out, NB864_878.out, NB878_864.out, NB865_878.out, NB878_865.out, hB_⟩)
                    · skip
                      rintro ⟨v873, gb878⟩ w11 ⟨hS_, h0_, h1_, h2_, h3_, h4_, h5_, h6_, h7_, h8_, h9_, h10_⟩
                      have n0_ : Aside0 (Kd.R (Kd.int .i64) 3 w11 w.heap.size (fun _ => True) v873 y872) := ⟨h0_⟩
                      have n1_ : Aside0 (w11.heap[gb864]? = some (.cells #[.slice A0_0 l0_0.length c0_0, .slice A0_1 l0_1.length c0_1] 33 (0, 0))) := ⟨h1_⟩
                      have n2_ : Aside0 (w11.heap[gb865]? = some (.cells #[.slice none 0 0, .slice none 0 0] 33 (0, 0))) := ⟨h2_⟩
                      have n3_ : Aside0 (w11.heap[gb878]? = some (.cells #[.slice none 0 0, .slice none 0 0] 33 (0, 0))) := ⟨h3_⟩
                      have n4_ : Aside0 (w.heap.size ≤ gb878) := ⟨h4_⟩
                      have n5_ : Aside0 (w.heap.size ≤ gb878) := ⟨h5_⟩
                      have n6_ : Aside0 (gb864 ≠ gb878) := ⟨h6_⟩
                      have n7_ : Aside0 (gb878 ≠ gb864) := ⟨h7_⟩
                      have n8_ : Aside0 (gb865 ≠ gb878) := ⟨h8_⟩
                      have n9_ : Aside0 (gb878 ≠ gb865) := ⟨h9_⟩
                      have n10_ : Aside0 (Below w.heap.size w w11) := ⟨h10_⟩
                      clear BK864
                      clear BK865
                      clear HB
                      clear h0_ h1_ h2_ h3_ h4_ h5_ h6_ h7_ h8_ h9_ h10_
                      have HO874 := n0_
                      have BK864 := n1_
                      have BK865 := n2_
                      have BK878 := n3_
                      have GW878 := n4_
                      have GE878 := n5_
                      have NB864_878 := n6_
                      have NB878_864 := n7_
                      have NB865_878 := n8_
                      have NB878_865 := n9_
                      have HB := n10_
                      clear n0_ n1_ n2_ n3_ n4_ n5_ n6_ n7_ n8_ n9_ n10_
                      have hHeld : w11.cell? ⟨gb864, 0, none⟩ = some (.slice A0_0 l0_0.length c0_0) ∧ w11.cell? ⟨gb864, 1, none⟩ = some (.slice A0_1 l0_1.length c0_1) := hS_
                      refine norm_ (a' := ?_) ?_ ?_
                      rotate_left
                      · simp only [putAll, Act.put, List.setIfInBounds_toArray, List.set_cons_zero, List.set_cons_succ]
                        rfl
                      refine on_ 0 (some 7) (bl_ 11 631) HT_ (fun K hK => ?_)
                      refine Kd.R_lit_step (Kd.int .i64) _ 3 ?hg (N := 7) ?hd (xs := ([] : List Int)) (inner := []) (ok := fun _ => True) (okp := fun _ => True) ?hr ?hp (fun _ hk => hk) trivial (Below.refl _ _) (Nat.le_refl _) (by simp) ?_; (case hd => rfl); (case hg => rfl); (case hr => first | (go_simp; done) | (go_simp; rfl)); (case hp => exact (Reps.none _ _))
                      intro v867 w12 ho13 hb hg_ hnew_
                      clear hg_ hnew_
                      (first | rw [← Ny866.out] at ho13 | (simp only [Int.reduceToNat] at ho13; rw [← Ny866.out] at ho13))
                      have HO868 := Aside0.mk (Kd.R_lower (Kd.R_new' ho13 (Kd.R_lt (rr_ HO874))) (below_size hB_))
                      replace HO874 := Aside0.mk (Kd.R_elder' (rr_ HO874) (Kd.R_base ho13) hb)
                      replace BK864 := bb_ BK864 hb
                      replace BK865 := bb_ BK865 hb
                      replace BK878 := bb_ BK878 hb
                      replace HB := b1_ hb
                      clear hb ho13
                      refine hK.out _ _ ⟨cz0_ BK864, cz1_ BK864⟩ (fun hHeld => ?_)
                      clear hK K
                      refine no_ (some 7) ?_
                      exact norm_ (by first | (simp only [putAll, Act.put, List.setIfInBounds_toArray, List.set_cons_zero, List.set_cons_succ]; done) | (simp only [putAll, Act.put, List.setIfInBounds_toArray, List.set_cons_zero, List.set_cons_succ]; rfl)) (hJ0_4_9 (v867, v873, gb878) _ ⟨hHeld, (rw_ (Kd.R_mono HO868.out (fun _ hk => hk.2))), (rw_ (Kd.R_mono HO874.out (fun _ hk => hk.2))), (kk_ BK864), (kk_ BK865), (kk_ BK878), GW878.out, GE878.out, NB864_878.out, NB878_864.out, NB865_878.out, NB878_865.out, hB_⟩)
                  · skip
                    rintro ⟨v867, gb878⟩ w11 ⟨hS_, h0_, h1_, h2_, h3_, h4_, h5_, h6_, h7_, h8_, h9_, h10_⟩
                    have n0_ : Aside0 (Kd.R (Kd.int .i64) 3 w11 w.heap.size (fun _ => True) v867 y866) := ⟨h0_⟩
                    have n1_ : Aside0 (w11.heap[gb864]? = some (.cells #[.slice A0_0 l0_0.length c0_0, .slice A0_1 l0_1.length c0_1] 33 (0, 0))) := ⟨h1_⟩
                    have n2_ : Aside0 (w11.heap[gb865]? = some (.cells #[.slice none 0 0, .slice none 0 0] 33 (0, 0))) := ⟨h2_⟩
                    have n3_ : Aside0 (w11.heap[gb878]? = some (.cells #[.slice none 0 0, .slice none 0 0] 33 (0, 0))) := ⟨h3_⟩
                    have n4_ : Aside0 (w.heap.size ≤ gb878) := ⟨h4_⟩
                    have n5_ : Aside0 (w.heap.size ≤ gb878) := ⟨h5_⟩
                    have n6_ : Aside0 (gb864 ≠ gb878) := ⟨h6_⟩
                    have n7_ : Aside0 (gb878 ≠ gb864) := ⟨h7_⟩
                    have n8_ : Aside0 (gb865 ≠ gb878) := ⟨h8_⟩
                    have n9_ : Aside0 (gb878 ≠ gb865) := ⟨h9_⟩
                    have n10_ : Aside0 (Below w.heap.size w w11) := ⟨h10_⟩
                    clear BK864
                    clear BK865
                    clear HB
                    clear h0_ h1_ h2_ h3_ h4_ h5_ h6_ h7_ h8_ h9_ h10_
                    have HO868 := n0_
                    have BK864 := n1_
                    have BK865 := n2_
                    have BK878 := n3_
                    have GW878 := n4_
                    have GE878 := n5_
                    have NB864_878 := n6_
                    have NB878_864 := n7_
                    have NB865_878 := n8_
                    have NB878_865 := n9_
                    have HB := n10_
                    clear n0_ n1_ n2_ n3_ n4_ n5_ n6_ n7_ n8_ n9_ n10_
                    have hHeld : w11.cell? ⟨gb864, 0, none⟩ = some (.slice A0_0 l0_0.length c0_0) ∧ w11.cell? ⟨gb864, 1, none⟩ = some (.slice A0_1 l0_1.length c0_1) := hS_
                    refine norm_ (a' := ?_) ?_ ?_
                    rotate_left
                    · simp only [putAll, Act.put, List.setIfInBounds_toArray, List.set_cons_zero, List.set_cons_succ]
                      rfl
                    refine two_ (i := 3) (j := 4) (Ni := some 10) (Nj := some 11) (bl_ 11 623) (bl_ 11 631) rfl rfl rfl rfl (two_of HT_.out (by kernel_rfl)) (by decide) (by decide) (fun K hK => ?_) (fun K hK => ?_)
                    · skip
                      refine Kd.R_append_rows_step (Kd.int .i64) (w0 := w) w.heap.size (by rfl) (.tmp 7) (.tmp 9) 23 3 (.int .i64 0) 8 rfl Try.underlying23 info3 rfl (by decide) (by omega) v867 y866 l0_0 _ _ _ (fun _ => True) (fun _ => False) rfl rfl ?aO ?aR (fun _ _ h => h) (fun _ h => h.elim) ?aF ?aB ?aS ?aL ?_
                      (case aR => exact cb_ HR0_0)
                      (case aB => exact hB_)
                      (case aF => exact (fun _ _ => trivial))
                      (case aO => exact (rr_ HO868))
                      (case aS => exact (below_size hB_))
                      (case aL => have := LMc3.out; omega)
                      intro v870 w12 ho hb hg hat
                      rw [← Ny869.out] at ho
                      replace BK864 := Aside0.mk (blk_grown (kk_ BK864) hg (Kd.R_ne HO868.out BK864.out (by decide)))
                      replace BK865 := Aside0.mk (blk_grown (kk_ BK865) hg (Kd.R_ne HO868.out BK865.out (by decide)))
                      replace BK878 := Aside0.mk (blk_grown (kk_ BK878) hg (Kd.R_ne HO868.out BK878.out (by decide)))
                      replace HB := Aside0.mk hb
                      have HO871 := Aside0.mk ho
                      clear HO868
                      clear ho hb hg hat
                      refine hK.out _ _ ⟨cz0_ BK864, cz1_ BK864⟩ (fun hHeld => ?_)
                      clear hK K
                      refine no_ (some 10) ?_
                      exact norm_ (by first | (simp only [putAll, Act.put, List.setIfInBounds_toArray, List.set_cons_zero, List.set_cons_succ]; done) | (simp only [putAll, Act.put, List.setIfInBounds_toArray, List.set_cons_zero, List.set_cons_succ]; rfl)) (hJ0_3_9 (v867, v870, gb878) _ ⟨hHeld, (rr_ HO871), (kk_ BK864), (kk_ BK865), (kk_ BK878), GW878.out, GE878.out, NB864_878.out, NB878_864.out, NB865_878.out, NB878_865.out, hB_⟩)
                    · skip
                      refine Kd.R_lit_step (Kd.int .i64) _ 3 ?hg (N := 11) ?hd (xs := ([] : List Int)) (inner := []) (ok := fun _ => True) (okp := fun _ => True) ?hr ?hp (fun _ hk => hk) trivial (Below.refl _ _) (Nat.le_refl _) (by simp) ?_; (case hd => rfl); (case hg => rfl); (case hr => first | (go_simp; done) | (go_simp; rfl)); (case hp => exact (Reps.none _ _))
                      intro v873 w12 ho13 hb hg_ hnew_
                      clear hg_ hnew_
                      (first | rw [← Ny872.out] at ho13 | (simp only [Int.reduceToNat] at ho13; rw [← Ny872.out] at ho13))
                      have HO874 := Aside0.mk (Kd.R_lower (Kd.R_new' ho13 (Kd.R_lt (rr_ HO868))) (below_size hB_))
                      replace HO868 := Aside0.mk (Kd.R_elder' (rr_ HO868) (Kd.R_base ho13) hb)
                      replace BK864 := bb_ BK864 hb
                      replace BK865 := bb_ BK865 hb
                      replace BK878 := bb_ BK878 hb
                      replace HB := b1_ hb
                      clear hb ho13
                      refine hK.out _ _ ⟨cz0_ BK864, cz1_ BK864⟩ (fun hHeld => ?_)
                      clear hK K
                      refine no_ (some 11) ?_
                      exact norm_ (by first | (simp only [putAll, Act.put, List.setIfInBounds_toArray, List.set_cons_zero, List.set_cons_succ]; done) | (simp only [putAll, Act.put, List.setIfInBounds_toArray, List.set_cons_zero, List.set_cons_succ]; rfl)) (hJ0_4_9 (v867, v873, gb878) _ ⟨hHeld, (rw_ (Kd.R_mono HO868.out (fun _ hk => hk.2))), (rw_ (Kd.R_mono HO874.out (fun _ hk => hk.2))), (kk_ BK864), (kk_ BK865), (kk_ BK878), GW878.out, GE878.out, NB864_878.out, NB878_864.out, NB865_878.out, NB878_865.out, hB_⟩)
                · skip
                  rintro ⟨v867, v873⟩ w12 ⟨hS_, h0_, h1_, h2_, h3_, h4_⟩
                  have n0_ : Aside0 (Kd.R (Kd.int .i64) 3 w12 w.heap.size (fun k_ => some k_ ≠ (v873 : Value).ownBlock) v867 y866) := ⟨h0_⟩
                  have n1_ : Aside0 (Kd.R (Kd.int .i64) 3 w12 w.heap.size (fun k_ => some k_ ≠ (v867 : Value).ownBlock) v873 y872) := ⟨h1_⟩
                  have n2_ : Aside0 (w12.heap[gb864]? = some (.cells #[.slice A0_0 l0_0.length c0_0, .slice A0_1 l0_1.length c0_1] 33 (0, 0))) := ⟨h2_⟩
                  have n3_ : Aside0 (w12.heap[gb865]? = some (.cells #[.slice none 0 0, .slice none 0 0] 33 (0, 0))) := ⟨h3_⟩
                  have n4_ : Aside0 (Below w.heap.size w w12) := ⟨h4_⟩
                  clear BK864
                  clear BK865
                  clear HB
                  clear h0_ h1_ h2_ h3_ h4_
                  have HO868 := n0_
                  have HO874 := n1_
                  have BK864 := n2_
                  have BK865 := n3_
                  have HB := n4_
                  clear n0_ n1_ n2_ n3_ n4_
                  have hHeld : w12.cell? ⟨gb864, 0, none⟩ = some (.slice A0_0 l0_0.length c0_0) ∧ w12.cell? ⟨gb864, 1, none⟩ = some (.slice A0_1 l0_1.length c0_1) := hS_
                  refine norm_ (a' := ?_) ?_ ?_
                  rotate_left
                  · simp only [putAll, Act.put, List.setIfInBounds_toArray, List.set_cons_zero, List.set_cons_succ]
                    rfl
                  refine two_ (i := 3) (j := 9) (Ni := some 10) (Nj := some 5) (bl_ 11 127) (bl_ 11 631) rfl rfl rfl rfl (two_of HT_.out (by kernel_rfl)) (by decide) (by decide) (fun K hK => ?_) (fun K hK => ?_)
                  · skip
                    refine Kd.R_append_rows_step (Kd.int .i64) (w0 := w) w.heap.size (by rfl) (.tmp 7) (.tmp 9) 23 3 (.int .i64 0) 8 rfl Try.underlying23 info3 rfl (by decide) (by omega) v867 y866 l0_0 _ _ _ (fun k_ => some k_ ≠ (v873 : Value).ownBlock) (fun _ => False) rfl rfl ?aO ?aR (fun _ _ h => h) (fun _ h => h.elim) ?aF ?aB ?aS ?aL ?_
                    (case aR => exact cb_ HR0_0)
                    (case aB => exact hB_)
                    (case aF => exact (fun k_ hk => Kd.fresh' (Kd.R_lt (rr_ HO874)) k_ hk))
                    (case aO => exact (rr_ HO868))
                    (case aS => exact (below_size hB_))
                    (case aL => have := LMc3.out; omega)
                    intro v870 w13 ho hb hg hat
                    rw [← Ny869.out] at ho
                    replace BK864 := Aside0.mk (blk_grown (kk_ BK864) hg (Kd.R_ne HO868.out BK864.out (by decide)))
                    replace BK865 := Aside0.mk (blk_grown (kk_ BK865) hg (Kd.R_ne HO868.out BK865.out (by decide)))
                    replace HO874 := Aside0.mk (Kd.R_after (ok := (fun _ => True)) (rw_ (Kd.R_mono HO874.out (fun _ hk => ⟨trivial, hk⟩))) hg hat)
                    replace HB := Aside0.mk hb
                    have HO871 := Aside0.mk ho
                    clear HO868
                    clear ho hb hg hat
                    refine hK.out _ _ ⟨cz0_ BK864, cz1_ BK864⟩ (fun hHeld => ?_)
                    clear hK K
                    refine no_ (some 10) ?_
                    exact norm_ (by first | (simp only [putAll, Act.put, List.setIfInBounds_toArray, List.set_cons_zero, List.set_cons_succ]; done) | (simp only [putAll, Act.put, List.setIfInBounds_toArray, List.set_cons_zero, List.set_cons_succ]; rfl)) (hJ0_3_4 (v867, v870, v873) _ ⟨hHeld, (rr_ HO871), (rw_ (Kd.R_mono HO874.out (fun _ hk => hk.2))), (kk_ BK864), (kk_ BK865), hB_⟩)
                  · skip
                    refine box_step ?hg (N := 5) ?hd (cs := #[.slice none 0 0, .slice none 0 0]) (t := 33) ?hr ?_; (case hd => rfl); (case hg => rfl); (case hr => first | (go_simp; done) | (go_simp; rfl))
                    intro gb878 hg w13 hbox hb
                    replace HO868 := rb_ HO868 hb
                    replace HO874 := rb_ HO874 hb
                    have BK878 := Aside0.mk hbox
                    have GW878 := gw_ w hg
                    have GE878 := GW878
                    replace HB := b1_ hb
                    have NB864_878 := gN_ BK864 hg
                    have NB878_864 := gP_ BK864 hg
                    replace BK864 := bb_ BK864 hb
                    have NB865_878 := gN_ BK865 hg
                    have NB878_865 := gP_ BK865 hg
                    replace BK865 := bb_ BK865 hb
                    clear hb hbox hg
                    refine hK.out _ _ ⟨cz0_ BK864, cz1_ BK864⟩ (fun hHeld => ?_)
                    clear hK K
                    refine no_ (some 5) ?_
                    exact norm_ (by first | (simp only [putAll, Act.put, List.setIfInBounds_toArray, List.set_cons_zero, List.set_cons_succ]; done) | (simp only [putAll, Act.put, List.setIfInBounds_toArray, List.set_cons_zero, List.set_cons_succ]; rfl)) (hJ0_4_9 (v867, v873, gb878) _ ⟨hHeld, (rr_ HO868), (rr_ HO874), (kk_ BK864), (kk_ BK865), (kk_ BK878), GW878.out, GE878.out, NB864_878.out, NB878_864.out, NB865_878.out, NB878_865.out, hB_⟩)
              · skip
                rintro ⟨v867, v870⟩ w11 ⟨hS_, h0_, h1_, h2_, h3_⟩
                have n0_ : Aside0 (Kd.R (Kd.int .i64) 3 w11 w.heap.size (fun _ => True) v870 y869) := ⟨h0_⟩
                have n1_ : Aside0 (w11.heap[gb864]? = some (.cells #[.slice A0_0 l0_0.length c0_0, .slice A0_1 l0_1.length c0_1] 33 (0, 0))) := ⟨h1_⟩
                have n2_ : Aside0 (w11.heap[gb865]? = some (.cells #[.slice none 0 0, .slice none 0 0] 33 (0, 0))) := ⟨h2_⟩
                have n3_ : Aside0 (Below w.heap.size w w11) := ⟨h3_⟩
                clear BK864
                clear BK865
                clear HB
                clear h0_ h1_ h2_ h3_
                have HO871 := n0_
                have BK864 := n1_
                have BK865 := n2_
                have HB := n3_
                clear n0_ n1_ n2_ n3_
                have hHeld : w11.cell? ⟨gb864, 0, none⟩ = some (.slice A0_0 l0_0.length c0_0) ∧ w11.cell? ⟨gb864, 1, none⟩ = some (.slice A0_1 l0_1.length c0_1) := hS_
                refine norm_ (a' := ?_) ?_ ?_
                rotate_left
                · simp only [putAll, Act.put, List.setIfInBounds_toArray, List.set_cons_zero, List.set_cons_succ]
                  rfl
                refine two_ (i := 4) (j := 9) (Ni := some 11) (Nj := some 5) (bl_ 11 127) (bl_ 11 623) rfl rfl rfl rfl (two_of HT_.out (by kernel_rfl)) (by decide) (by decide) (fun K hK => ?_) (fun K hK => ?_)
                · skip
                  refine Kd.R_lit_step (Kd.int .i64) _ 3 ?hg (N := 11) ?hd (xs := ([] : List Int)) (inner := []) (ok := fun _ => True) (okp := fun _ => True) ?hr ?hp (fun _ hk => hk) trivial (Below.refl _ _) (Nat.le_refl _) (by simp) ?_; (case hd => rfl); (case hg => rfl); (case hr => first | (go_simp; done) | (go_simp; rfl)); (case hp => exact (Reps.none _ _))
                  intro v873 w12 ho13 hb hg_ hnew_
                  clear hg_ hnew_
                  (first | rw [← Ny872.out] at ho13 | (simp only [Int.reduceToNat] at ho13; rw [← Ny872.out] at ho13))
                  have HO874 := Aside0.mk (Kd.R_lower (Kd.R_new' ho13 (Kd.R_lt (rr_ HO871))) (below_size hB_))
                  replace HO871 := Aside0.mk (Kd.R_elder' (rr_ HO871) (Kd.R_base ho13) hb)
                  replace BK864 := bb_ BK864 hb
                  replace BK865 := bb_ BK865 hb
                  replace HB := b1_ hb
                  clear hb ho13
                  refine hK.out _ _ ⟨cz0_ BK864, cz1_ BK864⟩ (fun hHeld => ?_)
                  clear hK K
                  refine no_ (some 11) ?_
                  exact norm_ (by first | (simp only [putAll, Act.put, List.setIfInBounds_toArray, List.set_cons_zero, List.set_cons_succ]; done) | (simp only [putAll, Act.put, List.setIfInBounds_toArray, List.set_cons_zero, List.set_cons_succ]; rfl)) (hJ0_3_4 (v867, v870, v873) _ ⟨hHeld, (rw_ (Kd.R_mono HO871.out (fun _ hk => hk.2))), (rw_ (Kd.R_mono HO874.out (fun _ hk => hk.2))), (kk_ BK864), (kk_ BK865), hB_⟩)
                · skip
                  refine box_step ?hg (N := 5) ?hd (cs := #[.slice none 0 0, .slice none 0 0]) (t := 33) ?hr ?_; (case hd => rfl); (case hg => rfl); (case hr => first | (go_simp; done) | (go_simp; rfl))
                  intro gb878 hg w12 hbox hb
                  replace HO871 := rb_ HO871 hb
                  have BK878 := Aside0.mk hbox
                  have GW878 := gw_ w hg
                  have GE878 := GW878
                  replace HB := b1_ hb
                  have NB864_878 := gN_ BK864 hg
                  have NB878_864 := gP_ BK864 hg
                  replace BK864 := bb_ BK864 hb
                  have NB865_878 := gN_ BK865 hg
                  have NB878_865 := gP_ BK865 hg
                  replace BK865 := bb_ BK865 hb
                  clear hb hbox hg
                  refine hK.out _ _ ⟨cz0_ BK864, cz1_ BK864⟩ (fun hHeld => ?_)
                  clear hK K
                  refine no_ (some 5) ?_
                  exact norm_ (by first | (simp only [putAll, Act.put, List.setIfInBounds_toArray, List.set_cons_zero, List.set_cons_succ]; done) | (simp only [putAll, Act.put, List.setIfInBounds_toArray, List.set_cons_zero, List.set_cons_succ]; rfl)) (hJ0_3_9 (v867, v870, gb878) _ ⟨hHeld, (rr_ HO871), (kk_ BK864), (kk_ BK865), (kk_ BK878), GW878.out, GE878.out, NB864_878.out, NB878_864.out, NB865_878.out, NB878_865.out, hB_⟩)
            · skip
              rintro ⟨v867, v873, gb878⟩ w13 ⟨hS_, h0_, h1_, h2_, h3_, h4_, h5_, h6_, h7_, h8_, h9_, h10_, h11_⟩
              have n0_ : Aside0 (Kd.R (Kd.int .i64) 3 w13 w.heap.size (fun k_ => some k_ ≠ (v873 : Value).ownBlock) v867 y866) := ⟨h0_⟩
              have n1_ : Aside0 (Kd.R (Kd.int .i64) 3 w13 w.heap.size (fun k_ => some k_ ≠ (v867 : Value).ownBlock) v873 y872) := ⟨h1_⟩
              have n2_ : Aside0 (w13.heap[gb864]? = some (.cells #[.slice A0_0 l0_0.length c0_0, .slice A0_1 l0_1.length c0_1] 33 (0, 0))) := ⟨h2_⟩
              have n3_ : Aside0 (w13.heap[gb865]? = some (.cells #[.slice none 0 0, .slice none 0 0] 33 (0, 0))) := ⟨h3_⟩
              have n4_ : Aside0 (w13.heap[gb878]? = some (.cells #[.slice none 0 0, .slice none 0 0] 33 (0, 0))) := ⟨h4_⟩
              have n5_ : Aside0 (w.heap.size ≤ gb878) := ⟨h5_⟩
              have n6_ : Aside0 (w.heap.size ≤ gb878) := ⟨h6_⟩
              have n7_ : Aside0 (gb864 ≠ gb878) := ⟨h7_⟩
              have n8_ : Aside0 (gb878 ≠ gb864) := ⟨h8_⟩
              have n9_ : Aside0 (gb865 ≠ gb878) := ⟨h9_⟩
              have n10_ : Aside0 (gb878 ≠ gb865) := ⟨h10_⟩
              have n11_ : Aside0 (Below w.heap.size w w13) := ⟨h11_⟩
              clear BK864
              clear BK865
              clear HB
              clear h0_ h1_ h2_ h3_ h4_ h5_ h6_ h7_ h8_ h9_ h10_ h11_
              have HO868 := n0_
              have HO874 := n1_
              have BK864 := n2_
              have BK865 := n3_
              have BK878 := n4_
              have GW878 := n5_
              have GE878 := n6_
              have NB864_878 := n7_
              have NB878_864 := n8_
              have NB865_878 := n9_
              have NB878_865 := n10_
              have HB := n11_
              clear n0_ n1_ n2_ n3_ n4_ n5_ n6_ n7_ n8_ n9_ n10_ n11_
              have hHeld : w13.cell? ⟨gb864, 0, none⟩ = some (.slice A0_0 l0_0.length c0_0) ∧ w13.cell? ⟨gb864, 1, none⟩ = some (.slice A0_1 l0_1.length c0_1) := hS_
              refine norm_ (a' := ?_) ?_ ?_
              rotate_left
              · simp only [putAll, Act.put, List.setIfInBounds_toArray, List.set_cons_zero, List.set_cons_succ]
                rfl
              refine on_ 3 (some 10) (bl_ 11 639) HT_ (fun K hK => ?_)
              refine Kd.R_append_rows_step (Kd.int .i64) (w0 := w) w.heap.size (by rfl) (.tmp 7) (.tmp 9) 23 3 (.int .i64 0) 8 rfl Try.underlying23 info3 rfl (by decide) (by omega) v867 y866 l0_0 _ _ _ (fun k_ => some k_ ≠ (v873 : Value).ownBlock) (fun _ => False) rfl rfl ?aO ?aR (fun _ _ h => h) (fun _ h => h.elim) ?aF ?aB ?aS ?aL ?_
              (case aR => exact cb_ HR0_0)
              (case aB => exact hB_)
              (case aF => exact (fun k_ hk => Kd.fresh' (Kd.R_lt (rr_ HO874)) k_ hk))
              (case aO => exact (rr_ HO868))
              (case aS => exact (below_size hB_))
              (case aL => have := LMc3.out; omega)
              intro v870 w14 ho hb hg hat
              rw [← Ny869.out] at ho
              replace BK864 := Aside0.mk (blk_grown (kk_ BK864) hg (Kd.R_ne HO868.out BK864.out (by decide)))
              replace BK865 := Aside0.mk (blk_grown (kk_ BK865) hg (Kd.R_ne HO868.out BK865.out (by decide)))
              replace HO874 := Aside0.mk (Kd.R_after (ok := (fun _ => True)) (rw_ (Kd.R_mono HO874.out (fun _ hk => ⟨trivial, hk⟩))) hg hat)
              replace BK878 := Aside0.mk (blk_grown (kk_ BK878) hg (Kd.R_ne HO868.out BK878.out (by decide)))
              replace HB := Aside0.mk hb
              have HO871 := Aside0.mk ho
              clear HO868
              clear ho hb hg hat
              refine hK.out _ _ ⟨cz0_ BK864, cz1_ BK864⟩ (fun hHeld => ?_)
              clear hK K
              refine no_ (some 10) ?_
              exact norm_ (by first | (simp only [putAll, Act.put, List.setIfInBounds_toArray, List.set_cons_zero, List.set_cons_succ]; done) | (simp only [putAll, Act.put, List.setIfInBounds_toArray, List.set_cons_zero, List.set_cons_succ]; rfl)) (hJ0_3_4_9 (v867, v870, v873, gb878) _ ⟨hHeld, (rr_ HO871), (rw_ (Kd.R_mono HO874.out (fun _ hk => hk.2))), (kk_ BK864), (kk_ BK865), (kk_ BK878), GW878.out, GE878.out, NB864_878.out, NB878_864.out, NB865_878.out, NB878_865.out, hB_⟩)
          · skip
            rintro ⟨v867, v870, gb878⟩ w12 ⟨hS_, h0_, h1_, h2_, h3_, h4_, h5_, h6_, h7_, h8_, h9_, h10_⟩
            have n0_ : Aside0 (Kd.R (Kd.int .i64) 3 w12 w.heap.size (fun _ => True) v870 y869) := ⟨h0_⟩
            have n1_ : Aside0 (w12.heap[gb864]? = some (.cells #[.slice A0_0 l0_0.length c0_0, .slice A0_1 l0_1.length c0_1] 33 (0, 0))) := ⟨h1_⟩
            have n2_ : Aside0 (w12.heap[gb865]? = some (.cells #[.slice none 0 0, .slice none 0 0] 33 (0, 0))) := ⟨h2_⟩
            have n3_ : Aside0 (w12.heap[gb878]? = some (.cells #[.slice none 0 0, .slice none 0 0] 33 (0, 0))) := ⟨h3_⟩
            have n4_ : Aside0 (w.heap.size ≤ gb878) := ⟨h4_⟩
            have n5_ : Aside0 (w.heap.size ≤ gb878) := ⟨h5_⟩
            have n6_ : Aside0 (gb864 ≠ gb878) := ⟨h6_⟩
            have n7_ : Aside0 (gb878 ≠ gb864) := ⟨h7_⟩
            have n8_ : Aside0 (gb865 ≠ gb878) := ⟨h8_⟩
            have n9_ : Aside0 (gb878 ≠ gb865) := ⟨h9_⟩
            have n10_ : Aside0 (Below w.heap.size w w12) := ⟨h10_⟩
            clear BK864
            clear BK865
            clear HB
            clear h0_ h1_ h2_ h3_ h4_ h5_ h6_ h7_ h8_ h9_ h10_
            have HO871 := n0_
            have BK864 := n1_
            have BK865 := n2_
            have BK878 := n3_
            have GW878 := n4_
            have GE878 := n5_
            have NB864_878 := n6_
            have NB878_864 := n7_
            have NB865_878 := n8_
            have NB878_865 := n9_
            have HB := n10_
            clear n0_ n1_ n2_ n3_ n4_ n5_ n6_ n7_ n8_ n9_ n10_
            have hHeld : w12.cell? ⟨gb864, 0, none⟩ = some (.slice A0_0 l0_0.length c0_0) ∧ w12.cell? ⟨gb864, 1, none⟩ = some (.slice A0_1 l0_1.length c0_1) := hS_
            refine norm_ (a' := ?_) ?_ ?_
            rotate_left
            · simp only [putAll, Act.put, List.setIfInBounds_toArray, List.set_cons_zero, List.set_cons_succ]
              rfl
            refine on_ 4 (some 11) (bl_ 11 639) HT_ (fun K hK => ?_)
            refine Kd.R_lit_step (Kd.int .i64) _ 3 ?hg (N := 11) ?hd (xs := ([] : List Int)) (inner := []) (ok := fun _ => True) (okp := fun _ => True) ?hr ?hp (fun _ hk => hk) trivial (Below.refl _ _) (Nat.le_refl _) (by simp) ?_; (case hd => rfl); (case hg => rfl); (case hr => first | (go_simp; done) | (go_simp; rfl)); (case hp => exact (Reps.none _ _))
            intro v873 w13 ho14 hb hg_ hnew_
            clear hg_ hnew_
            (first | rw [← Ny872.out] at ho14 | (simp only [Int.reduceToNat] at ho14; rw [← Ny872.out] at ho14))
            have HO874 := Aside0.mk (Kd.R_lower (Kd.R_new' ho14 (Kd.R_lt (rr_ HO871))) (below_size hB_))
            replace HO871 := Aside0.mk (Kd.R_elder' (rr_ HO871) (Kd.R_base ho14) hb)
            replace BK864 := bb_ BK864 hb
            replace BK865 := bb_ BK865 hb
            replace BK878 := bb_ BK878 hb
            replace HB := b1_ hb
            clear hb ho14
            refine hK.out _ _ ⟨cz0_ BK864, cz1_ BK864⟩ (fun hHeld => ?_)
            clear hK K
            refine no_ (some 11) ?_
            exact norm_ (by first | (simp only [putAll, Act.put, List.setIfInBounds_toArray, List.set_cons_zero, List.set_cons_succ]; done) | (simp only [putAll, Act.put, List.setIfInBounds_toArray, List.set_cons_zero, List.set_cons_succ]; rfl)) (hJ0_3_4_9 (v867, v870, v873, gb878) _ ⟨hHeld, (rw_ (Kd.R_mono HO871.out (fun _ hk => hk.2))), (rw_ (Kd.R_mono HO874.out (fun _ hk => hk.2))), (kk_ BK864), (kk_ BK865), (kk_ BK878), GW878.out, GE878.out, NB864_878.out, NB878_864.out, NB865_878.out, NB878_865.out, hB_⟩)
        · skip
          rintro ⟨v867, v870, v873⟩ w13 ⟨hS_, h0_, h1_, h2_, h3_, h4_⟩
          have n0_ : Aside0 (Kd.R (Kd.int .i64) 3 w13 w.heap.size (fun k_ => some k_ ≠ (v873 : Value).ownBlock) v870 y869) := ⟨h0_⟩
          have n1_ : Aside0 (Kd.R (Kd.int .i64) 3 w13 w.heap.size (fun k_ => some k_ ≠ (v870 : Value).ownBlock) v873 y872) := ⟨h1_⟩
          have n2_ : Aside0 (w13.heap[gb864]? = some (.cells #[.slice A0_0 l0_0.length c0_0, .slice A0_1 l0_1.length c0_1] 33 (0, 0))) := ⟨h2_⟩
          have n3_ : Aside0 (w13.heap[gb865]? = some (.cells #[.slice none 0 0, .slice none 0 0] 33 (0, 0))) := ⟨h3_⟩
          have n4_ : Aside0 (Below w.heap.size w w13) := ⟨h4_⟩
          clear BK864
          clear BK865
          clear HB
          clear h0_ h1_ h2_ h3_ h4_
          have HO871 := n0_
          have HO874 := n1_
          have BK864 := n2_
          have BK865 := n3_
          have HB := n4_
          clear n0_ n1_ n2_ n3_ n4_
          have hHeld : w13.cell? ⟨gb864, 0, none⟩ = some (.slice A0_0 l0_0.length c0_0) ∧ w13.cell? ⟨gb864, 1, none⟩ = some (.slice A0_1 l0_1.length c0_1) := hS_
          refine norm_ (a' := ?_) ?_ ?_
          rotate_left
          · simp only [putAll, Act.put, List.setIfInBounds_toArray, List.set_cons_zero, List.set_cons_succ]
            rfl
          refine two_ (i := 7) (j := 9) (Ni := some 14) (Nj := some 5) (bl_ 11 255) (bl_ 11 639) rfl rfl rfl rfl (two_of HT_.out (by kernel_rfl)) (by decide) (by decide) (fun K hK => ?_) (fun K hK => ?_)
          · skip
            refine Kd.R_append_rows_step (Kd.int .i64) (w0 := w) w.heap.size (by rfl) (.tmp 11) (.tmp 13) 23 3 (.int .i64 0) 8 rfl Try.underlying23 info3 rfl (by decide) (by omega) v873 y872 l0_1 _ _ _ (fun k_ => some k_ ≠ (v870 : Value).ownBlock) (fun _ => False) rfl rfl ?aO ?aR (fun _ _ h => h) (fun _ h => h.elim) ?aF ?aB ?aS ?aL ?_
            (case aR => exact cb_ HR0_1)
            (case aB => exact hB_)
            (case aF => exact (fun k_ hk => Kd.fresh' (Kd.R_lt (rr_ HO871)) k_ hk))
            (case aO => exact (rr_ HO874))
            (case aS => exact (below_size hB_))
            (case aL => have := LMc4.out; omega)
            intro v876 w14 ho hb hg hat
            rw [← Ny875.out] at ho
            replace BK864 := Aside0.mk (blk_grown (kk_ BK864) hg (Kd.R_ne HO874.out BK864.out (by decide)))
            replace BK865 := Aside0.mk (blk_grown (kk_ BK865) hg (Kd.R_ne HO874.out BK865.out (by decide)))
            replace HO871 := Aside0.mk (Kd.R_after (ok := (fun _ => True)) (rw_ (Kd.R_mono HO871.out (fun _ hk => ⟨trivial, hk⟩))) hg hat)
            replace HB := Aside0.mk hb
            have HO877 := Aside0.mk ho
            clear HO874
            clear ho hb hg hat
            obtain ⟨Ao15, co15, eo15⟩ := Kd.R_slice HO877.out
            (first | subst eo15 | (injection eo15 with f1_ f2_ f3_; have f4_ := f1_.symm; have f5_ := f3_.symm; clear f1_ f2_ f3_; subst f4_; subst f5_))
            obtain ⟨Ao16, co16, eo16⟩ := Kd.R_slice HO871.out
            (first | subst eo16 | (injection eo16 with f1_ f2_ f3_; have f4_ := f1_.symm; have f5_ := f3_.symm; clear f1_ f2_ f3_; subst f4_; subst f5_))
            refine hK.out _ _ ⟨cz0_ BK864, cz1_ BK864⟩ (fun hHeld => ?_)
            clear hK K
            refine no_ (some 14) ?_
            refine pu_ 8 (some 15) (bl_ 11 511) HT_ ?_
            exact norm_ (by first | (simp only [putAll, Act.put, List.setIfInBounds_toArray, List.set_cons_zero, List.set_cons_succ]; done) | (simp only [putAll, Act.put, List.setIfInBounds_toArray, List.set_cons_zero, List.set_cons_succ]; rfl)) (hJ0_3_4_7 (v867, .slice Ao16 y869.length co16, v873, .slice Ao15 y875.length co15) _ ⟨hHeld, (rw_ (Kd.R_mono HO871.out (fun _ hk => hk.2))), (rr_ HO877), (kk_ BK864), (kk_ BK865), hB_⟩)
          · skip
            refine box_step ?hg (N := 5) ?hd (cs := #[.slice none 0 0, .slice none 0 0]) (t := 33) ?hr ?_; (case hd => rfl); (case hg => rfl); (case hr => first | (go_simp; done) | (go_simp; rfl))
            intro gb878 hg w14 hbox hb
            replace HO871 := rb_ HO871 hb
            replace HO874 := rb_ HO874 hb
            have BK878 := Aside0.mk hbox
            have GW878 := gw_ w hg
            have GE878 := GW878
            replace HB := b1_ hb
            have NB864_878 := gN_ BK864 hg
            have NB878_864 := gP_ BK864 hg
            replace BK864 := bb_ BK864 hb
            have NB865_878 := gN_ BK865 hg
            have NB878_865 := gP_ BK865 hg
            replace BK865 := bb_ BK865 hb
            clear hb hbox hg
            refine hK.out _ _ ⟨cz0_ BK864, cz1_ BK864⟩ (fun hHeld => ?_)
            clear hK K
            refine no_ (some 5) ?_
            exact norm_ (by first | (simp only [putAll, Act.put, List.setIfInBounds_toArray, List.set_cons_zero, List.set_cons_succ]; done) | (simp only [putAll, Act.put, List.setIfInBounds_toArray, List.set_cons_zero, List.set_cons_succ]; rfl)) (hJ0_3_4_9 (v867, v870, v873, gb878) _ ⟨hHeld, (rr_ HO871), (rr_ HO874), (kk_ BK864), (kk_ BK865), (kk_ BK878), GW878.out, GE878.out, NB864_878.out, NB878_864.out, NB865_878.out, NB878_865.out, hB_⟩)
      · skip
        rintro ⟨v867, v870, v873, gb878⟩ w14 ⟨hS_, h0_, h1_, h2_, h3_, h4_, h5_, h6_, h7_, h8_, h9_, h10_, h11_⟩
        have n0_ : Aside0 (Kd.R (Kd.int .i64) 3 w14 w.heap.size (fun k_ => some k_ ≠ (v873 : Value).ownBlock) v870 y869) := ⟨h0_⟩
        have n1_ : Aside0 (Kd.R (Kd.int .i64) 3 w14 w.heap.size (fun k_ => some k_ ≠ (v870 : Value).ownBlock) v873 y872) := ⟨h1_⟩
        have n2_ : Aside0 (w14.heap[gb864]? = some (.cells #[.slice A0_0 l0_0.length c0_0, .slice A0_1 l0_1.length c0_1] 33 (0, 0))) := ⟨h2_⟩
        have n3_ : Aside0 (w14.heap[gb865]? = some (.cells #[.slice none 0 0, .slice none 0 0] 33 (0, 0))) := ⟨h3_⟩
        have n4_ : Aside0 (w14.heap[gb878]? = some (.cells #[.slice none 0 0, .slice none 0 0] 33 (0, 0))) := ⟨h4_⟩
        have n5_ : Aside0 (w.heap.size ≤ gb878) := ⟨h5_⟩
        have n6_ : Aside0 (w.heap.size ≤ gb878) := ⟨h6_⟩
        have n7_ : Aside0 (gb864 ≠ gb878) := ⟨h7_⟩
        have n8_ : Aside0 (gb878 ≠ gb864) := ⟨h8_⟩
        have n9_ : Aside0 (gb865 ≠ gb878) := ⟨h9_⟩
        have n10_ : Aside0 (gb878 ≠ gb865) := ⟨h10_⟩
        have n11_ : Aside0 (Below w.heap.size w w14) := ⟨h11_⟩
        clear BK864
        clear BK865
        clear HB
        clear h0_ h1_ h2_ h3_ h4_ h5_ h6_ h7_ h8_ h9_ h10_ h11_
        have HO871 := n0_
        have HO874 := n1_
        have BK864 := n2_
        have BK865 := n3_
        have BK878 := n4_
        have GW878 := n5_
        have GE878 := n6_
        have NB864_878 := n7_
        have NB878_864 := n8_
        have NB865_878 := n9_
        have NB878_865 := n10_
        have HB := n11_
        clear n0_ n1_ n2_ n3_ n4_ n5_ n6_ n7_ n8_ n9_ n10_ n11_
        have hHeld : w14.cell? ⟨gb864, 0, none⟩ = some (.slice A0_0 l0_0.length c0_0) ∧ w14.cell? ⟨gb864, 1, none⟩ = some (.slice A0_1 l0_1.length c0_1) := hS_
        refine norm_ (a' := ?_) ?_ ?_
        rotate_left
        · simp only [putAll, Act.put, List.setIfInBounds_toArray, List.set_cons_zero, List.set_cons_succ]
          rfl
        refine on_ 7 (some 14) (bl_ 11 767) HT_ (fun K hK => ?_)
        refine Kd.R_append_rows_step (Kd.int .i64) (w0 := w) w.heap.size (by rfl) (.tmp 11) (.tmp 13) 23 3 (.int .i64 0) 8 rfl Try.underlying23 info3 rfl (by decide) (by omega) v873 y872 l0_1 _ _ _ (fun k_ => some k_ ≠ (v870 : Value).ownBlock) (fun _ => False) rfl rfl ?aO ?aR (fun _ _ h => h) (fun _ h => h.elim) ?aF ?aB ?aS ?aL ?_
        (case aR => exact cb_ HR0_1)
        (case aB => exact hB_)
        (case aF => exact (fun k_ hk => Kd.fresh' (Kd.R_lt (rr_ HO871)) k_ hk))
        (case aO => exact (rr_ HO874))
        (case aS => exact (below_size hB_))
        (case aL => have := LMc4.out; omega)
        intro v876 w15 ho hb hg hat
        rw [← Ny875.out] at ho
        replace BK864 := Aside0.mk (blk_grown (kk_ BK864) hg (Kd.R_ne HO874.out BK864.out (by decide)))
        replace BK865 := Aside0.mk (blk_grown (kk_ BK865) hg (Kd.R_ne HO874.out BK865.out (by decide)))
        replace HO871 := Aside0.mk (Kd.R_after (ok := (fun _ => True)) (rw_ (Kd.R_mono HO871.out (fun _ hk => ⟨trivial, hk⟩))) hg hat)
        replace BK878 := Aside0.mk (blk_grown (kk_ BK878) hg (Kd.R_ne HO874.out BK878.out (by decide)))
        replace HB := Aside0.mk hb
        have HO877 := Aside0.mk ho
        clear HO874
        clear ho hb hg hat
        obtain ⟨Ao16, co16, eo16⟩ := Kd.R_slice HO877.out
        (first | subst eo16 | (injection eo16 with f1_ f2_ f3_; have f4_ := f1_.symm; have f5_ := f3_.symm; clear f1_ f2_ f3_; subst f4_; subst f5_))
        obtain ⟨Ao17, co17, eo17⟩ := Kd.R_slice HO871.out
        (first | subst eo17 | (injection eo17 with f1_ f2_ f3_; have f4_ := f1_.symm; have f5_ := f3_.symm; clear f1_ f2_ f3_; subst f4_; subst f5_))
        refine hK.out _ _ ⟨cz0_ BK864, cz1_ BK864⟩ (fun hHeld => ?_)
        clear hK K
        refine no_ (some 14) ?_
        refine pu_ 8 (some 15) (bl_ 11 1023) HT_ ?_
        exact norm_ (by first | (simp only [putAll, Act.put, List.setIfInBounds_toArray, List.set_cons_zero, List.set_cons_succ]; done) | (simp only [putAll, Act.put, List.setIfInBounds_toArray, List.set_cons_zero, List.set_cons_succ]; rfl)) (hJ0_3_4_7_9 (v867, .slice Ao17 y869.length co17, v873, .slice Ao16 y875.length co16, gb878) _ ⟨hHeld, (rw_ (Kd.R_mono HO871.out (fun _ hk => hk.2))), (rr_ HO877), (kk_ BK864), (kk_ BK865), (kk_ BK878), GW878.out, GE878.out, NB864_878.out, NB878_864.out, NB865_878.out, NB878_865.out, hB_⟩)
    · skip
      rintro ⟨v867, v870, v873, v876⟩ w16 ⟨hS_, h0_, h1_, h2_, h3_, h4_⟩
      have n0_ : Aside0 (Kd.R (Kd.int .i64) 3 w16 w.heap.size (fun k_ => some k_ ≠ (v876 : Value).ownBlock) v870 y869) := ⟨h0_⟩
      have n1_ : Aside0 (Kd.R (Kd.int .i64) 3 w16 w.heap.size (fun k_ => some k_ ≠ (v870 : Value).ownBlock) v876 y875) := ⟨h1_⟩
      have n2_ : Aside0 (w16.heap[gb864]? = some (.cells #[.slice A0_0 l0_0.length c0_0, .slice A0_1 l0_1.length c0_1] 33 (0, 0))) := ⟨h2_⟩
      have n3_ : Aside0 (w16.heap[gb865]? = some (.cells #[.slice none 0 0, .slice none 0 0] 33 (0, 0))) := ⟨h3_⟩
      have n4_ : Aside0 (Below w.heap.size w w16) := ⟨h4_⟩
      clear BK864
      clear BK865
      clear HB
      clear h0_ h1_ h2_ h3_ h4_
      have HO871 := n0_
      have HO877 := n1_
      have BK864 := n2_
      have BK865 := n3_
      have HB := n4_
      clear n0_ n1_ n2_ n3_ n4_
      have hHeld : w16.cell? ⟨gb864, 0, none⟩ = some (.slice A0_0 l0_0.length c0_0) ∧ w16.cell? ⟨gb864, 1, none⟩ = some (.slice A0_1 l0_1.length c0_1) := hS_
      obtain ⟨Ao17, co17, eo17⟩ := Kd.R_slice HO877.out
      (first | subst eo17 | (injection eo17 with f1_ f2_ f3_; have f4_ := f1_.symm; have f5_ := f3_.symm; clear f1_ f2_ f3_; subst f4_; subst f5_))
      obtain ⟨Ao18, co18, eo18⟩ := Kd.R_slice HO871.out
      (first | subst eo18 | (injection eo18 with f1_ f2_ f3_; have f4_ := f1_.symm; have f5_ := f3_.symm; clear f1_ f2_ f3_; subst f4_; subst f5_))
      refine norm_ (a' := ?_) ?_ ?_
      rotate_left
      · simp only [putAll, Act.put, List.setIfInBounds_toArray, List.set_cons_zero, List.set_cons_succ]
        rfl
      refine on_ 9 (some 5) (bl_ 11 1023) HT_ (fun K hK => ?_)
      refine box_step ?hg (N := 5) ?hd (cs := #[.slice none 0 0, .slice none 0 0]) (t := 33) ?hr ?_; (case hd => rfl); (case hg => rfl); (case hr => first | (go_simp; done) | (go_simp; rfl))
      intro gb878 hg w19 hbox hb
      replace HO871 := rb_ HO871 hb
      replace HO877 := rb_ HO877 hb
      have BK878 := Aside0.mk hbox
      have GW878 := gw_ w hg
      have GE878 := GW878
      replace HB := b1_ hb
      have NB864_878 := gN_ BK864 hg
      have NB878_864 := gP_ BK864 hg
      replace BK864 := bb_ BK864 hb
      have NB865_878 := gN_ BK865 hg
      have NB878_865 := gP_ BK865 hg
      replace BK865 := bb_ BK865 hb
      clear hb hbox hg
      refine hK.out _ _ ⟨cz0_ BK864, cz1_ BK864⟩ (fun hHeld => ?_)
      clear hK K
      refine no_ (some 5) ?_
      exact norm_ (by first | (simp only [putAll, Act.put, List.setIfInBounds_toArray, List.set_cons_zero, List.set_cons_succ]; done) | (simp only [putAll, Act.put, List.setIfInBounds_toArray, List.set_cons_zero, List.set_cons_succ]; rfl)) (hJ0_3_4_7_9 (v867, .slice Ao18 y869.length co18, v873, .slice Ao17 y875.length co17, gb878) _ ⟨hHeld, (rr_ HO871), (rr_ HO877), (kk_ BK864), (kk_ BK865), (kk_ BK878), GW878.out, GE878.out, NB864_878.out, NB878_864.out, NB865_878.out, NB878_865.out, hB_⟩)
  rintro ⟨v867, v870, v873, v876, gb878⟩ w17 ⟨hS_, h0_, h1_, h2_, h3_, h4_, h5_, h6_, h7_, h8_, h9_, h10_, h11_⟩
  have n0_ : Aside0 (Kd.R (Kd.int .i64) 3 w17 w.heap.size (fun k_ => some k_ ≠ (v876 : Value).ownBlock) v870 y869) := ⟨h0_⟩
  have n1_ : Aside0 (Kd.R (Kd.int .i64) 3 w17 w.heap.size (fun k_ => some k_ ≠ (v870 : Value).ownBlock) v876 y875) := ⟨h1_⟩
  have n2_ : Aside0 (w17.heap[gb864]? = some (.cells #[.slice A0_0 l0_0.length c0_0, .slice A0_1 l0_1.length c0_1] 33 (0, 0))) := ⟨h2_⟩
  have n3_ : Aside0 (w17.heap[gb865]? = some (.cells #[.slice none 0 0, .slice none 0 0] 33 (0, 0))) := ⟨h3_⟩
  have n4_ : Aside0 (w17.heap[gb878]? = some (.cells #[.slice none 0 0, .slice none 0 0] 33 (0, 0))) := ⟨h4_⟩
  have n5_ : Aside0 (w.heap.size ≤ gb878) := ⟨h5_⟩
  have n6_ : Aside0 (w.heap.size ≤ gb878) := ⟨h6_⟩
  have n7_ : Aside0 (gb864 ≠ gb878) := ⟨h7_⟩
  have n8_ : Aside0 (gb878 ≠ gb864) := ⟨h8_⟩
  have n9_ : Aside0 (gb865 ≠ gb878) := ⟨h9_⟩
  have n10_ : Aside0 (gb878 ≠ gb865) := ⟨h10_⟩
  have n11_ : Aside0 (Below w.heap.size w w17) := ⟨h11_⟩
  clear BK864
  clear BK865
  clear HB
  clear h0_ h1_ h2_ h3_ h4_ h5_ h6_ h7_ h8_ h9_ h10_ h11_
  have HO871 := n0_
  have HO877 := n1_
  have BK864 := n2_
  have BK865 := n3_
  have BK878 := n4_
  have GW878 := n5_
  have GE878 := n6_
  have NB864_878 := n7_
  have NB878_864 := n8_
  have NB865_878 := n9_
  have NB878_865 := n10_
  have HB := n11_
  clear n0_ n1_ n2_ n3_ n4_ n5_ n6_ n7_ n8_ n9_ n10_ n11_
  have hHeld : w17.cell? ⟨gb864, 0, none⟩ = some (.slice A0_0 l0_0.length c0_0) ∧ w17.cell? ⟨gb864, 1, none⟩ = some (.slice A0_1 l0_1.length c0_1) := hS_
  obtain ⟨Ao18, co18, eo18⟩ := Kd.R_slice HO877.out
  (first | subst eo18 | (injection eo18 with f1_ f2_ f3_; have f4_ := f1_.symm; have f5_ := f3_.symm; clear f1_ f2_ f3_; subst f4_; subst f5_))
  obtain ⟨Ao19, co19, eo19⟩ := Kd.R_slice HO871.out
  (first | subst eo19 | (injection eo19 with f1_ f2_ f3_; have f4_ := f1_.symm; have f5_ := f3_.symm; clear f1_ f2_ f3_; subst f4_; subst f5_))
  refine norm_ (a' := ?_) ?_ ?_
  rotate_left
  · simp only [putAll, Act.put, List.setIfInBounds_toArray, List.set_cons_zero, List.set_cons_succ]
    rfl
  refine on_ 10 (none) (bl_ 11 2047) HT_ (fun K hK => ?_)
  have hs20 : w17.cell? ⟨gb878, 0, none⟩ = some (.slice none 0 0) := cz0_ BK878
  have hfs20 := blk_frozen BK878.out 0
  have hns20_0 := NB864_878.out
  have hns20_1 := NB865_878.out
  have hms20_0 := NB878_864.out
  have hms20_1 := NB878_865.out
  have hs21 : w17.cell? ⟨gb878, 1, none⟩ = some (.slice none 0 0) := cz1_ BK878
  have hfs21 := blk_frozen BK878.out 1
  have hns21_0 := NB864_878.out
  have hns21_1 := NB865_878.out
  have hms21_0 := NB878_864.out
  have hms21_1 := NB878_865.out
  refine skip_ (w1 := ?_) (by rfl) rfl ?_ ?_
  rotate_left
  · go_simp
    rfl
  refine hK.out _ _ ⟨((cell_far (p := ⟨gb878, _, none⟩) NB864_878.out _).trans (((cell_far (p := ⟨gb878, _, none⟩) NB864_878.out _).trans (hHeld.1)))), ((cell_far (p := ⟨gb878, _, none⟩) NB864_878.out _).trans (((cell_far (p := ⟨gb878, _, none⟩) NB864_878.out _).trans (hHeld.2))))⟩ (fun hHeld => ?_)
  clear hK K
  refine done_ (done_of HT_.out (by kernel_rfl)) ?_
  try go_wp2
  go_loopg [6] k (fun kq v6 w' => ∃ (x6_1 : Int) (x879000_1 : List Int) (x879001_1 : List Int) (u879000 : Value) (u879001 : Value), v6 = .int .i64 x6_1 ∧ Aside0 (spec_l05Run.l0 kq a1 x6_1 x879000_1 x879001_1 = some (r1, r2)) ∧ Aside0 (kq ≤ k) ∧ Aside0 (Kd.R (Kd.int .i64) 3 w' w.heap.size (fun k_ => some k_ ≠ (u879001 : Value).ownBlock) u879000 x879000_1) ∧ Aside0 (Kd.R (Kd.int .i64) 3 w' w.heap.size (fun k_ => some k_ ≠ (u879000 : Value).ownBlock) u879001 x879001_1) ∧ Aside0 (w'.heap[gb864]? = some (.cells #[(.slice A0_0 l0_0.length c0_0), (.slice A0_1 l0_1.length c0_1)] 33 (0, 0))) ∧ Aside0 (w'.heap[gb865]? = some (.cells #[(.slice none 0 0), (.slice none 0 0)] 33 (0, 0))) ∧ Aside0 (w'.heap[gb878]? = some (.cells #[u879000, u879001] 33 (0, 0))) ∧ Aside0 (Below w.heap.size w w'))
  case atStart => exact ⟨(0), (y869), (y875), (.slice Ao19 y869.length co19), (.slice Ao18 y875.length co18), qc_, H', ⟨Nat.le_refl _⟩, ⟨(rw_ (fa_ HO871 BK878))⟩, ⟨(rw_ (fa_ HO877 BK878))⟩, ⟨by (with_reducible repeat (first | refine blk_drewN ?_ _ | refine blk_drew ?_ | refine blk_alloc ?_ _)); refine blk_far ?_ NB864_878.out _; (with_reducible repeat (first | refine blk_drewN ?_ _ | refine blk_drew ?_ | refine blk_alloc ?_ _)); refine blk_far ?_ NB864_878.out _; (with_reducible repeat (first | refine blk_drewN ?_ _ | refine blk_drew ?_ | refine blk_alloc ?_ _)); exact BK864.out⟩, ⟨by (with_reducible repeat (first | refine blk_drewN ?_ _ | refine blk_drew ?_ | refine blk_alloc ?_ _)); refine blk_far ?_ NB865_878.out _; (with_reducible repeat (first | refine blk_drewN ?_ _ | refine blk_drew ?_ | refine blk_alloc ?_ _)); refine blk_far ?_ NB865_878.out _; (with_reducible repeat (first | refine blk_drewN ?_ _ | refine blk_drew ?_ | refine blk_alloc ?_ _)); exact BK865.out⟩, ⟨qp_⟩, ⟨hB_⟩⟩
  case round =>
    clear H'
    obtain ⟨x6_1, x879000_1, x879001_1, u879000, u879001, rfl, HA, HK1, HO_879000, HO_879001, BK864, BK865, BK878, HB⟩ := hrel
    cases gk with
    | zero => exact absurd HA.out (by simp [spec_l05Run.l0])
    | succ k1 =>
      have H := HA.out
      clear HA
      simp only [spec_l05Run.l0] at H
      by_cases c22 : x6_1 < (a1.size : Int)
      · rw [if_pos c22] at H
        have c22b0 := decide_eq_true c22
        clear c22
        have c23 := cp_ H
        replace H := ca_ H
        have c23b0 := decide_eq_true c23
        clear c23
        obtain ⟨⟨t879, t882⟩, A25, H⟩ := bi_ H
        try dsimp only at H
        have H' := Aside0.mk H
        clear H
        try go_wp2
        replace HO_879000 := Aside0.mk (Kd.R_drew HO_879000.out)
        replace HO_879001 := Aside0.mk (Kd.R_drew HO_879001.out)
        replace BK864 := Aside0.mk (blk_drew BK864.out)
        replace BK865 := Aside0.mk (blk_drew BK865.out)
        replace BK878 := Aside0.mk (blk_drew BK878.out)
        replace HB := Aside0.mk (below_drew1 HB.out)
        have p24 : 0 ≤ (x6_1 : Int) := of_decide_eq_true qe_
        have q24 : x6_1 < (a1.size : Int) := of_decide_eq_true qe_
        have hx24 := bt_at a1 x6_1
        replace p24 := eq_true p24
        replace q24 := eq_true q24
        obtain ⟨Ao27, co27, eo27⟩ := Kd.R_slice HO_879000.out
        (first | subst eo27 | (injection eo27 with f1_ f2_ f3_; have f4_ := f1_.symm; have f5_ := f3_.symm; clear f1_ f2_ f3_; subst f4_; subst f5_))
        obtain ⟨Ao28, co28, eo28⟩ := Kd.R_slice HO_879001.out
        (first | subst eo28 | (injection eo28 with f1_ f2_ f3_; have f4_ := f1_.symm; have f5_ := f3_.symm; clear f1_ f2_ f3_; subst f4_; subst f5_))
        refine start_ (n := 6) (S := fun w' => w'.cell? ⟨gb878, 0, none⟩ = some (.slice Ao27 x879000_1.length co27) ∧ w'.cell? ⟨gb878, 1, none⟩ = some (.slice Ao28 x879001_1.length co28)) (ds := [5]) (bl_ 6 0) (by kernel_rfl) rfl (by kernel_rfl) ⟨cz0_ BK878, cz1_ BK878⟩ (fun hHeld => ?_)
        generalize wr.drew = w26 at HO_879000 HO_879001 BK864 BK865 BK878 HB hHeld ⊢
        refine pure_ (i := 1) (N := some 23) (v := ?_) (a' := ?_) (bl_ 6 2) rfl rfl (by kernel_rfl) (fun _ _ _ h => h) (Or.inl ⟨by rfl, ?_⟩) ?_ ?_
        rotate_left
        · intro w'
          go_simp
          with_reducible rfl
        rotate_left
        · simp only [Act.put, List.setIfInBounds_toArray, List.set_cons_zero, List.set_cons_succ, i64_w, i32_w]
          rfl
        refine pure_ (i := 2) (N := some 24) (v := ?_) (a' := ?_) (bl_ 6 6) rfl rfl (by kernel_rfl) (fun _ _ _ h => h) (Or.inl ⟨by rfl, ?_⟩) ?_ ?_
        rotate_left
        · intro w'
          go_simp
          with_reducible rfl
        rotate_left
        · simp only [Act.put, List.setIfInBounds_toArray, List.set_cons_zero, List.set_cons_succ, i64_w, i32_w]
          rfl
        refine take_ (i := 0) (N := some 22) (v := ?_) (a' := ?_) (bl_ 6 7) rfl rfl (by kernel_rfl) (fun _ _ _ h => h) (Or.inl ⟨by rfl, ?_⟩) hHeld ?_ ?_
        rotate_left
        · rintro w' ⟨s0, s1⟩
          go_simp
          with_reducible rfl
        rotate_left
        · simp only [Act.put, List.setIfInBounds_toArray, List.set_cons_zero, List.set_cons_succ, i64_w, i32_w]
          rfl
        refine take_ (i := 3) (N := some 25) (v := ?_) (a' := ?_) (bl_ 6 15) rfl rfl (by kernel_rfl) (fun _ _ _ h => h) (Or.inl ⟨by rfl, ?_⟩) hHeld ?_ ?_
        rotate_left
        · rintro w' ⟨s0, s1⟩
          go_simp
          with_reducible rfl
        rotate_left
        · simp only [Act.put, List.setIfInBounds_toArray, List.set_cons_zero, List.set_cons_succ, i64_w, i32_w]
          rfl
        refine one_ (i := 4) (N := some 26) (bl_ 6 31) rfl rfl (by kernel_rfl) (by decide) (fun K hK => ?_)
        refine gO_ Try.func136 #[.agg #[.slice Ao27 x879000_1.length co27, .slice Ao28 x879001_1.length co28], .int .u8 (bt a1 x6_1)] (by rfl) rfl rfl qa_ ?_
        with_reducible refine (spec_l05Letter.calls k1 _ _ x879000_1 _ _ x879001_1 (bt a1 x6_1) t879 t882 _ (cr_ HO_879000) ((Kd.R_reads' HO_879000.out).2.1) (cr_ HO_879001) ((Kd.R_reads' HO_879001.out).2.1) A25.out).mono ?_
        rintro e w29 ⟨v880, v883, rfl, ho0, ho1, hb⟩
        refine ⟨_, rfl, ?_⟩
        have HO881 := Aside0.mk (Kd.R_lower (Kd.R_new' (Kd.R_new' ho0 (Kd.R_lt (rr_ HO_879000))) (Kd.R_lt (rr_ HO_879001))) (below_size hB_))
        have HO884 := Aside0.mk (Kd.R_lower (Kd.R_new' (Kd.R_new' ho1 (Kd.R_lt (rr_ HO_879000))) (Kd.R_lt (rr_ HO_879001))) (below_size hB_))
        replace HO_879000 := Aside0.mk (Kd.R_mono (Kd.R_told (Kd.R_told (Kd.R_old (rr_ HO_879000) hb) (Kd.R_base ho0)) (Kd.R_base ho1)) (fun _ h_ => h_.1))
        replace HO_879001 := Aside0.mk (Kd.R_mono (Kd.R_told (Kd.R_told (Kd.R_old (rr_ HO_879001) hb) (Kd.R_base ho0)) (Kd.R_base ho1)) (fun _ h_ => h_.1))
        replace BK864 := bb_ BK864 hb
        replace BK865 := bb_ BK865 hb
        replace BK878 := bb_ BK878 hb
        replace HB := b1_ hb
        clear hb ho0 ho1
        obtain ⟨Ao30, co30, eo30⟩ := Kd.R_slice HO881.out
        (first | subst eo30 | (injection eo30 with f1_ f2_ f3_; have f4_ := f1_.symm; have f5_ := f3_.symm; clear f1_ f2_ f3_; subst f4_; subst f5_))
        obtain ⟨Ao32, co32, eo32⟩ := Kd.R_slice HO884.out
        (first | subst eo32 | (injection eo32 with f1_ f2_ f3_; have f4_ := f1_.symm; have f5_ := f3_.symm; clear f1_ f2_ f3_; subst f4_; subst f5_))
        refine hK.out _ _ ⟨cz0_ BK878, cz1_ BK878⟩ (fun hHeld => ?_)
        clear hK K
        refine no_ (some 26) ?_
        refine last_ (i := 5) (N := none) (bl_ 6 63) rfl rfl (by kernel_rfl) (by decide) (fun K hK => ?_)
        have hs31 : w29.cell? ⟨gb878, 0, none⟩ = some (.slice Ao27 x879000_1.length co27) := cz0_ BK878
        have hfs31 := blk_frozen BK878.out 0
        have hns31_0 := NB864_878.out
        have hns31_1 := NB865_878.out
        have hms31_0 := NB878_864.out
        have hms31_1 := NB878_865.out
        have hs33 : w29.cell? ⟨gb878, 1, none⟩ = some (.slice Ao28 x879001_1.length co28) := cz1_ BK878
        have hfs33 := blk_frozen BK878.out 1
        have hns33_0 := NB864_878.out
        have hns33_1 := NB865_878.out
        have hms33_0 := NB878_864.out
        have hms33_1 := NB878_865.out
        refine skip_ (w1 := ?_) (by rfl) rfl ?_ ?_
        rotate_left
        · go_simp
          rfl
        refine hK.out _ _ ?_
        clear hK K
        refine done_ (by kernel_rfl) ?_
        try go_wp2
        go_roundg k1
        case measure => have := HK1.out; omega
        case rel => exact ⟨(wrap64 (x6_1 + 1)), (t879), (t882), (.slice Ao30 t879.length co30), (.slice Ao32 t882.length co32), qc_, H', ⟨by have := HK1.out; omega⟩, ⟨(rw_ (Kd.R_mono (fa_ HO881 BK878) (fun _ hk => hk.1.1)))⟩, ⟨(rw_ (Kd.R_mono (fa_ HO884 BK878) (fun _ hk => hk.1.1)))⟩, ⟨by (with_reducible repeat (first | refine blk_drewN ?_ _ | refine blk_drew ?_ | refine blk_alloc ?_ _)); refine blk_far ?_ NB864_878.out _; (with_reducible repeat (first | refine blk_drewN ?_ _ | refine blk_drew ?_ | refine blk_alloc ?_ _)); refine blk_far ?_ NB864_878.out _; (with_reducible repeat (first | refine blk_drewN ?_ _ | refine blk_drew ?_ | refine blk_alloc ?_ _)); exact BK864.out⟩, ⟨by (with_reducible repeat (first | refine blk_drewN ?_ _ | refine blk_drew ?_ | refine blk_alloc ?_ _)); refine blk_far ?_ NB865_878.out _; (with_reducible repeat (first | refine blk_drewN ?_ _ | refine blk_drew ?_ | refine blk_alloc ?_ _)); refine blk_far ?_ NB865_878.out _; (with_reducible repeat (first | refine blk_drewN ?_ _ | refine blk_drew ?_ | refine blk_alloc ?_ _)); exact BK865.out⟩, ⟨qp_⟩, ⟨hB_⟩⟩
      · rw [if_neg c22] at H
        have c22b0 := decide_eq_false c22
        clear c22
        simp only [Option.some.injEq, Prod.mk.injEq] at H
        obtain ⟨rfl, rfl⟩ := H
        have hnb34 := NB878_864.out
        have hnc34 := NB864_878.out
        have hnb35 := NB878_865.out
        have hnc35 := NB865_878.out
        obtain ⟨hcz36_0, hcz36_1, hfz36_0, hfz36_1⟩ := c2_ BK878
        obtain ⟨Ao37, co37, eo37⟩ := Kd.R_slice HO_879000.out
        subst eo37
        have hnb38 := NB865_864.out
        have hnc38 := NB864_865.out
        obtain ⟨hcz39_0, hcz39_1, hfz39_0, hfz39_1⟩ := c2_ BK865
        obtain ⟨Ao40, co40, eo40⟩ := Kd.R_slice HO_879001.out
        subst eo40
        go_wp2
        refine bodyPost_ret (results_cell_row rfl _ _ gb865 33 #[.slice Ao37 x879000_1.length co37, .slice Ao40 x879001_1.length co40] (0, 0) _ rfl qp_ Try.underlying33 rfl (by kernel_rfl)) rfl ?_
        exact ⟨_, _, qb_, (rw_ (fa_ HO_879000 BK865)), (rw_ (fa_ HO_879001 BK865)), hB_⟩
end Go.Proofs.Ytoijcallajegfaa.A
end
section
namespace Go.Proofs.Ytoijcallajegfaa.A
open Go.RowKit Go.Proofs.YtoijcallajegfaaW.PrintWords Go.Proofs.YtoijcallajegfaaW.PrintLast Go.Proofs.YtoijcallajegfaaW.PrintMore
attribute [local go_sem] max2_int min2_int max_two min_two max_three min_three max_four min_four
set_option linter.unusedVariables false
set_option linter.unusedSimpArgs false
def spec_RunWord.f (k : Nat) (l0_0 : List Int) (l0_1 : List Int) (a1 : ByteArray) : Option (List Int × List Int × Bool) := (spec_SurfaceOk.f k l0_0 l0_1).bind fun t887 => (if t887 = true then ((spec_WordOk.f k a1).bind fun t888 => (if t888 = true then ((spec_l05Run.f k l0_0 l0_1 a1).bind fun bt889 => (some (bt889.1, bt889.2, true))) else (some (([] : List Int), ([] : List Int), false)))) else (some (([] : List Int), ([] : List Int), false)))
theorem spec_RunWord.mono : ∀ a0 a1 a2 k, LeO (spec_RunWord.f k a0 a1 a2) (spec_RunWord.f (k + 1) a0 a1 a2) := by
  intro a0 a1 a2 k
  unfold spec_RunWord.f
  repeat' first|exact spec_SurfaceOk.mono _ _ _|exact spec_WordOk.mono _ _|exact spec_l05Run.mono _ _ _ _|exact lo_|refine LeO.ite ?_ ?_|refine LeO.bind ?_ (fun _ => ?_)
set_option maxHeartbeats 8000000 in
set_option maxRecDepth 100000 in
theorem spec_RunWord.calls (k : Nat) (A0_0 : Option Addr) (c0_0 : Nat) (l0_0 : List Int) (A0_1 : Option Addr) (c0_1 : Nat) (l0_1 : List Int) (a1 : ByteArray) (r1 : List Int) (r2 : List Int) (r3 : Bool) (w : World) (hr0_0 : Kd.C (Kd.int .i64) w A0_0 l0_0.length l0_0) (hc0_0 : l0_0.length ≤ c0_0) (hr0_1 : Kd.C (Kd.int .i64) w A0_1 l0_1.length l0_1) (hc0_1 : l0_1.length ≤ c0_1) (h : spec_RunWord.f k l0_0 l0_1 a1 = some (r1, r2, r3)) :
    Calls Try.prog 78 #[.agg #[.slice A0_0 l0_0.length c0_0, .slice A0_1 l0_1.length c0_1], .string a1] w fun e w' => ∃ v0_ v1_ : Value, e = .returned (.tuple #[.agg #[v0_, v1_], .bool r3]) ∧ Kd.R (Kd.int .i64) 3 w' w.heap.size (fun k_ => some k_ ≠ (v1_ : Value).ownBlock) v0_ r1 ∧ Kd.R (Kd.int .i64) 3 w' w.heap.size (fun k_ => some k_ ≠ (v0_ : Value).ownBlock) v1_ r2 ∧ Below w.heap.size w w' := by
  have hu33 := Try.underlying33
  have HR0_0 := Aside0.mk hr0_0
  have HC0_0 := Aside0.mk hc0_0
  clear hr0_0 hc0_0
  have HR0_1 := Aside0.mk hr0_1
  have HC0_1 := Aside0.mk hc0_1
  clear hr0_1 hc0_1
  have HB := Aside0.mk (Below.refl w.heap.size w)
  have H := h
  unfold spec_RunWord.f at H
  clear h
  obtain ⟨t887, A3, H⟩ := bi_ H
  by_cases c4 : t887 = true
  · subst c4
    rw [if_pos rfl] at H
    obtain ⟨t888, A5, H⟩ := bi_ H
    by_cases c6 : t888 = true
    · subst c6
      rw [if_pos rfl] at H
      obtain ⟨⟨t889, t892⟩, A7, H⟩ := bi_ H
      try dsimp only at H
      simp only [Option.some.injEq, Prod.mk.injEq] at H
      obtain ⟨rfl, rfl, rfl⟩ := H
      go_enter Try.func78, Try.ntmps78
      go_wp2_with (first | ((with_reducible refine gate_dst (N := 2) rfl ?_); refine bx_ 2 #[.slice A0_0 l0_0.length c0_0, .slice A0_1 l0_1.length c0_1] 33 ?_; intro gb885 hg w8 hbox hb; have BK885 := Aside0.mk hbox; have GW885 := gw_ w hg; have GE885 := GW885; replace HB := b1_ hb; clear hb hbox hg) | ((with_reducible refine gate_dst (N := 4) rfl ?_); refine bx_ 4 #[.slice none 0 0, .slice none 0 0] 33 ?_; intro gb886 hg w9 hbox hb; have BK886 := Aside0.mk hbox; have GW886 := gw_ w hg; have GE886 := GW886; replace HB := b1_ hb; have NB885_886 := gN_ BK885 hg; have NB886_885 := gP_ BK885 hg; replace BK885 := bb_ BK885 hb; clear hb hbox hg; have hnb10 := NB885_886.out; have hnc10 := NB886_885.out; obtain ⟨hcz11_0, hcz11_1, hfz11_0, hfz11_1⟩ := c2_ BK885) | ((with_reducible refine gate_callee (f := 85) rfl ?_); refine gL_ (some 7) Try.func85 #[.agg #[.slice A0_0 l0_0.length c0_0, .slice A0_1 l0_1.length c0_1]] rfl qa_ ?_; (with_reducible refine (spec_SurfaceOk.calls k _ _ l0_0 _ _ l0_1 true _ (cb_ HR0_0) HC0_0.out (cb_ HR0_1) HC0_1.out A3.out).mono ?_); rintro e w12 ⟨rfl, hb⟩; refine ⟨_, rfl, ?_⟩; replace BK885 := bb_ BK885 hb; replace BK886 := bb_ BK886 hb; replace HB := b1_ hb; clear hb) | (go_at_call 123; (with_reducible refine (spec_WordOk.calls k a1 true _ A5.out).mono ?_); rintro e w' ⟨rfl, ⟨nd, rfl⟩⟩; (try (rw [drewN_self w12]; generalize hq_ : World.drewN w12 _ = w12; have n0_ : Aside0 (w12.heap[gb885]? = some (.cells #[.slice A0_0 l0_0.length c0_0, .slice A0_1 l0_1.length c0_1] 33 (0, 0))) := ⟨by rw [← hq_]; exact (kk_ BK885)⟩; have n1_ : Aside0 (w12.heap[gb886]? = some (.cells #[.slice none 0 0, .slice none 0 0] 33 (0, 0))) := ⟨by rw [← hq_]; exact (kk_ BK886)⟩; have n2_ : Aside0 (Below w.heap.size w w12) := ⟨by rw [← hq_]; exact hB_⟩; clear BK885 BK886 HB hq_; have BK885 := n0_; have BK886 := n1_; have HB := n2_; clear n0_ n1_ n2_)); obtain ⟨hcz13_0, hcz13_1, hfz13_0, hfz13_1⟩ := c2_ BK885) | ((with_reducible refine gate_callee (f := 124) rfl ?_); refine gL_ (some 17) Try.func124 #[.agg #[.slice A0_0 l0_0.length c0_0, .slice A0_1 l0_1.length c0_1], .string a1] rfl qa_ ?_; (with_reducible refine (spec_l05Run.calls k _ _ l0_0 _ _ l0_1 a1 t889 t892 _ (cb_ HR0_0) HC0_0.out (cb_ HR0_1) HC0_1.out A7.out).mono ?_); rintro e w14 ⟨v890, v893, rfl, ho0, ho1, hb⟩; refine ⟨_, rfl, ?_⟩; have HO891 := rl_ w ho0; have HO894 := rl_ w ho1; replace BK885 := bb_ BK885 hb; replace BK886 := bb_ BK886 hb; replace HB := b1_ hb; clear hb ho0 ho1; obtain ⟨Ao15, co15, eo15⟩ := Kd.R_slice HO891.out; subst eo15; obtain ⟨hcz16_0, hcz16_1, hfz16_0, hfz16_1⟩ := c2_ BK886; obtain ⟨Ao17, co17, eo17⟩ := Kd.R_slice HO894.out; subst eo17))
      refine bodyPost_ret (results_ct rfl _ _ gb886 33 #[.slice Ao15 t889.length co15, .slice Ao17 t892.length co17] (0, 0) _ rfl qp_ Try.underlying33 rfl (by kernel_rfl)) rfl ?_
      exact ⟨_, _, qb_, (rw_ (fa_ HO891 BK886)), (rw_ (fa_ HO894 BK886)), hB_⟩
    · replace c6 := Bool.eq_false_iff.mpr c6
      subst c6
      have H1 : (some (([] : List Int), ([] : List Int), false)) = some (r1, r2, r3) := by rw [if_neg (show ¬ (false = true) by decide)] at H; exact H
      clear H
      have H := H1
      clear H1
      simp only [Option.some.injEq, Prod.mk.injEq] at H
      obtain ⟨rfl, rfl, rfl⟩ := H
      go_enter Try.func78, Try.ntmps78
      go_wp2_with (first | ((with_reducible refine gate_dst (N := 2) rfl ?_); refine bx_ 2 #[.slice A0_0 l0_0.length c0_0, .slice A0_1 l0_1.length c0_1] 33 ?_; intro gb885 hg w18 hbox hb; have BK885 := Aside0.mk hbox; have GW885 := gw_ w hg; have GE885 := GW885; replace HB := b1_ hb; clear hb hbox hg) | ((with_reducible refine gate_dst (N := 4) rfl ?_); refine bx_ 4 #[.slice none 0 0, .slice none 0 0] 33 ?_; intro gb886 hg w19 hbox hb; have BK886 := Aside0.mk hbox; have GW886 := gw_ w hg; have GE886 := GW886; replace HB := b1_ hb; have NB885_886 := gN_ BK885 hg; have NB886_885 := gP_ BK885 hg; replace BK885 := bb_ BK885 hb; clear hb hbox hg; have hnb20 := NB885_886.out; have hnc20 := NB886_885.out; obtain ⟨hcz21_0, hcz21_1, hfz21_0, hfz21_1⟩ := c2_ BK885) | ((with_reducible refine gate_callee (f := 85) rfl ?_); refine gL_ (some 7) Try.func85 #[.agg #[.slice A0_0 l0_0.length c0_0, .slice A0_1 l0_1.length c0_1]] rfl qa_ ?_; (with_reducible refine (spec_SurfaceOk.calls k _ _ l0_0 _ _ l0_1 true _ (cb_ HR0_0) HC0_0.out (cb_ HR0_1) HC0_1.out A3.out).mono ?_); rintro e w22 ⟨rfl, hb⟩; refine ⟨_, rfl, ?_⟩; replace BK885 := bb_ BK885 hb; replace BK886 := bb_ BK886 hb; replace HB := b1_ hb; clear hb) | (go_at_call 123; (with_reducible refine (spec_WordOk.calls k a1 false _ A5.out).mono ?_); rintro e w' ⟨rfl, ⟨nd, rfl⟩⟩; (try (rw [drewN_self w22]; generalize hq_ : World.drewN w22 _ = w22; have n0_ : Aside0 (w22.heap[gb885]? = some (.cells #[.slice A0_0 l0_0.length c0_0, .slice A0_1 l0_1.length c0_1] 33 (0, 0))) := ⟨by rw [← hq_]; exact (kk_ BK885)⟩; have n1_ : Aside0 (w22.heap[gb886]? = some (.cells #[.slice none 0 0, .slice none 0 0] 33 (0, 0))) := ⟨by rw [← hq_]; exact (kk_ BK886)⟩; have n2_ : Aside0 (Below w.heap.size w w22) := ⟨by rw [← hq_]; exact hB_⟩; clear BK885 BK886 HB hq_; have BK885 := n0_; have BK886 := n1_; have HB := n2_; clear n0_ n1_ n2_)); obtain ⟨hcz23_0, hcz23_1, hfz23_0, hfz23_1⟩ := c2_ BK886))
      refine bodyPost_ret (results_ct rfl _ _ gb886 33 #[.slice none 0 0, .slice none 0 0] (0, 0) _ rfl qp_ Try.underlying33 rfl (by kernel_rfl)) rfl ?_
      exact ⟨_, _, qb_, by first | exact Kd.R_nil _ _ _ _ _ | exact Kd.N_nil _ _ _ _ _ | exact Kd.V_nil _ _ _ _ _ | exact Kd.Q_nil _ _ _ _ _ | exact Kd.S_nil _ _ _ _ _, by first | exact Kd.R_nil _ _ _ _ _ | exact Kd.N_nil _ _ _ _ _ | exact Kd.V_nil _ _ _ _ _ | exact Kd.Q_nil _ _ _ _ _ | exact Kd.S_nil _ _ _ _ _, hB_⟩
  · replace c4 := Bool.eq_false_iff.mpr c4
    subst c4
    have H1 : (some (([] : List Int), ([] : List Int), false)) = some (r1, r2, r3) := by rw [if_neg (show ¬ (false = true) by decide)] at H; exact H
    clear H
    have H := H1
    clear H1
    simp only [Option.some.injEq, Prod.mk.injEq] at H
    obtain ⟨rfl, rfl, rfl⟩ := H
    go_enter Try.func78, Try.ntmps78
    go_wp2_with (first | ((with_reducible refine gate_dst (N := 2) rfl ?_); refine bx_ 2 #[.slice A0_0 l0_0.length c0_0, .slice A0_1 l0_1.length c0_1] 33 ?_; intro gb885 hg w24 hbox hb; have BK885 := Aside0.mk hbox; have GW885 := gw_ w hg; have GE885 := GW885; replace HB := b1_ hb; clear hb hbox hg) | ((with_reducible refine gate_dst (N := 4) rfl ?_); refine bx_ 4 #[.slice none 0 0, .slice none 0 0] 33 ?_; intro gb886 hg w25 hbox hb; have BK886 := Aside0.mk hbox; have GW886 := gw_ w hg; have GE886 := GW886; replace HB := b1_ hb; have NB885_886 := gN_ BK885 hg; have NB886_885 := gP_ BK885 hg; replace BK885 := bb_ BK885 hb; clear hb hbox hg; have hnb26 := NB885_886.out; have hnc26 := NB886_885.out; obtain ⟨hcz27_0, hcz27_1, hfz27_0, hfz27_1⟩ := c2_ BK885) | ((with_reducible refine gate_callee (f := 85) rfl ?_); refine gL_ (some 7) Try.func85 #[.agg #[.slice A0_0 l0_0.length c0_0, .slice A0_1 l0_1.length c0_1]] rfl qa_ ?_; (with_reducible refine (spec_SurfaceOk.calls k _ _ l0_0 _ _ l0_1 false _ (cb_ HR0_0) HC0_0.out (cb_ HR0_1) HC0_1.out A3.out).mono ?_); rintro e w28 ⟨rfl, hb⟩; refine ⟨_, rfl, ?_⟩; replace BK885 := bb_ BK885 hb; replace BK886 := bb_ BK886 hb; replace HB := b1_ hb; clear hb; obtain ⟨hcz29_0, hcz29_1, hfz29_0, hfz29_1⟩ := c2_ BK886))
    refine bodyPost_ret (results_ct rfl _ _ gb886 33 #[.slice none 0 0, .slice none 0 0] (0, 0) _ rfl qp_ Try.underlying33 rfl (by kernel_rfl)) rfl ?_
    exact ⟨_, _, qb_, by first | exact Kd.R_nil _ _ _ _ _ | exact Kd.N_nil _ _ _ _ _ | exact Kd.V_nil _ _ _ _ _ | exact Kd.Q_nil _ _ _ _ _ | exact Kd.S_nil _ _ _ _ _, by first | exact Kd.R_nil _ _ _ _ _ | exact Kd.N_nil _ _ _ _ _ | exact Kd.V_nil _ _ _ _ _ | exact Kd.Q_nil _ _ _ _ _ | exact Kd.S_nil _ _ _ _ _, hB_⟩
end Go.Proofs.Ytoijcallajegfaa.A
end
section
namespace Go.Proofs.Ytoijcallajegfaa.A
open Go.RowKit Go.Proofs.YtoijcallajegfaaW.PrintWords Go.Proofs.YtoijcallajegfaaW.PrintLast Go.Proofs.YtoijcallajegfaaW.PrintMore
attribute [local go_sem] max2_int min2_int max_two min_two max_three min_three max_four min_four
set_option linter.unusedVariables false
set_option linter.unusedSimpArgs false
def spec_SameList.l0 : Nat → List Int → List Int → Int → Int → Option (Bool)
  | 0, _, _, _, _ => none
  | k + 1, x1, x12, x13, x14 => if x14 < x13 then (if 0 ≤ x14 then (if x14 < (x12.length : Int) then (if x14 < (x1.length : Int) then (if (rd x12 x14) = (rd x1 x14) then (spec_SameList.l0 k x1 x12 x13 (wrap64 (x14 + 1))) else (some false)) else (none)) else (none)) else (none)) else (some true)
def spec_SameList.f (k : Nat) (l0 : List Int) (l1 : List Int) : Option (Bool) := if (l0.length : Int) = (l1.length : Int) then (spec_SameList.l0 k l1 l0 (l0.length : Int) 0) else (some false)
theorem spec_SameList.mono_l : ∀ k, (∀ y0 y1 y2 y3, LeO (spec_SameList.l0 k y0 y1 y2 y3) (spec_SameList.l0 (k + 1) y0 y1 y2 y3))
  | 0 => fun _ _ _ _ r h => by simp [spec_SameList.l0] at h
  | k + 1 => by
    have ih0 := spec_SameList.mono_l k
    · intro y0 y1 y2 y3
      unfold spec_SameList.l0
      repeat' first|exact ih0 _ _ _ _|exact lo_|refine LeO.ite ?_ ?_|refine LeO.bind ?_ (fun _ => ?_)
theorem spec_SameList.mono : ∀ a0 a1 k, LeO (spec_SameList.f k a0 a1) (spec_SameList.f (k + 1) a0 a1) := by
  intro a0 a1 k
  have ih0 := spec_SameList.mono_l k
  unfold spec_SameList.f
  repeat' first|exact ih0 _ _ _ _|exact lo_|refine LeO.ite ?_ ?_|refine LeO.bind ?_ (fun _ => ?_)
set_option maxHeartbeats 8000000 in
set_option maxRecDepth 100000 in
theorem spec_SameList.calls (k : Nat) (A0 : Option Addr) (c0 : Nat) (l0 : List Int) (A1 : Option Addr) (c1 : Nat) (l1 : List Int) (r : Bool) (w : World) (hr0 : Kd.C (Kd.int .i64) w A0 l0.length l0) (hc0 : l0.length ≤ c0) (hr1 : Kd.C (Kd.int .i64) w A1 l1.length l1) (hc1 : l1.length ≤ c1) (h : spec_SameList.f k l0 l1 = some r) :
    Calls Try.prog 134 #[.slice A0 l0.length c0, .slice A1 l1.length c1] w fun e w' => e = .returned (.bool r) ∧ Drawn0 w w' := by
  have HR0 := Aside0.mk hr0
  have HC0 := Aside0.mk hc0
  clear hr0 hc0
  have HR1 := Aside0.mk hr1
  have HC1 := Aside0.mk hc1
  clear hr1 hc1
  have H := h
  unfold spec_SameList.f at H
  clear h
  by_cases c3 : (l0.length : Int) = (l1.length : Int)
  · rw [if_pos c3] at H
    have c3b0 : ((l0.length : Int) == (l1.length : Int)) = true := beq_iff_eq.mpr c3
    have c3b1 : ((l0.length : Int) != (l1.length : Int)) = false := bne_eq_false_iff_eq.mpr c3
    have c3b2 : (l0.length == l1.length) = true := by first | simpa using c3 | (simp at c3 ⊢; omega)
    clear c3
    have H' := Aside0.mk H
    clear H
    go_enter Try.func134, Try.ntmps134
    go_wp2
    go_loopg [14] k (fun kq v14 w' => ∃ (x14_1 : Int), v14 = .int .i64 x14_1 ∧ Aside0 (spec_SameList.l0 kq l1 l0 (l0.length : Int) x14_1 = some r) ∧ Aside0 (kq ≤ k) ∧ Drawn0 w w')
    case atStart => exact ⟨(0), qc_, H', ⟨Nat.le_refl _⟩, by repeat (first | exact Drawn0.refl _ | apply Drawn0.step)⟩
    case round =>
      clear H'
      obtain ⟨x14_1, rfl, HA, HK1, ⟨m1, rfl⟩⟩ := hrel
      cases gk with
      | zero => exact absurd HA.out (by simp [spec_SameList.l0])
      | succ k1 =>
        have H := HA.out
        clear HA
        simp only [spec_SameList.l0] at H
        by_cases c4 : x14_1 < (l0.length : Int)
        · rw [if_pos c4] at H
          have c4b0 := decide_eq_true c4
          clear c4
          have c5 := cp_ H
          replace H := ca_ H
          have c5b0 := decide_eq_true c5
          clear c5
          have c6 := cp_ H
          replace H := ca_ H
          have c6b0 := decide_eq_true c6
          clear c6
          have c7 := cp_ H
          replace H := ca_ H
          have c7b0 := decide_eq_true c7
          clear c7
          by_cases c8 : (rd l0 x14_1) = (rd l1 x14_1)
          · rw [if_pos c8] at H
            have c8b0 : ((rd l0 x14_1) == (rd l1 x14_1)) = true := beq_iff_eq.mpr c8
            have c8b1 : ((rd l0 x14_1) != (rd l1 x14_1)) = false := bne_eq_false_iff_eq.mpr c8
            clear c8
            have H' := Aside0.mk H
            clear H
            have p895 : 0 ≤ (x14_1 : Int) := of_decide_eq_true qe_
            have q895 : x14_1 < (l0.length : Int) := of_decide_eq_true qe_
            obtain ⟨ad895, e895, hx895_0⟩ := Kd.at_int HR0.out x14_1 p895 q895
            cases e895
            replace p895 := eq_true p895
            replace q895 := eq_true q895
            have p896 : 0 ≤ (x14_1 : Int) := of_decide_eq_true qe_
            have q896 : x14_1 < (l1.length : Int) := of_decide_eq_true qe_
            obtain ⟨ad896, e896, hx896_0⟩ := Kd.at_int HR1.out x14_1 p896 q896
            cases e896
            replace p896 := eq_true p896
            replace q896 := eq_true q896
            go_wp2
            go_roundg k1
            case measure => have := HK1.out; omega
            case rel => exact ⟨(wrap64 (x14_1 + 1)), qc_, H', ⟨by have := HK1.out; omega⟩, by repeat (first | exact Drawn0.refl _ | apply Drawn0.step)⟩
          · rw [if_neg c8] at H
            have c8b0 : ((rd l0 x14_1) == (rd l1 x14_1)) = false := beq_eq_false_iff_ne.mpr c8
            have c8b1 : ((rd l0 x14_1) != (rd l1 x14_1)) = true := bne_iff_ne.mpr c8
            obtain rfl := Option.some.inj H
            have p895 : 0 ≤ (x14_1 : Int) := of_decide_eq_true qe_
            have q895 : x14_1 < (l0.length : Int) := of_decide_eq_true qe_
            obtain ⟨ad895, e895, hx895_0⟩ := Kd.at_int HR0.out x14_1 p895 q895
            cases e895
            replace p895 := eq_true p895
            replace q895 := eq_true q895
            have p896 : 0 ≤ (x14_1 : Int) := of_decide_eq_true qe_
            have q896 : x14_1 < (l1.length : Int) := of_decide_eq_true qe_
            obtain ⟨ad896, e896, hx896_0⟩ := Kd.at_int HR1.out x14_1 p896 q896
            cases e896
            replace p896 := eq_true p896
            replace q896 := eq_true q896
            go_wp2
            go_ret
            exact ⟨qc_, by repeat (first | exact Drawn0.refl _ | apply Drawn0.step)⟩
        · rw [if_neg c4] at H
          have c4b0 := decide_eq_false c4
          clear c4
          obtain rfl := Option.some.inj H
          go_wp2
          go_ret
          exact ⟨qc_, by repeat (first | exact Drawn0.refl _ | apply Drawn0.step)⟩
  · rw [if_neg c3] at H
    have c3b0 : ((l0.length : Int) == (l1.length : Int)) = false := beq_eq_false_iff_ne.mpr c3
    have c3b1 : ((l0.length : Int) != (l1.length : Int)) = true := bne_iff_ne.mpr c3
    have c3b2 : (l0.length == l1.length) = false := by first | simpa using c3 | (simp at c3 ⊢; omega)
    obtain rfl := Option.some.inj H
    go_enter Try.func134, Try.ntmps134
    go_wp2
    go_ret
    exact ⟨qc_, by repeat (first | exact Drawn0.refl _ | apply Drawn0.step)⟩
end Go.Proofs.Ytoijcallajegfaa.A
end
section
namespace Go.Proofs.Ytoijcallajegfaa.A
open Go.RowKit Go.Proofs.YtoijcallajegfaaW.PrintWords Go.Proofs.YtoijcallajegfaaW.PrintLast Go.Proofs.YtoijcallajegfaaW.PrintMore
attribute [local go_sem] max2_int min2_int max_two min_two max_three min_three max_four min_four
set_option linter.unusedVariables false
set_option linter.unusedSimpArgs false
def spec_l03Less.l0 : Nat → List Int → List Int → Int → Int → Option (Bool)
  | 0, _, _, _, _ => none
  | k + 1, x1, x7, x8, x9 => if x9 < x8 then (if 0 ≤ x9 then (if x9 < (x7.length : Int) then (if x9 < (x1.length : Int) then (if (rd x7 x9) = (rd x1 x9) then (spec_l03Less.l0 k x1 x7 x8 (wrap64 (x9 + 1))) else (some (decide ((rd x7 x9) < (rd x1 x9))))) else (none)) else (none)) else (none)) else (some false)
def spec_l03Less.f (k : Nat) (l0 : List Int) (l1 : List Int) : Option (Bool) := spec_l03Less.l0 k l1 l0 (l0.length : Int) 0
theorem spec_l03Less.mono_l : ∀ k, (∀ y0 y1 y2 y3, LeO (spec_l03Less.l0 k y0 y1 y2 y3) (spec_l03Less.l0 (k + 1) y0 y1 y2 y3))
  | 0 => fun _ _ _ _ r h => by simp [spec_l03Less.l0] at h
  | k + 1 => by
    have ih0 := spec_l03Less.mono_l k
    · intro y0 y1 y2 y3
      unfold spec_l03Less.l0
      repeat' first|exact ih0 _ _ _ _|exact lo_|refine LeO.ite ?_ ?_|refine LeO.bind ?_ (fun _ => ?_)
theorem spec_l03Less.mono : ∀ a0 a1 k, LeO (spec_l03Less.f k a0 a1) (spec_l03Less.f (k + 1) a0 a1) := by
  intro a0 a1 k
  have ih0 := spec_l03Less.mono_l k
  unfold spec_l03Less.f
  repeat' first|exact ih0 _ _ _ _|exact lo_|refine LeO.ite ?_ ?_|refine LeO.bind ?_ (fun _ => ?_)
set_option maxHeartbeats 8000000 in
set_option maxRecDepth 100000 in
theorem spec_l03Less.calls (k : Nat) (A0 : Option Addr) (c0 : Nat) (l0 : List Int) (A1 : Option Addr) (c1 : Nat) (l1 : List Int) (r : Bool) (w : World) (hr0 : Kd.C (Kd.int .i64) w A0 l0.length l0) (hc0 : l0.length ≤ c0) (hr1 : Kd.C (Kd.int .i64) w A1 l1.length l1) (hc1 : l1.length ≤ c1) (h : spec_l03Less.f k l0 l1 = some r) :
    Calls Try.prog 163 #[.slice A0 l0.length c0, .slice A1 l1.length c1] w fun e w' => e = .returned (.bool r) ∧ Drawn0 w w' := by
  have HR0 := Aside0.mk hr0
  have HC0 := Aside0.mk hc0
  clear hr0 hc0
  have HR1 := Aside0.mk hr1
  have HC1 := Aside0.mk hc1
  clear hr1 hc1
  have H := h
  unfold spec_l03Less.f at H
  clear h
  have H' := Aside0.mk H
  clear H
  go_enter Try.func163, Try.ntmps163
  go_wp2
  go_loopg [9] k (fun kq v9 w' => ∃ (x9_1 : Int), v9 = .int .i64 x9_1 ∧ Aside0 (spec_l03Less.l0 kq l1 l0 (l0.length : Int) x9_1 = some r) ∧ Aside0 (kq ≤ k) ∧ Drawn0 w w')
  case atStart => exact ⟨(0), qc_, H', ⟨Nat.le_refl _⟩, by repeat (first | exact Drawn0.refl _ | apply Drawn0.step)⟩
  case round =>
    clear H'
    obtain ⟨x9_1, rfl, HA, HK1, ⟨m1, rfl⟩⟩ := hrel
    cases gk with
    | zero => exact absurd HA.out (by simp [spec_l03Less.l0])
    | succ k1 =>
      have H := HA.out
      clear HA
      simp only [spec_l03Less.l0] at H
      by_cases c3 : x9_1 < (l0.length : Int)
      · rw [if_pos c3] at H
        have c3b0 := decide_eq_true c3
        clear c3
        have c4 := cp_ H
        replace H := ca_ H
        have c4b0 := decide_eq_true c4
        clear c4
        have c5 := cp_ H
        replace H := ca_ H
        have c5b0 := decide_eq_true c5
        clear c5
        have c6 := cp_ H
        replace H := ca_ H
        have c6b0 := decide_eq_true c6
        clear c6
        by_cases c7 : (rd l0 x9_1) = (rd l1 x9_1)
        · rw [if_pos c7] at H
          have c7b0 : ((rd l0 x9_1) == (rd l1 x9_1)) = true := beq_iff_eq.mpr c7
          have c7b1 : ((rd l0 x9_1) != (rd l1 x9_1)) = false := bne_eq_false_iff_eq.mpr c7
          clear c7
          have H' := Aside0.mk H
          clear H
          have p897 : 0 ≤ (x9_1 : Int) := of_decide_eq_true qe_
          have q897 : x9_1 < (l0.length : Int) := of_decide_eq_true qe_
          obtain ⟨ad897, e897, hx897_0⟩ := Kd.at_int HR0.out x9_1 p897 q897
          cases e897
          replace p897 := eq_true p897
          replace q897 := eq_true q897
          have p898 : 0 ≤ (x9_1 : Int) := of_decide_eq_true qe_
          have q898 : x9_1 < (l1.length : Int) := of_decide_eq_true qe_
          obtain ⟨ad898, e898, hx898_0⟩ := Kd.at_int HR1.out x9_1 p898 q898
          cases e898
          replace p898 := eq_true p898
          replace q898 := eq_true q898
          go_wp2
          go_roundg k1
          case measure => have := HK1.out; omega
          case rel => exact ⟨(wrap64 (x9_1 + 1)), qc_, H', ⟨by have := HK1.out; omega⟩, by repeat (first | exact Drawn0.refl _ | apply Drawn0.step)⟩
        · rw [if_neg c7] at H
          have c7b0 : ((rd l0 x9_1) == (rd l1 x9_1)) = false := beq_eq_false_iff_ne.mpr c7
          have c7b1 : ((rd l0 x9_1) != (rd l1 x9_1)) = true := bne_iff_ne.mpr c7
          obtain rfl := Option.some.inj H
          have p897 : 0 ≤ (x9_1 : Int) := of_decide_eq_true qe_
          have q897 : x9_1 < (l0.length : Int) := of_decide_eq_true qe_
          obtain ⟨ad897, e897, hx897_0⟩ := Kd.at_int HR0.out x9_1 p897 q897
          cases e897
          replace p897 := eq_true p897
          replace q897 := eq_true q897
          have p898 : 0 ≤ (x9_1 : Int) := of_decide_eq_true qe_
          have q898 : x9_1 < (l1.length : Int) := of_decide_eq_true qe_
          obtain ⟨ad898, e898, hx898_0⟩ := Kd.at_int HR1.out x9_1 p898 q898
          cases e898
          replace p898 := eq_true p898
          replace q898 := eq_true q898
          have p899 : 0 ≤ (x9_1 : Int) := of_decide_eq_true qe_
          have q899 : x9_1 < (l1.length : Int) := of_decide_eq_true qe_
          obtain ⟨ad899, e899, hx899_0⟩ := Kd.at_int HR1.out x9_1 p899 q899
          obtain rfl : ad898 = ad899 := (by injection e899)
          replace p899 := eq_true p899
          replace q899 := eq_true q899
          go_wp2
          go_ret
          exact ⟨qc_, by repeat (first | exact Drawn0.refl _ | apply Drawn0.step)⟩
      · rw [if_neg c3] at H
        have c3b0 := decide_eq_false c3
        clear c3
        obtain rfl := Option.some.inj H
        go_wp2
        go_ret
        exact ⟨qc_, by repeat (first | exact Drawn0.refl _ | apply Drawn0.step)⟩
end Go.Proofs.Ytoijcallajegfaa.A
end
section
namespace Go.Proofs.Ytoijcallajegfaa.A
open Go.RowKit Go.Proofs.YtoijcallajegfaaW.PrintWords Go.Proofs.YtoijcallajegfaaW.PrintLast Go.Proofs.YtoijcallajegfaaW.PrintMore
attribute [local go_sem] max2_int min2_int max_two min_two max_three min_three max_four min_four
set_option linter.unusedVariables false
set_option linter.unusedSimpArgs false
def spec_l03Before.f (k : Nat) (l0_0 : List Int) (l0_1 : List Int) (l1_0 : List Int) (l1_1 : List Int) : Option (Bool) := (spec_SameList.f k l0_0 l1_0).bind fun t902 => (if t902 = true then ((spec_l03Less.f k l0_1 l1_1).bind fun t903 => (some t903)) else ((spec_l03Less.f k l0_0 l1_0).bind fun t904 => (some t904)))
theorem spec_l03Before.mono : ∀ a0 a1 a2 a3 k, LeO (spec_l03Before.f k a0 a1 a2 a3) (spec_l03Before.f (k + 1) a0 a1 a2 a3) := by
  intro a0 a1 a2 a3 k
  unfold spec_l03Before.f
  repeat' first|exact spec_SameList.mono _ _ _|exact spec_l03Less.mono _ _ _|exact lo_|refine LeO.ite ?_ ?_|refine LeO.bind ?_ (fun _ => ?_)
set_option maxHeartbeats 8000000 in
set_option maxRecDepth 100000 in
theorem spec_l03Before.calls (k : Nat) (A0_0 : Option Addr) (c0_0 : Nat) (l0_0 : List Int) (A0_1 : Option Addr) (c0_1 : Nat) (l0_1 : List Int) (A1_0 : Option Addr) (c1_0 : Nat) (l1_0 : List Int) (A1_1 : Option Addr) (c1_1 : Nat) (l1_1 : List Int) (r : Bool) (w : World) (hr0_0 : Kd.C (Kd.int .i64) w A0_0 l0_0.length l0_0) (hc0_0 : l0_0.length ≤ c0_0) (hr0_1 : Kd.C (Kd.int .i64) w A0_1 l0_1.length l0_1) (hc0_1 : l0_1.length ≤ c0_1) (hr1_0 : Kd.C (Kd.int .i64) w A1_0 l1_0.length l1_0) (hc1_0 : l1_0.length ≤ c1_0) (hr1_1 : Kd.C (Kd.int .i64) w A1_1 l1_1.length l1_1) (hc1_1 : l1_1.length ≤ c1_1) (h : spec_l03Before.f k l0_0 l0_1 l1_0 l1_1 = some r) :
    Calls Try.prog 128 #[.agg #[.slice A0_0 l0_0.length c0_0, .slice A0_1 l0_1.length c0_1], .agg #[.slice A1_0 l1_0.length c1_0, .slice A1_1 l1_1.length c1_1]] w fun e w' => e = .returned (.bool r) ∧ Below w.heap.size w w' := by
  have hu33 := Try.underlying33
  have HR0_0 := Aside0.mk hr0_0
  have HC0_0 := Aside0.mk hc0_0
  clear hr0_0 hc0_0
  have HR0_1 := Aside0.mk hr0_1
  have HC0_1 := Aside0.mk hc0_1
  clear hr0_1 hc0_1
  have HR1_0 := Aside0.mk hr1_0
  have HC1_0 := Aside0.mk hc1_0
  clear hr1_0 hc1_0
  have HR1_1 := Aside0.mk hr1_1
  have HC1_1 := Aside0.mk hc1_1
  clear hr1_1 hc1_1
  have HB := Aside0.mk (Below.refl w.heap.size w)
  have H := h
  unfold spec_l03Before.f at H
  clear h
  obtain ⟨t902, A3, H⟩ := bi_ H
  by_cases c4 : t902 = true
  · subst c4
    rw [if_pos rfl] at H
    obtain ⟨t903, A5, H⟩ := bi_ H
    obtain rfl := Option.some.inj H
    go_enter Try.func128, Try.ntmps128
    go_wp2_with (first | ((with_reducible refine gate_dst (N := 2) rfl ?_); refine bx_ 2 #[.slice A0_0 l0_0.length c0_0, .slice A0_1 l0_1.length c0_1] 33 ?_; intro gb900 hg w6 hbox hb; have BK900 := Aside0.mk hbox; have GW900 := gw_ w hg; have GE900 := GW900; replace HB := b1_ hb; clear hb hbox hg) | ((with_reducible refine gate_dst (N := 3) rfl ?_); refine bx_ 3 #[.slice A1_0 l1_0.length c1_0, .slice A1_1 l1_1.length c1_1] 33 ?_; intro gb901 hg w7 hbox hb; have BK901 := Aside0.mk hbox; have GW901 := gw_ w hg; have GE901 := GW901; replace HB := b1_ hb; have NB900_901 := gN_ BK900 hg; have NB901_900 := gP_ BK900 hg; replace BK900 := bb_ BK900 hb; clear hb hbox hg; have hnb8 := NB900_901.out; have hnc8 := NB901_900.out; obtain ⟨hcz9_0, hcz9_1, hfz9_0, hfz9_1⟩ := c2_ BK900; obtain ⟨hcz10_0, hcz10_1, hfz10_0, hfz10_1⟩ := c2_ BK901) | ((with_reducible refine gate_callee (f := 134) rfl ?_); refine gL_ (some 9) Try.func134 #[.slice A0_0 l0_0.length c0_0, .slice A1_0 l1_0.length c1_0] rfl qa_ ?_; (with_reducible refine (spec_SameList.calls k _ _ l0_0 _ _ l1_0 true _ (cb_ HR0_0) HC0_0.out (cb_ HR1_0) HC1_0.out A3.out).mono ?_); rintro e w' ⟨rfl, ⟨nd, rfl⟩⟩; refine ⟨_, rfl, ?_⟩) | ((with_reducible refine gate_callee (f := 163) rfl ?_); refine gL_ (some 14) Try.func163 #[.slice A0_1 l0_1.length c0_1, .slice A1_1 l1_1.length c1_1] rfl qa_ ?_; (with_reducible refine (spec_l03Less.calls k _ _ l0_1 _ _ l1_1 t903 _ (cw_ (Kd.C_below HR0_1.out hB_)) HC0_1.out (cw_ (Kd.C_below HR1_1.out hB_)) HC1_1.out A5.out).mono ?_); rintro e w' ⟨rfl, ⟨nd, rfl⟩⟩; refine ⟨_, rfl, ?_⟩))
    go_ret
    exact ⟨qb_, hB_⟩
  · replace c4 := Bool.eq_false_iff.mpr c4
    subst c4
    have H1 : ((spec_l03Less.f k l0_0 l1_0).bind fun t904 => (some t904)) = some r := by rw [if_neg (show ¬ (false = true) by decide)] at H; exact H
    clear H
    have H := H1
    clear H1
    obtain ⟨t904, A11, H⟩ := bi_ H
    obtain rfl := Option.some.inj H
    go_enter Try.func128, Try.ntmps128
    go_wp2_with (first | ((with_reducible refine gate_dst (N := 2) rfl ?_); refine bx_ 2 #[.slice A0_0 l0_0.length c0_0, .slice A0_1 l0_1.length c0_1] 33 ?_; intro gb900 hg w12 hbox hb; have BK900 := Aside0.mk hbox; have GW900 := gw_ w hg; have GE900 := GW900; replace HB := b1_ hb; clear hb hbox hg) | ((with_reducible refine gate_dst (N := 3) rfl ?_); refine bx_ 3 #[.slice A1_0 l1_0.length c1_0, .slice A1_1 l1_1.length c1_1] 33 ?_; intro gb901 hg w13 hbox hb; have BK901 := Aside0.mk hbox; have GW901 := gw_ w hg; have GE901 := GW901; replace HB := b1_ hb; have NB900_901 := gN_ BK900 hg; have NB901_900 := gP_ BK900 hg; replace BK900 := bb_ BK900 hb; clear hb hbox hg; have hnb14 := NB900_901.out; have hnc14 := NB901_900.out; obtain ⟨hcz15_0, hcz15_1, hfz15_0, hfz15_1⟩ := c2_ BK900; obtain ⟨hcz16_0, hcz16_1, hfz16_0, hfz16_1⟩ := c2_ BK901) | ((with_reducible refine gate_callee (f := 134) rfl ?_); refine gL_ (some 9) Try.func134 #[.slice A0_0 l0_0.length c0_0, .slice A1_0 l1_0.length c1_0] rfl qa_ ?_; (with_reducible refine (spec_SameList.calls k _ _ l0_0 _ _ l1_0 false _ (cb_ HR0_0) HC0_0.out (cb_ HR1_0) HC1_0.out A3.out).mono ?_); rintro e w' ⟨rfl, ⟨nd, rfl⟩⟩; refine ⟨_, rfl, ?_⟩) | ((with_reducible refine gate_callee (f := 163) rfl ?_); refine gL_ (some 19) Try.func163 #[.slice A0_0 l0_0.length c0_0, .slice A1_0 l1_0.length c1_0] rfl qa_ ?_; (with_reducible refine (spec_l03Less.calls k _ _ l0_0 _ _ l1_0 t904 _ (cw_ (Kd.C_below HR0_0.out hB_)) HC0_0.out (cw_ (Kd.C_below HR1_0.out hB_)) HC1_0.out A11.out).mono ?_); rintro e w' ⟨rfl, ⟨nd, rfl⟩⟩; refine ⟨_, rfl, ?_⟩))
    go_ret
    exact ⟨qb_, hB_⟩
end Go.Proofs.Ytoijcallajegfaa.A
end
section
namespace Go.Proofs.Ytoijcallajegfaa.A
open Go.RowKit Go.Proofs.YtoijcallajegfaaW.PrintWords Go.Proofs.YtoijcallajegfaaW.PrintLast Go.Proofs.YtoijcallajegfaaW.PrintMore
attribute [local go_sem] max2_int min2_int max_two min_two max_three min_three max_four min_four
set_option linter.unusedVariables false
set_option linter.unusedSimpArgs false
def spec_l02Rename.l0 : Nat → List Int → List Int → List Int → Int → Int → Option (List Int)
  | 0, _, _, _, _, _ => none
  | k + 1, x1, x5, x11, x12, x13 => if x13 < x12 then (if 0 ≤ x13 then (if x13 < (x11.length : Int) then (if x13 < (x1.length : Int) then (if 0 ≤ (rd x11 x13) then (if (rd x11 x13) < (x1.length : Int) then (if 0 ≤ (rd x1 x13) then (if (rd x1 x13) < (x5.length : Int) then (spec_l02Rename.l0 k x1 (x5.set ((rd x1 x13) : Int).toNat (rd x1 (rd x11 x13))) x11 x12 (wrap64 (x13 + 1))) else (none)) else (none)) else (none)) else (none)) else (none)) else (none)) else (none)) else (some x5)
def spec_l02Rename.f (k : Nat) (l0 : List Int) (l1 : List Int) : Option (List Int) := if 0 ≤ (l0.length : Int) then (if ((l0.length : Int) : Int).toNat ≤ 35184372088832 then (spec_l02Rename.l0 k l1 (List.replicate ((l0.length : Int) : Int).toNat 0) l0 (l0.length : Int) 0) else (none)) else (none)
theorem spec_l02Rename.mono_l : ∀ k, (∀ y0 y1 y2 y3 y4, LeO (spec_l02Rename.l0 k y0 y1 y2 y3 y4) (spec_l02Rename.l0 (k + 1) y0 y1 y2 y3 y4))
  | 0 => fun _ _ _ _ _ r h => by simp [spec_l02Rename.l0] at h
  | k + 1 => by
    have ih0 := spec_l02Rename.mono_l k
    · intro y0 y1 y2 y3 y4
      unfold spec_l02Rename.l0
      repeat' first|exact ih0 _ _ _ _ _|exact lo_|refine LeO.ite ?_ ?_|refine LeO.bind ?_ (fun _ => ?_)
theorem spec_l02Rename.mono : ∀ a0 a1 k, LeO (spec_l02Rename.f k a0 a1) (spec_l02Rename.f (k + 1) a0 a1) := by
  intro a0 a1 k
  have ih0 := spec_l02Rename.mono_l k
  unfold spec_l02Rename.f
  repeat' first|exact ih0 _ _ _ _ _|exact lo_|refine LeO.ite ?_ ?_|refine LeO.bind ?_ (fun _ => ?_)
def spec_l02Rename.T5 : Bool × List (List Nat × List Nat) := (true, [([], []), ([], []), ([], []), ([1, 2], [1, 2]), ([3], [3]), ([], []), ([], []), ([5, 6], [5, 6]), ([7], [7]), ([0, 4, 0, 1, 2, 3, 4, 5, 6, 7, 8], [0, 4]), ([9, 8, 0, 1, 2, 3, 4, 5, 6, 7, 8], [8, 9])])
def spec_l02Rename.B5 : List Nat := [0, 0, 0, 6, 14, 0, 0, 96, 224, 511, 1023]
theorem spec_l02Rename.tab5 : rtab .any (opsOf Try.f164 5) = spec_l02Rename.T5 := by kernel_rfl
theorem spec_l02Rename.bits5 : waitsOk spec_l02Rename.T5.2 spec_l02Rename.B5 = true := by kernel_rfl
set_option maxHeartbeats 8000000 in
set_option maxRecDepth 100000 in
theorem spec_l02Rename.calls (k : Nat) (A0 : Option Addr) (c0 : Nat) (l0 : List Int) (A1 : Option Addr) (c1 : Nat) (l1 : List Int) (r : List Int) (w : World) (hr0 : Kd.C (Kd.int .i64) w A0 l0.length l0) (hc0 : l0.length ≤ c0) (hr1 : Kd.C (Kd.int .i64) w A1 l1.length l1) (hc1 : l1.length ≤ c1) (h : spec_l02Rename.f k l0 l1 = some r) :
    Calls Try.prog 164 #[.slice A0 l0.length c0, .slice A1 l1.length c1] w fun e w' => ∃ v0_ : Value, e = .returned (v0_) ∧ Kd.R (Kd.int .i64) 3 w' w.heap.size (fun _ => True) v0_ r ∧ Below w.heap.size w w' := by
  have HR0 := Aside0.mk hr0
  have HC0 := Aside0.mk hc0
  clear hr0 hc0
  have HR1 := Aside0.mk hr1
  have HC1 := Aside0.mk hc1
  clear hr1 hc1
  have HB := Aside0.mk (Below.refl w.heap.size w)
  have H := h
  unfold spec_l02Rename.f at H
  clear h
  have c3 := cp_ H
  replace H := ca_ H
  have c3b0 := eq_true c3
  have c3b1 := decide_eq_true c3
  clear c3
  have c4 := cp_ H
  replace H := ca_ H
  have c4b0 := eq_true c4
  have c4b1 := decide_eq_true c4
  clear c4
  obtain ⟨y905, hy905⟩ : ∃ y_ : List Int, y_ = (List.replicate ((l0.length : Int) : Int).toNat 0) := ⟨_, rfl⟩
  replace H : (spec_l02Rename.l0 k l1 y905 l0 (l0.length : Int) 0) = some r := by first | (rw [hy905]; exact H) | exact H
  have Ny905 := Aside0.mk hy905
  clear hy905
  have H' := Aside0.mk H
  clear H
  go_enter Try.func164, Try.ntmps164
  go_wp2_with (first | ((with_reducible refine gate_dst (N := 10) rfl ?_); refine Kd.R_make (Kd.int .i64) _ 3 rfl (N := 10) rfl 23 _ _ rfl (l0.length : Int) rfl rfl Try.underlying23 (.int .i64 0) 8 info3 rfl (by decide) (by omega) 0 (ok := fun _ => True) (okp := fun _ => True) rfl (fun _ hk => hk) trivial (of_decide_eq_true qe_) (Nat.le_trans (Nat.mul_le_mul_right _ (of_decide_eq_true qe_ : (l0.length : Int).toNat ≤ 35184372088832)) (by omega)) (Below.refl _ _) (Nat.le_refl _) ?_; intro v906 w5 ho6 hb hg_ hnew_; clear hg_ hnew_; (first | rw [← Ny905.out] at ho6 | (simp only [Int.reduceToNat] at ho6; rw [← Ny905.out] at ho6)); have HO907 := rl_ w ho6; replace HB := b1_ hb; clear hb ho6))
  go_loopg [13] k (fun kq v13 w' => ∃ (x5_1 : List Int) (x13_1 : Int), v13 = .int .i64 x13_1 ∧ Aside0 (spec_l02Rename.l0 kq l1 x5_1 l0 (l0.length : Int) x13_1 = some r) ∧ Aside0 (kq ≤ k) ∧ Aside0 (Kd.R (Kd.int .i64) 3 w' w.heap.size (fun _ => True) v906 x5_1) ∧ Aside0 (Below w.heap.size w w'))
  case atStart => exact ⟨(y905), (0), qc_, H', ⟨Nat.le_refl _⟩, ⟨(rr_ HO907)⟩, ⟨hB_⟩⟩
  case round =>
    clear H'
    obtain ⟨x5_1, x13_1, rfl, HA, HK1, HO_5, HB⟩ := hrel
    cases gk with
    | zero => exact absurd HA.out (by simp [spec_l02Rename.l0])
    | succ k1 =>
      have H := HA.out
      clear HA
      simp only [spec_l02Rename.l0] at H
      by_cases c7 : x13_1 < (l0.length : Int)
      · rw [if_pos c7] at H
        have c7b0 := decide_eq_true c7
        clear c7
        have c8 := cp_ H
        replace H := ca_ H
        have c8b0 := decide_eq_true c8
        clear c8
        have c9 := cp_ H
        replace H := ca_ H
        have c9b0 := decide_eq_true c9
        clear c9
        have c10 := cp_ H
        replace H := ca_ H
        have c10b0 := decide_eq_true c10
        clear c10
        have c11 := cp_ H
        replace H := ca_ H
        have c11b0 := decide_eq_true c11
        clear c11
        have c12 := cp_ H
        replace H := ca_ H
        have c12b0 := decide_eq_true c12
        clear c12
        have c13 := cp_ H
        replace H := ca_ H
        have c13b0 := decide_eq_true c13
        clear c13
        have c14 := cp_ H
        replace H := ca_ H
        have c14b0 := decide_eq_true c14
        clear c14
        obtain ⟨y911, hy911⟩ : ∃ y_ : List Int, y_ = (x5_1.set ((rd l1 x13_1) : Int).toNat (rd l1 (rd l0 x13_1))) := ⟨_, rfl⟩
        replace H : (spec_l02Rename.l0 k1 l1 y911 l0 (l0.length : Int) (wrap64 (x13_1 + 1))) = some r := by first | (rw [hy911]; exact H) | exact H
        have Ny911 := Aside0.mk hy911
        clear hy911
        have H' := Aside0.mk H
        clear H
        have p908 : 0 ≤ (x13_1 : Int) := of_decide_eq_true qe_
        have q908 : x13_1 < (l0.length : Int) := of_decide_eq_true qe_
        obtain ⟨ad908, e908, hx908_0⟩ := Kd.at_int HR0.out x13_1 p908 q908
        cases e908
        replace hx908_0 := (HB.out.cell (World.block_lt_of_cell? w _ hx908_0)).trans hx908_0
        replace p908 := eq_true p908
        replace q908 := eq_true q908
        try go_wp2
        replace HO_5 := Aside0.mk (Kd.R_drew HO_5.out)
        replace HB := Aside0.mk (below_drew1 HB.out)
        have p909 : 0 ≤ (x13_1 : Int) := of_decide_eq_true qe_
        have q909 : x13_1 < (l1.length : Int) := of_decide_eq_true qe_
        obtain ⟨ad909, e909, hx909_0⟩ := Kd.at_int HR1.out x13_1 p909 q909
        have hw909_0 := hx909_0
        cases e909
        replace hx909_0 := (HB.out.cell (World.block_lt_of_cell? w _ hx909_0)).trans hx909_0
        replace p909 := eq_true p909
        replace q909 := eq_true q909
        have p910 : 0 ≤ ((rd l0 x13_1) : Int) := of_decide_eq_true qe_
        have q910 : (rd l0 x13_1) < (l1.length : Int) := of_decide_eq_true qe_
        obtain ⟨ad910, e910, hx910_0⟩ := Kd.at_int HR1.out (rd l0 x13_1) p910 q910
        have hw910_0 := hx910_0
        obtain rfl : ad909 = ad910 := (by injection e910)
        replace hx910_0 := (HB.out.cell (World.block_lt_of_cell? w _ hx910_0)).trans hx910_0
        replace p910 := eq_true p910
        replace q910 := eq_true q910
        have p15 : 0 ≤ ((rd l1 x13_1) : Int) := of_decide_eq_true qe_
        have q15 : ((rd l1 x13_1) : Int) < ((x5_1.length : Int) : Int) := of_decide_eq_true qe_
        obtain ⟨go15, co15, eo15, gb15, gl15, cl15, HG15⟩ := Kd.R_form HO_5.out (by omega)
        (first | cases eo15 | (injection eo15 with ea_ en_ ec_; (first | subst ea_ | (injection ea_ with ea_; subst ea_)); subst ec_; clear en_))
        have GB15 := Aside0.mk gb15
        have GG15 := Aside0.mk HG15
        clear gb15 gl15 HG15
        obtain ⟨hx15_0, hf15_0⟩ := Kd.R_celln 0 HO_5.out ((rd l1 x13_1) : Int) p15 q15
        replace p15 := eq_true p15
        replace q15 := eq_true q15
        have HP17 := Kd.R_putn HO_5.out ((rd l1 x13_1) : Int) (rd l1 (rd l0 x13_1))
        rw [← Ny911.out] at HP17
        have HQ17 := Aside0.mk HP17
        clear HP17
        refine start_ (n := 11) (S := fun w' => w'.cell? (ad909.add (x13_1).toNat) = some (.int .i64 (rd l1 x13_1)) ∧ w'.cell? (ad909.add ((rd l0 x13_1)).toNat) = some (.int .i64 (rd l1 (rd l0 x13_1)))) (ds := [10]) (bl_ 11 0) (by kernel_rfl) rfl (by kernel_rfl) ⟨((HB.out.cell (World.block_lt_of_cell? w _ hw909_0)).trans hw909_0), ((HB.out.cell (World.block_lt_of_cell? w _ hw910_0)).trans hw910_0)⟩ (fun hHeld => ?_); refine with_tabW spec_l02Rename.tab5 spec_l02Rename.bits5 (fun HT_ HW_ => ?_)
        generalize wr.drew = w16 at HO_5 HB GG15 HQ17 hf15_0 hx15_0 hx909_0 hx910_0 hHeld ⊢
        refine pu_ 0 (some 18) (bl_ 11 1) HT_ ?_
        refine pu_ 1 (some 19) (bl_ 11 3) HT_ ?_
        refine pu_ 2 (some 20) (bl_ 11 7) HT_ ?_
        refine pu_ 3 (some 21) (bl_ 11 15) HT_ ?_
        refine pu_ 5 (some 23) (bl_ 11 47) HT_ ?_
        refine pu_ 6 (some 24) (bl_ 11 111) HT_ ?_
        refine pu_ 7 (some 25) (bl_ 11 239) HT_ ?_
        refine ta_ 4 (some 22) (bl_ 11 255) HT_ HW_ hHeld ?_
        refine ta_ 8 (some 26) (bl_ 11 511) HT_ HW_ hHeld ?_
        refine pu_ 9 (some 27) (bl_ 11 1023) HT_ ?_
        refine last_ (i := 10) (N := none) (bl_ 11 2047) rfl rfl (one_of HT_.out (by kernel_rfl)) (by decide) (fun K hK => ?_)
        refine skip_ (w1 := ?_) (by rfl) rfl ?_ ?_
        rotate_left
        · go_simp
          rfl
        refine hK.out _ _ ?_
        clear hK K
        refine done_ (done_of HT_.out (by kernel_rfl)) ?_
        try go_wp2
        go_roundg k1
        case measure => have := HK1.out; omega
        case rel => exact ⟨(y911), (wrap64 (x13_1 + 1)), qc_, H', ⟨by have := HK1.out; omega⟩, ⟨(rr_ HQ17)⟩, ⟨by repeat (first | (with_reducible first | exact HB.out | apply below_alloc | apply pw_below_drewN | apply below_drew1 | refine below_set ?_ GB15.out) | exact HB.out)⟩⟩
      · rw [if_neg c7] at H
        have c7b0 := decide_eq_false c7
        clear c7
        obtain rfl := Option.some.inj H
        go_wp2
        go_ret
        exact ⟨_, qb_, (rr_ HO_5), hB_⟩
end Go.Proofs.Ytoijcallajegfaa.A
end
section
namespace Go.Proofs.Ytoijcallajegfaa.A
open Go.RowKit Go.Proofs.YtoijcallajegfaaW.PrintWords Go.Proofs.YtoijcallajegfaaW.PrintLast Go.Proofs.YtoijcallajegfaaW.PrintMore
attribute [local go_sem] max2_int min2_int max_two min_two max_three min_three max_four min_four
set_option linter.unusedVariables false
set_option linter.unusedSimpArgs false
def spec_l03Rename.f (k : Nat) (l0_0 : List Int) (l0_1 : List Int) (l1 : List Int) : Option (List Int × List Int) := (spec_l02Rename.f k l0_0 l1).bind fun t914 => ((spec_l02Rename.f k l0_1 l1).bind fun t917 => (some (t914, t917)))
theorem spec_l03Rename.mono : ∀ a0 a1 a2 k, LeO (spec_l03Rename.f k a0 a1 a2) (spec_l03Rename.f (k + 1) a0 a1 a2) := by
  intro a0 a1 a2 k
  unfold spec_l03Rename.f
  repeat' first|exact spec_l02Rename.mono _ _ _|exact lo_|refine LeO.ite ?_ ?_|refine LeO.bind ?_ (fun _ => ?_)
def spec_l03Rename.T1 : Bool × List (List Nat × List Nat) := (true, [([], []), ([0], [0]), ([], []), ([1, 2], [1, 2]), ([], []), ([4], [4]), ([], []), ([5, 6, 3], [5, 6]), ([3, 7], [3, 7]), ([8, 7, 0, 1, 2, 3, 4, 5, 6, 7, 8], [8])])
def spec_l03Rename.B1 : List Nat := [0, 1, 0, 7, 0, 16, 0, 127, 255, 511]
theorem spec_l03Rename.tab1 : rtab .any (opsOf Try.f129 1) = spec_l03Rename.T1 := by kernel_rfl
theorem spec_l03Rename.bits1 : waitsOk spec_l03Rename.T1.2 spec_l03Rename.B1 = true := by kernel_rfl
set_option maxHeartbeats 8000000 in
set_option maxRecDepth 100000 in
theorem spec_l03Rename.calls (k : Nat) (A0_0 : Option Addr) (c0_0 : Nat) (l0_0 : List Int) (A0_1 : Option Addr) (c0_1 : Nat) (l0_1 : List Int) (A1 : Option Addr) (c1 : Nat) (l1 : List Int) (r1 : List Int) (r2 : List Int) (w : World) (hr0_0 : Kd.C (Kd.int .i64) w A0_0 l0_0.length l0_0) (hc0_0 : l0_0.length ≤ c0_0) (hr0_1 : Kd.C (Kd.int .i64) w A0_1 l0_1.length l0_1) (hc0_1 : l0_1.length ≤ c0_1) (hr1 : Kd.C (Kd.int .i64) w A1 l1.length l1) (hc1 : l1.length ≤ c1) (h : spec_l03Rename.f k l0_0 l0_1 l1 = some (r1, r2)) :
    Calls Try.prog 129 #[.agg #[.slice A0_0 l0_0.length c0_0, .slice A0_1 l0_1.length c0_1], .slice A1 l1.length c1] w fun e w' => ∃ v0_ v1_ : Value, e = .returned (.agg #[v0_, v1_]) ∧ Kd.R (Kd.int .i64) 3 w' w.heap.size (fun k_ => some k_ ≠ (v1_ : Value).ownBlock) v0_ r1 ∧ Kd.R (Kd.int .i64) 3 w' w.heap.size (fun k_ => some k_ ≠ (v0_ : Value).ownBlock) v1_ r2 ∧ Below w.heap.size w w' := by
  have hu33 := Try.underlying33
  have HR0_0 := Aside0.mk hr0_0
  have HC0_0 := Aside0.mk hc0_0
  clear hr0_0 hc0_0
  have HR0_1 := Aside0.mk hr0_1
  have HC0_1 := Aside0.mk hc0_1
  clear hr0_1 hc0_1
  have HR1 := Aside0.mk hr1
  have HC1 := Aside0.mk hc1
  clear hr1 hc1
  have HB := Aside0.mk (Below.refl w.heap.size w)
  have H := h
  unfold spec_l03Rename.f at H
  clear h
  obtain ⟨t914, A3, H⟩ := bi_ H
  obtain ⟨t917, A4, H⟩ := bi_ H
  simp only [Option.some.injEq, Prod.mk.injEq] at H
  obtain ⟨rfl, rfl⟩ := H
  go_enter Try.func129, Try.ntmps129
  try go_wp2_with (first | ((with_reducible refine gate_dst (N := 2) rfl ?_); refine bx_ 2 #[.slice A0_0 l0_0.length c0_0, .slice A0_1 l0_1.length c0_1] 33 ?_; intro gb912 hg w5 hbox hb; have BK912 := Aside0.mk hbox; have GW912 := gw_ w hg; have GE912 := GW912; replace HB := b1_ hb; clear hb hbox hg) | ((with_reducible refine gate_dst (N := 4) rfl ?_); refine bx_ 4 #[.slice none 0 0, .slice none 0 0] 33 ?_; intro gb913 hg w6 hbox hb; have BK913 := Aside0.mk hbox; have GW913 := gw_ w hg; have GE913 := GW913; replace HB := b1_ hb; have NB912_913 := gN_ BK912 hg; have NB913_912 := gP_ BK912 hg; replace BK912 := bb_ BK912 hb; clear hb hbox hg))
  replace BK912 := Aside0.mk (blk_drew BK912.out)
  replace BK913 := Aside0.mk (blk_drew BK913.out)
  replace HB := Aside0.mk (below_drew1 HB.out)
  refine start_ (n := 10) (S := fun w' => w'.cell? ⟨gb912, 0, none⟩ = some (.slice A0_0 l0_0.length c0_0) ∧ w'.cell? ⟨gb912, 1, none⟩ = some (.slice A0_1 l0_1.length c0_1)) (ds := []) (bl_ 10 0) (by kernel_rfl) rfl (by kernel_rfl) ⟨cz0_ BK912, cz1_ BK912⟩ (fun hHeld => ?_); refine with_tabW spec_l03Rename.tab1 spec_l03Rename.bits1 (fun HT_ HW_ => ?_)
  generalize w6.drew = w7 at BK912 BK913 HB hHeld ⊢
  refine pu_ 0 (some 5) (bl_ 10 1) HT_ ?_
  refine pu_ 2 (some 7) (bl_ 10 5) HT_ ?_
  refine pu_ 4 (some 9) (bl_ 10 21) HT_ ?_
  refine pu_ 6 (some 11) (bl_ 10 85) HT_ ?_
  refine ta_ 1 (some 6) (bl_ 10 87) HT_ HW_ hHeld ?_
  refine ta_ 5 (some 10) (bl_ 10 119) HT_ HW_ hHeld ?_
  refine on_ 3 (some 8) (bl_ 10 127) HT_ (fun K hK => ?_)
  refine gO_ Try.func164 #[.slice A0_0 l0_0.length c0_0, .slice A1 l1.length c1] (by rfl) rfl rfl qa_ ?_
  with_reducible refine (spec_l02Rename.calls k _ _ l0_0 _ _ l1 t914 _ (cb_ HR0_0) HC0_0.out (cb_ HR1) HC1.out A3.out).mono ?_
  rintro e w8 ⟨v915, rfl, ho0, hb⟩
  refine ⟨_, rfl, ?_⟩
  have HO916 := rl_ w ho0
  replace BK912 := bb_ BK912 hb
  replace BK913 := bb_ BK913 hb
  replace HB := b1_ hb
  clear hb ho0
  refine hK.out _ _ ⟨cz0_ BK912, cz1_ BK912⟩ (fun hHeld => ?_)
  clear hK K
  refine no_ (some 8) ?_
  refine on_ 7 (some 12) (bl_ 10 255) HT_ (fun K hK => ?_)
  refine gO_ Try.func164 #[.slice A0_1 l0_1.length c0_1, .slice A1 l1.length c1] (by rfl) rfl rfl qa_ ?_
  with_reducible refine (spec_l02Rename.calls k _ _ l0_1 _ _ l1 t917 _ (cb_ HR0_1) HC0_1.out (cb_ HR1) HC1.out A4.out).mono ?_
  rintro e w9 ⟨v918, rfl, ho0, hb⟩
  refine ⟨_, rfl, ?_⟩
  have HO919 := Aside0.mk (Kd.R_lower (Kd.R_new' ho0 (Kd.R_lt (rr_ HO916))) (below_size hB_))
  replace HO916 := Aside0.mk (Kd.R_elder' (rr_ HO916) (Kd.R_base ho0) hb)
  replace BK912 := bb_ BK912 hb
  replace BK913 := bb_ BK913 hb
  replace HB := b1_ hb
  clear hb ho0
  obtain ⟨Ao10, co10, eo10⟩ := Kd.R_slice HO919.out
  (first | subst eo10 | (injection eo10 with f1_ f2_ f3_; have f4_ := f1_.symm; have f5_ := f3_.symm; clear f1_ f2_ f3_; subst f4_; subst f5_))
  obtain ⟨Ao11, co11, eo11⟩ := Kd.R_slice HO916.out
  (first | subst eo11 | (injection eo11 with f1_ f2_ f3_; have f4_ := f1_.symm; have f5_ := f3_.symm; clear f1_ f2_ f3_; subst f4_; subst f5_))
  refine hK.out _ _ ⟨cz0_ BK912, cz1_ BK912⟩ (fun hHeld => ?_)
  clear hK K
  refine no_ (some 12) ?_
  refine pu_ 8 (some 13) (bl_ 10 511) HT_ ?_
  refine on_ 9 (none) (bl_ 10 1023) HT_ (fun K hK => ?_)
  have hs12 : w9.cell? ⟨gb913, 0, none⟩ = some (.slice none 0 0) := cz0_ BK913
  have hfs12 := blk_frozen BK913.out 0
  have hns12_0 := NB912_913.out
  have hms12_0 := NB913_912.out
  have hs13 : w9.cell? ⟨gb913, 1, none⟩ = some (.slice none 0 0) := cz1_ BK913
  have hfs13 := blk_frozen BK913.out 1
  have hns13_0 := NB912_913.out
  have hms13_0 := NB913_912.out
  refine skip_ (w1 := ?_) (by rfl) rfl ?_ ?_
  rotate_left
  · go_simp
    rfl
  refine hK.out _ _ ⟨((cell_far (p := ⟨gb913, _, none⟩) NB912_913.out _).trans (((cell_far (p := ⟨gb913, _, none⟩) NB912_913.out _).trans (hHeld.1)))), ((cell_far (p := ⟨gb913, _, none⟩) NB912_913.out _).trans (((cell_far (p := ⟨gb913, _, none⟩) NB912_913.out _).trans (hHeld.2))))⟩ (fun hHeld => ?_)
  clear hK K
  refine done_ (done_of HT_.out (by kernel_rfl)) ?_
  try go_wp2
  refine bodyPost_ret (results_cell_row rfl _ _ gb913 33 #[.slice Ao11 t914.length co11, .slice Ao10 t917.length co10] (0, 0) _ rfl qp_ Try.underlying33 rfl (by kernel_rfl)) rfl ?_
  exact ⟨_, _, qb_, (rw_ (Kd.R_mono (fa_ HO916 BK913) (fun _ hk => hk.2))), (rw_ (Kd.R_mono (fa_ HO919 BK913) (fun _ hk => hk.2))), hB_⟩
end Go.Proofs.Ytoijcallajegfaa.A
end
section
namespace Go.Proofs.Ytoijcallajegfaa.A
open Go.RowKit Go.Proofs.YtoijcallajegfaaW.PrintWords Go.Proofs.YtoijcallajegfaaW.PrintLast Go.Proofs.YtoijcallajegfaaW.PrintMore
attribute [local go_sem] max2_int min2_int max_two min_two max_three min_three max_four min_four
set_option linter.unusedVariables false
set_option linter.unusedSimpArgs false
def spec_l03Names.f (k : Nat) (l0_0 : List Int) (l0_1 : List Int) (a1 : Int) : Option (List Int) := (spec_l02Reach.f k l0_0 l0_1 a1).bind fun t921 => ((spec_l02Inverse.f k t921).bind fun t924 => (some t924))
theorem spec_l03Names.mono : ∀ a0 a1 a2 k, LeO (spec_l03Names.f k a0 a1 a2) (spec_l03Names.f (k + 1) a0 a1 a2) := by
  intro a0 a1 a2 k
  unfold spec_l03Names.f
  repeat' first|exact spec_l02Inverse.mono _ _|exact spec_l02Reach.mono _ _ _ _|exact lo_|refine LeO.ite ?_ ?_|refine LeO.bind ?_ (fun _ => ?_)
set_option maxHeartbeats 8000000 in
set_option maxRecDepth 100000 in
theorem spec_l03Names.calls (k : Nat) (A0_0 : Option Addr) (c0_0 : Nat) (l0_0 : List Int) (A0_1 : Option Addr) (c0_1 : Nat) (l0_1 : List Int) (a1 : Int) (r : List Int) (w : World) (hr0_0 : Kd.C (Kd.int .i64) w A0_0 l0_0.length l0_0) (hc0_0 : l0_0.length ≤ c0_0) (hr0_1 : Kd.C (Kd.int .i64) w A0_1 l0_1.length l0_1) (hc0_1 : l0_1.length ≤ c0_1) (h : spec_l03Names.f k l0_0 l0_1 a1 = some r) :
    Calls Try.prog 130 #[.agg #[.slice A0_0 l0_0.length c0_0, .slice A0_1 l0_1.length c0_1], .int .i64 a1] w fun e w' => ∃ v0_ : Value, e = .returned (v0_) ∧ Kd.R (Kd.int .i64) 3 w' w.heap.size (fun _ => True) v0_ r ∧ Below w.heap.size w w' := by
  have hu33 := Try.underlying33
  have HR0_0 := Aside0.mk hr0_0
  have HC0_0 := Aside0.mk hc0_0
  clear hr0_0 hc0_0
  have HR0_1 := Aside0.mk hr0_1
  have HC0_1 := Aside0.mk hc0_1
  clear hr0_1 hc0_1
  have HB := Aside0.mk (Below.refl w.heap.size w)
  have H := h
  unfold spec_l03Names.f at H
  clear h
  obtain ⟨t921, A3, H⟩ := bi_ H
  obtain ⟨t924, A4, H⟩ := bi_ H
  obtain rfl := Option.some.inj H
  go_enter Try.func130, Try.ntmps130
  go_wp2_with (first | ((with_reducible refine gate_dst (N := 2) rfl ?_); refine bx_ 2 #[.slice A0_0 l0_0.length c0_0, .slice A0_1 l0_1.length c0_1] 33 ?_; intro gb920 hg w5 hbox hb; have BK920 := Aside0.mk hbox; have GW920 := gw_ w hg; have GE920 := GW920; replace HB := b1_ hb; clear hb hbox hg; obtain ⟨hcz6_0, hcz6_1, hfz6_0, hfz6_1⟩ := c2_ BK920) | ((with_reducible refine gate_callee (f := 162) rfl ?_); refine gL_ (some 10) Try.func162 #[.slice A0_0 l0_0.length c0_0, .slice A0_1 l0_1.length c0_1, .int .i64 a1] rfl qa_ ?_; (with_reducible refine (spec_l02Reach.calls k _ _ l0_0 _ _ l0_1 a1 t921 _ (cb_ HR0_0) HC0_0.out (cb_ HR0_1) HC0_1.out A3.out).mono ?_); rintro e w7 ⟨v922, rfl, ho0, hb⟩; refine ⟨_, rfl, ?_⟩; have HO923 := rl_ w ho0; replace BK920 := bb_ BK920 hb; replace HB := b1_ hb; clear hb ho0; obtain ⟨Ao8, co8, eo8⟩ := Kd.R_slice HO923.out; subst eo8) | ((with_reducible refine gate_callee (f := 111) rfl ?_); refine gL_ (some 11) Try.func111 #[.slice Ao8 t921.length co8] rfl qa_ ?_; (with_reducible refine (spec_l02Inverse.calls k _ _ t921 t924 _ (cr_ HO923) ((Kd.R_reads' HO923.out).2.1) A4.out).mono ?_); rintro e w9 ⟨v925, rfl, ho0, hb⟩; refine ⟨_, rfl, ?_⟩; have HO926 := Aside0.mk (Kd.R_lower (Kd.R_new' ho0 (Kd.R_lt (rr_ HO923))) (below_size hB_)); replace HO923 := Aside0.mk (Kd.R_elder' (rr_ HO923) (Kd.R_base ho0) hb); replace BK920 := bb_ BK920 hb; replace HB := b1_ hb; clear hb ho0))
  go_ret
  exact ⟨_, qb_, (rw_ (Kd.R_mono HO926.out (fun _ hk => trivial))), hB_⟩
end Go.Proofs.Ytoijcallajegfaa.A
end
