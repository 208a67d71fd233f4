/- Lemmas for the row FnKept: the program's functions told as plain functions, and plain mathematics. No conditions. -/
import Derived.Test.YtoijcallajegfaaQFnKept2
section
namespace Go.Proofs.Ytoijcallajegfaa.A
open Go.RowKit Go.Proofs.YtoijcallajegfaaW.PrintWords Go.Proofs.YtoijcallajegfaaW.PrintLast Go.Proofs.YtoijcallajegfaaW.PrintMore
attribute [local go_sem] max2_int min2_int max_two min_two max_three min_three max_four min_four
set_option linter.unusedVariables false
set_option linter.unusedSimpArgs false
mutual
def Z24.j0 : Nat → List Int → List Int → Bool → Option (List Int)
 | 0, _, _, _ => none
 | k + 1, x0, x1, x22 => if x22 = true then (some ([] : List Int)) else (if 0 ≤ (x0.length : Int) then (if ((x0.length : Int) : Int).toNat ≤ 35184372088832 then (Z24.l0 k x1 (List.replicate ((x0.length : Int) : Int).toNat 0) x0 (x0.length : Int) 0) else (none)) else (none))
def Z24.l0 : Nat → List Int → List Int → List Int → Int → Int → Option (List Int)
 | 0, _, _, _, _, _ => none
 | k + 1, x1, x5, x26, x27, x28 => if x28 < x27 then (if 0 ≤ x28 then (if x28 < (x26.length : Int) then (if x28 < (x1.length : Int) then (if 0 ≤ (rd x26 x28) then (if (rd x26 x28) < (x1.length : Int) then (if 0 ≤ (rd x1 x28) then (if (rd x1 x28) < (x5.length : Int) then (Z24.l0 k x1 (x5.set ((rd x1 x28) : Int).toNat (rd x1 (rd x26 x28))) x26 x27 (wrap64 (x28 + 1))) else (none)) else (none)) else (none)) else (none)) else (none)) else (none)) else (none)) else (some x5)
end
def Z24.f (k : Nat) (l0 : List Int) (l1 : List Int) : Option (List Int) := (Z56.f k l0).bind fun t141 => (if t141 = true then ((Z56.f k l1).bind fun t142 => (if t142 = true then (Z24.j0 k l0 l1 ((l0.length : Int) != (l1.length : Int))) else (Z24.j0 k l0 l1 true))) else (Z24.j0 k l0 l1 true))
theorem Z24.mono_l : ∀ k, (∀ y0 y1 y2, LeO (Z24.j0 k y0 y1 y2) (Z24.j0 (k + 1) y0 y1 y2)) ∧ (∀ y0 y1 y2 y3 y4, LeO (Z24.l0 k y0 y1 y2 y3 y4) (Z24.l0 (k + 1) y0 y1 y2 y3 y4))
 | 0 => ⟨fun _ _ _ r h => by simp [Z24.j0] at h, fun _ _ _ _ _ r h => by simp [Z24.l0] at h⟩
 | k + 1 => by
  obtain ⟨ih0, ih1⟩ := Z24.mono_l k
  refine ⟨?_, ?_⟩
  ·intro y0 y1 y2
   unfold Z24.j0
   repeat' first|exact ih0 _ _ _|exact ih1 _ _ _ _ _|exact Z56.mono _ _|exact lo_|refine LeO.ite ?_ ?_|refine LeO.bind ?_ (fun _ => ?_)
  ·intro y0 y1 y2 y3 y4
   unfold Z24.l0
   repeat' first|exact ih0 _ _ _|exact ih1 _ _ _ _ _|exact Z56.mono _ _|exact lo_|refine LeO.ite ?_ ?_|refine LeO.bind ?_ (fun _ => ?_)
theorem Z24.mono : ∀ a0 a1 k, LeO (Z24.f k a0 a1) (Z24.f (k + 1) a0 a1) := by
 intro a0 a1 k
 obtain ⟨ih0, ih1⟩ := Z24.mono_l k
 unfold Z24.f
 repeat' first|exact ih0 _ _ _|exact ih1 _ _ _ _ _|exact Z56.mono _ _|exact lo_|refine LeO.ite ?_ ?_|refine LeO.bind ?_ (fun _ => ?_)
def Z24.T7 : Bool × List (List Nat × List Nat) := (true, [([], []), ([], []), ([], []), ([1, 2], [1, 2]), ([3], [3]), ([], []), ([], []), ([5, 6], [5, 6]), ([7], [7]), ([0, 4, 0, 1, 2, 3, 4, 5, 6, 7, 8], [0, 4]), ([9, 8, 0, 1, 2, 3, 4, 5, 6, 7, 8], [8, 9])])
def Z24.B7 : List Nat := [0, 0, 0, 6, 14, 0, 0, 96, 224, 511, 1023]
theorem Z24.tab7 : rtab .any (opsOf Try.f150 7) = Z24.T7 := by kernel_rfl
theorem Z24.bits7 : waitsOk Z24.T7.2 Z24.B7 = true := by kernel_rfl
set_option maxHeartbeats 8000000 in
set_option maxRecDepth 100000 in
theorem Z24.calls (k : Nat) (A0 : Option Addr) (c0 : Nat) (l0 : List Int) (A1 : Option Addr) (c1 : Nat) (l1 : List Int) (r : List Int) (w : World) (hr0 : Kd.C (Kd.int .i64) w A0 l0.length l0) (hc0 : l0.length ≤ c0) (hr1 : Kd.C (Kd.int .i64) w A1 l1.length l1) (hc1 : l1.length ≤ c1) (h : Z24.f k l0 l1 = some r) :
  Calls Try.prog 150 #[.slice A0 l0.length c0, .slice A1 l1.length c1] w fun e w' => ∃ v0_ : Value, e = .returned (v0_) ∧ Kd.R (Kd.int .i64) 3 w' w.heap.size (fun _ => True) v0_ r ∧ Below w.heap.size w w' := by
 have HR0 := A_ hr0
 have HC0 := A_ hc0
 clear hr0 hc0
 have HR1 := A_ hr1
 have HC1 := A_ hc1
 clear hr1 hc1
 have HB := A_ (Below.refl w.heap.size w)
 have H := h
 unfold Z24.f at H
 clear h
 have HC3 := A_ H
 clear H
 go_enter Try.func150, Try.ntmps150
 go_upto_region 1 with (fail)
 go_cut [22] (fun v22 wc => ∃ (kq : Nat) (x22_2 : Bool), v22 = .bool x22_2 ∧ Aside0 (Z24.j0 kq l0 l1 x22_2 = some r) ∧ Aside0 (kq ≤ k) ∧ Aside0 (Below w.heap.size w wc))
 case first =>
  have H := HC3.out
  clear HC3
  obtain ⟨t141, A4, H⟩ := bi_ H
  by_cases c5 : t141 = true
  ·subst c5
   rw [if_pos rfl] at H
   obtain ⟨t142, A6, H⟩ := bi_ H
   by_cases c7 : t142 = true
   ·subst c7
    rw [if_pos rfl] at H
    have H' := A_ H
    clear H
    go_wp2_with (first | ((with_reducible refine gA_ (f := 109) rfl ?_); refine gL_ (some 9) Try.func109 #[.slice A0 l0.length c0] rfl qa_ ?_; (with_reducible refine (Z56.calls k _ _ l0 true _ (cb_ HR0) HC0.out A4.out).mono ?_); rintro e w8 ⟨rfl, hb⟩; refine ⟨_, rfl, ?_⟩; replace HB := b1_ hb; clear hb) | (go_at_call 109; (with_reducible refine (Z56.calls k _ _ l1 true _ (cb_ HR1) HC1.out A6.out).mono ?_); rintro e w9 ⟨rfl, hb⟩; replace HB := b1_ hb; clear hb))
    go_meet
    case rel => exact ⟨_, (((l0.length : Int) != (l1.length : Int))), qc_, H', ⟨qd_⟩, ⟨hB_⟩⟩
   ·replace c7 := Bool.eq_false_iff.mpr c7
    subst c7
    have H1 : (Z24.j0 k l0 l1 true) = some r := by rw [if_neg (show ¬ (false = true) by decide)] at H; exact H
    clear H
    have H := H1
    clear H1
    have H' := A_ H
    clear H
    go_wp2_with (first | ((with_reducible refine gA_ (f := 109) rfl ?_); refine gL_ (some 9) Try.func109 #[.slice A0 l0.length c0] rfl qa_ ?_; (with_reducible refine (Z56.calls k _ _ l0 true _ (cb_ HR0) HC0.out A4.out).mono ?_); rintro e w10 ⟨rfl, hb⟩; refine ⟨_, rfl, ?_⟩; replace HB := b1_ hb; clear hb) | (go_at_call 109; (with_reducible refine (Z56.calls k _ _ l1 false _ (cb_ HR1) HC1.out A6.out).mono ?_); rintro e w11 ⟨rfl, hb⟩; replace HB := b1_ hb; clear hb))
    go_meet
    case rel => exact ⟨_, (true), qc_, H', ⟨qd_⟩, ⟨hB_⟩⟩
  ·replace c5 := Bool.eq_false_iff.mpr c5
   subst c5
   have H1 : (Z24.j0 k l0 l1 true) = some r := by rw [if_neg (show ¬ (false = true) by decide)] at H; exact H
   clear H
   have H := H1
   clear H1
   have H' := A_ H
   clear H
   go_wp2_with (first | ((with_reducible refine gA_ (f := 109) rfl ?_); refine gL_ (some 9) Try.func109 #[.slice A0 l0.length c0] rfl qa_ ?_; (with_reducible refine (Z56.calls k _ _ l0 false _ (cb_ HR0) HC0.out A4.out).mono ?_); rintro e w12 ⟨rfl, hb⟩; refine ⟨_, rfl, ?_⟩; replace HB := b1_ hb; clear hb))
   go_meet
   case rel => exact ⟨_, (true), qc_, H', ⟨qd_⟩, ⟨hB_⟩⟩
 case rest =>
  clear HC3
  obtain ⟨kq, x22_2, rfl, HA, HJ2, HB⟩ := hcut
  cases kq with
  | zero => exact absurd HA.out (by simp [Z24.j0])
  | succ kj2 =>
   have H := HA.out
   clear HA
   simp only [Z24.j0] at H
   by_cases c13 : x22_2 = true
   ·subst c13
    rw [if_pos rfl] at H
    obtain rfl := Option.some.inj H
    go_wp2
    go_ret
    exact ⟨_, qb_, by first | exact Kd.R_nil _ _ _ _ _ | exact Kd.N_nil _ _ _ _ _ | exact Kd.V_nil _ _ _ _ _ | exact Kd.Q_nil _ _ _ _ _ | exact Kd.S_nil _ _ _ _ _, hB_⟩
   ·replace c13 := Bool.eq_false_iff.mpr c13
    subst c13
    have H1 : (if 0 ≤ (l0.length : Int) then (if ((l0.length : Int) : Int).toNat ≤ 35184372088832 then (Z24.l0 kj2 l1 (List.replicate ((l0.length : Int) : Int).toNat 0) l0 (l0.length : Int) 0) else (none)) else (none)) = some r := by rw [if_neg (show ¬ (false = true) by decide)] at H; exact H
    clear H
    have H := H1
    clear H1
    have c14 := cp_ H
    replace H := ca_ H
    have c14b0 := eq_true c14
    have c14b1 := oC_ c14
    clear c14
    have c15 := cp_ H
    replace H := ca_ H
    have c15b0 := eq_true c15
    have c15b1 := oC_ c15
    clear c15
    obtain ⟨y143, hy143⟩ : ∃ y_ : List Int, y_ = (List.replicate ((l0.length : Int) : Int).toNat 0) := ⟨_, rfl⟩
    replace H : (Z24.l0 kj2 l1 y143 l0 (l0.length : Int) 0) = some r := by first | (rw [hy143]; exact H) | exact H
    have Ny143 := A_ hy143
    clear hy143
    have H' := A_ H
    clear H
    go_wp2_with (first | ((with_reducible refine gB_ (N := 25) rfl ?_); (try (refine gate_guard (by rfl) ?_; dsimp only)); refine Kd.R_make (Kd.int .i64) _ 3 rfl (N := 25) rfl 23 _ _ rfl (l0.length : Int) rfl rfl Try.underlying23 (.int .i64 0) 8 info3 rfl (by decide) (by omega) 0 (ok := fun _ => True) (okp := fun _ => True) rfl (fun _ hk => hk) trivial (oB_ qe_) (Nat.le_trans (Nat.mul_le_mul_right _ (oB_ qe_ : (l0.length : Int).toNat ≤ 35184372088832)) (by omega)) (Below.refl _ _) (nA_ _) ?_; intro v144 w16 ho17 hb hg_ hnew_; clear hg_ hnew_; (first | rw [← Ny143.out] at ho17 | (simp only [Int.reduceToNat] at ho17; rw [← Ny143.out] at ho17)); have HO145 := rl_ w ho17; replace HB := b1_ hb; clear hb ho17))
    go_loopg [28] kj2 (fun kq v28 w' => ∃ (x5_2 : List Int) (x28_2 : Int), v28 = .int .i64 x28_2 ∧ Aside0 (Z24.l0 kq l1 x5_2 l0 (l0.length : Int) x28_2 = some r) ∧ Aside0 (kq ≤ kj2) ∧ Aside0 (Kd.R (Kd.int .i64) 3 w' w.heap.size (fun _ => True) v144 x5_2) ∧ Aside0 (Below w.heap.size w w'))
    case atStart => exact ⟨(y143), (0), qc_, H', ⟨nA_ _⟩, ⟨(rr_ HO145)⟩, ⟨hB_⟩⟩
    case round =>
     clear H'
     obtain ⟨x5_2, x28_2, rfl, HA, HK2, HO_5, HB⟩ := hrel
     cases gk with
     | zero => exact absurd HA.out (by simp [Z24.l0])
     | succ k2 =>
      have H := HA.out
      clear HA
      simp only [Z24.l0] at H
      by_cases c18 : x28_2 < (l0.length : Int)
      ·rw [if_pos c18] at H
       have c18b0 := oC_ c18
       clear c18
       have c19 := cp_ H
       replace H := ca_ H
       have c19b0 := oC_ c19
       clear c19
       have c20 := cp_ H
       replace H := ca_ H
       have c20b0 := oC_ c20
       clear c20
       have c21 := cp_ H
       replace H := ca_ H
       have c21b0 := oC_ c21
       clear c21
       have c22 := cp_ H
       replace H := ca_ H
       have c22b0 := oC_ c22
       clear c22
       have c23 := cp_ H
       replace H := ca_ H
       have c23b0 := oC_ c23
       clear c23
       have c24 := cp_ H
       replace H := ca_ H
       have c24b0 := oC_ c24
       clear c24
       have c25 := cp_ H
       replace H := ca_ H
       have c25b0 := oC_ c25
       clear c25
       obtain ⟨y149, hy149⟩ : ∃ y_ : List Int, y_ = (x5_2.set ((rd l1 x28_2) : Int).toNat (rd l1 (rd l0 x28_2))) := ⟨_, rfl⟩
       replace H : (Z24.l0 k2 l1 y149 l0 (l0.length : Int) (wrap64 (x28_2 + 1))) = some r := by first | (rw [hy149]; exact H) | exact H
       have Ny149 := A_ hy149
       clear hy149
       have H' := A_ H
       clear H
       have p146 : 0 ≤ (x28_2 : Int) := oB_ qe_
       have q146 : x28_2 < (l0.length : Int) := oB_ qe_
       obtain ⟨ad146, e146, hx146_0⟩ := Kd.at_int HR0.out x28_2 p146 q146
       cases e146
       replace hx146_0 := (HB.out.cell (World.block_lt_of_cell? w _ hx146_0)).trans hx146_0
       replace p146 := eq_true p146
       replace q146 := eq_true q146
       try go_wp2
       replace HO_5 := A_ (rC_ HO_5.out)
       replace HB := A_ (bC_ HB.out)
       have p147 : 0 ≤ (x28_2 : Int) := oB_ qe_
       have q147 : x28_2 < (l1.length : Int) := oB_ qe_
       obtain ⟨ad147, e147, hx147_0⟩ := Kd.at_int HR1.out x28_2 p147 q147
       have hw147_0 := hx147_0
       cases e147
       replace hx147_0 := (HB.out.cell (World.block_lt_of_cell? w _ hx147_0)).trans hx147_0
       replace p147 := eq_true p147
       replace q147 := eq_true q147
       have p148 : 0 ≤ ((rd l0 x28_2) : Int) := oB_ qe_
       have q148 : (rd l0 x28_2) < (l1.length : Int) := oB_ qe_
       obtain ⟨ad148, e148, hx148_0⟩ := Kd.at_int HR1.out (rd l0 x28_2) p148 q148
       have hw148_0 := hx148_0
       obtain rfl : ad147 = ad148 := (by injection e148)
       replace hx148_0 := (HB.out.cell (World.block_lt_of_cell? w _ hx148_0)).trans hx148_0
       replace p148 := eq_true p148
       replace q148 := eq_true q148
       have p26 : 0 ≤ ((rd l1 x28_2) : Int) := oB_ qe_
       have q26 : ((rd l1 x28_2) : Int) < ((x5_2.length : Int) : Int) := oB_ qe_
       obtain ⟨go26, co26, eo26, gb26, gl26, cl26, HG26⟩ := Kd.R_form HO_5.out (by omega)
       (first | cases eo26 | (injection eo26 with ea_ en_ ec_; (first | subst ea_ | (injection ea_ with ea_; subst ea_)); subst ec_; clear en_))
       have GB26 := A_ gb26
       have GG26 := A_ HG26
       clear gb26 gl26 HG26
       obtain ⟨hx26_0, hf26_0⟩ := Kd.R_celln 0 HO_5.out ((rd l1 x28_2) : Int) p26 q26
       replace p26 := eq_true p26
       replace q26 := eq_true q26
       have HP28 := Kd.R_putn HO_5.out ((rd l1 x28_2) : Int) (rd l1 (rd l0 x28_2))
       rw [← Ny149.out] at HP28
       have HQ28 := A_ HP28
       clear HP28
       refine start_ (n := 11) (S := fun w' => w'.cell? (ad147.add (x28_2).toNat) = some (.int .i64 (rd l1 x28_2)) ∧ w'.cell? (ad147.add ((rd l0 x28_2)).toNat) = some (.int .i64 (rd l1 (rd l0 x28_2)))) (ds := [10]) (bl_ 11 0) (by kernel_rfl) rfl (by kernel_rfl) ⟨((HB.out.cell (World.block_lt_of_cell? w _ hw147_0)).trans hw147_0), ((HB.out.cell (World.block_lt_of_cell? w _ hw148_0)).trans hw148_0)⟩ (fun hHeld => ?_); refine with_tabW Z24.tab7 Z24.bits7 (fun HT_ HW_ => ?_)
       generalize wr.drew = w27 at HO_5 HB GG26 HQ28 hf26_0 hx147_0 hx148_0 hx26_0 hHeld ⊢
       refine pu_ 0 (some 33) (bl_ 11 1) HT_ ?_
       refine pu_ 1 (some 34) (bl_ 11 3) HT_ ?_
       refine pu_ 2 (some 35) (bl_ 11 7) HT_ ?_
       refine pu_ 3 (some 36) (bl_ 11 15) HT_ ?_
       refine pu_ 5 (some 38) (bl_ 11 47) HT_ ?_
       refine pu_ 6 (some 39) (bl_ 11 111) HT_ ?_
       refine pu_ 7 (some 40) (bl_ 11 239) HT_ ?_
       refine ta_ 4 (some 37) (bl_ 11 255) HT_ HW_ hHeld ?_
       refine ta_ 8 (some 41) (bl_ 11 511) HT_ HW_ hHeld ?_
       refine pu_ 9 (some 42) (bl_ 11 1023) HT_ ?_
       refine last_ (i := 10) (N := none) (bl_ 11 2047) rfl rfl (one_of HT_.out (by kernel_rfl)) (by decide) (fun K hK => ?_)
       refine skip_ (w1 := ?_) (by rfl) rfl ?_ ?_
       rotate_left
       ·go_simp
        rfl
       refine hK.out _ _ ?_
       clear hK K
       refine done_ (done_of HT_.out (by kernel_rfl)) ?_
       try go_wp2
       go_roundg k2
       case measure => have := HJ2.out; have := HK2.out; omega
       case rel => exact ⟨(y149), (wrap64 (x28_2 + 1)), qc_, H', ⟨by have := HJ2.out; have := HK2.out; omega⟩, ⟨(rr_ HQ28)⟩, ⟨by repeat (first | (with_reducible first | exact HB.out | apply bA_ | apply bB_ | apply bC_ | refine bD_ ?_ GB26.out) | exact HB.out)⟩⟩
      ·rw [if_neg c18] at H
       have c18b0 := oD_ c18
       clear c18
       obtain rfl := Option.some.inj H
       go_wp2
       go_ret
       exact ⟨_, qb_, (rr_ HO_5), hB_⟩
end Go.Proofs.Ytoijcallajegfaa.A
end
section
namespace Go.Proofs.Ytoijcallajegfaa.A
open Go.RowKit Go.Proofs.YtoijcallajegfaaW.PrintWords Go.Proofs.YtoijcallajegfaaW.PrintLast Go.Proofs.YtoijcallajegfaaW.PrintMore
attribute [local go_sem] max2_int min2_int max_two min_two max_three min_three max_four min_four
set_option linter.unusedVariables false
set_option linter.unusedSimpArgs false
def Z8.j0 : Nat → List Int → Bool → List Int → List Int → Option (List Int × List Int × Bool)
 | 0, _, _, _, _ => none
 | k + 1, x1, x21, x151000, x151001 => if x21 = true then (some (([] : List Int), ([] : List Int), false)) else ((Z24.f k x151000 x1).bind fun t154 => ((Z24.f k x151001 x1).bind fun t157 => (some (t154, t157, true))))
def Z8.f (k : Nat) (l0_0 : List Int) (l0_1 : List Int) (l1 : List Int) : Option (List Int × List Int × Bool) := (Z31.f k l0_0 l0_1).bind fun t152 => (if t152 = true then ((Z56.f k l1).bind fun t153 => (if t153 = true then (Z8.j0 k l1 ((l1.length : Int) != (l0_0.length : Int)) l0_0 l0_1) else (Z8.j0 k l1 true l0_0 l0_1))) else (Z8.j0 k l1 true l0_0 l0_1))
theorem Z8.mono_l : ∀ k, (∀ y0 y1 y2 y3, LeO (Z8.j0 k y0 y1 y2 y3) (Z8.j0 (k + 1) y0 y1 y2 y3))
 | 0 => fun _ _ _ _ r h => by simp [Z8.j0] at h
 | k + 1 => by
  have ih0 := Z8.mono_l k
  ·intro y0 y1 y2 y3
   unfold Z8.j0
   repeat' first|exact ih0 _ _ _ _|exact Z56.mono _ _|exact Z24.mono _ _ _|exact Z31.mono _ _ _|exact lo_|refine LeO.ite ?_ ?_|refine LeO.bind ?_ (fun _ => ?_)
theorem Z8.mono : ∀ a0 a1 a2 k, LeO (Z8.f k a0 a1 a2) (Z8.f (k + 1) a0 a1 a2) := by
 intro a0 a1 a2 k
 have ih0 := Z8.mono_l k
 unfold Z8.f
 repeat' first|exact ih0 _ _ _ _|exact Z56.mono _ _|exact Z24.mono _ _ _|exact Z31.mono _ _ _|exact lo_|refine LeO.ite ?_ ?_|refine LeO.bind ?_ (fun _ => ?_)
def Z8.T3 : Bool × List (List Nat × List Nat) := (true, [([], []), ([0], [0]), ([], []), ([1, 2], [1, 2]), ([], []), ([4], [4]), ([], []), ([5, 6, 3], [5, 6]), ([3, 7], [3, 7]), ([8, 7, 0, 1, 2, 3, 4, 5, 6, 7, 8], [8]), ([9, 0, 1, 2, 3, 4, 5, 6, 7, 8, 9], [])])
def Z8.B3 : List Nat := [0, 1, 0, 7, 0, 16, 0, 127, 255, 511, 1023]
theorem Z8.tab3 : rtab .any (opsOf Try.f107 3) = Z8.T3 := by kernel_rfl
theorem Z8.bits3 : waitsOk Z8.T3.2 Z8.B3 = true := by kernel_rfl
set_option maxHeartbeats 8000000 in
set_option maxRecDepth 100000 in
theorem Z8.calls (k : Nat) (A0_0 : Option Addr) (c0_0 : Nat) (l0_0 : List Int) (A0_1 : Option Addr) (c0_1 : Nat) (l0_1 : List Int) (A1 : Option Addr) (c1 : Nat) (l1 : List Int) (r1 : List Int) (r2 : List Int) (r3 : Bool) (w : World) (hr0_0 : Kd.C (Kd.int .i64) w A0_0 l0_0.length l0_0) (hc0_0 : l0_0.length ≤ c0_0) (hr0_1 : Kd.C (Kd.int .i64) w A0_1 l0_1.length l0_1) (hc0_1 : l0_1.length ≤ c0_1) (hr1 : Kd.C (Kd.int .i64) w A1 l1.length l1) (hc1 : l1.length ≤ c1) (h : Z8.f k l0_0 l0_1 l1 = some (r1, r2, r3)) :
  Calls Try.prog 107 #[.agg #[.slice A0_0 l0_0.length c0_0, .slice A0_1 l0_1.length c0_1], .slice A1 l1.length c1] w fun e w' => ∃ v0_ v1_ : Value, e = .returned (.tuple #[.agg #[v0_, v1_], .bool r3]) ∧ Kd.R (Kd.int .i64) 3 w' w.heap.size (fun k_ => some k_ ≠ (v1_ : Value).ownBlock) v0_ r1 ∧ Kd.R (Kd.int .i64) 3 w' w.heap.size (fun k_ => some k_ ≠ (v0_ : Value).ownBlock) v1_ r2 ∧ Below w.heap.size w w' := by
 have hu33 := Try.underlying33
 have HR0_0 := A_ hr0_0
 have HC0_0 := A_ hc0_0
 clear hr0_0 hc0_0
 have HR0_1 := A_ hr0_1
 have HC0_1 := A_ hc0_1
 clear hr0_1 hc0_1
 have HR1 := A_ hr1
 have HC1 := A_ hc1
 clear hr1 hc1
 have HB := A_ (Below.refl w.heap.size w)
 have H := h
 unfold Z8.f at H
 clear h
 have HC3 := A_ H
 clear H
 go_enter Try.func107, Try.ntmps107
 go_upto_region 1 with (first | ((with_reducible refine gB_ (N := 2) rfl ?_); (try (refine gate_guard (by rfl) ?_; dsimp only)); refine bx_ 2 #[.slice A0_0 l0_0.length c0_0, .slice A0_1 l0_1.length c0_1] 33 ?_; intro gb150 hg w4 hbox hb; have BK150 := A_ hbox; have GW150 := gw_ w hg; have GE150 := GW150; replace HB := b1_ hb; clear hb hbox hg) | ((with_reducible refine gB_ (N := 4) rfl ?_); (try (refine gate_guard (by rfl) ?_; dsimp only)); refine bx_ 4 #[.slice none 0 0, .slice none 0 0] 33 ?_; intro gb151 hg w5 hbox hb; have BK151 := A_ hbox; have GW151 := gw_ w hg; have GE151 := GW151; replace HB := b1_ hb; have NB150_151 := gN_ BK150 hg; have NB151_150 := gP_ BK150 hg; replace BK150 := bb_ BK150 hb; clear hb hbox hg))
 (try simp only [Act.put, sA_, sB_, sC_])
 go_cut [21] (fun v21 wc => ∃ (kq : Nat) (x21_2 : Bool), v21 = .bool x21_2 ∧ Aside0 (Z8.j0 kq l1 x21_2 l0_0 l0_1 = some (r1, r2, r3)) ∧ Aside0 (kq ≤ k) ∧ Aside0 (wc.heap[gb150]? = some (.cells #[(.slice A0_0 l0_0.length c0_0), (.slice A0_1 l0_1.length c0_1)] 33 (0, 0))) ∧ Aside0 (wc.heap[gb151]? = some (.cells #[(.slice none 0 0), (.slice none 0 0)] 33 (0, 0))) ∧ Aside0 (Below w.heap.size w wc))
 case first =>
  have H := HC3.out
  clear HC3
  obtain ⟨t152, A6, H⟩ := bi_ H
  by_cases c7 : t152 = true
  ·subst c7
   rw [if_pos rfl] at H
   obtain ⟨t153, A8, H⟩ := bi_ H
   by_cases c9 : t153 = true
   ·subst c9
    rw [if_pos rfl] at H
    have H' := A_ H
    clear H
    have hnb10 := NB150_151.out
    have hnc10 := NB151_150.out
    obtain ⟨hcz11_0, hcz11_1, hfz11_0, hfz11_1⟩ := c2_ BK150
    go_wp2_with (first | ((with_reducible refine gA_ (f := 19) rfl ?_); refine gL_ (some 7) Try.func19 #[.agg #[.slice A0_0 l0_0.length c0_0, .slice A0_1 l0_1.length c0_1]] rfl qa_ ?_; (with_reducible refine (Z31.calls k _ _ l0_0 _ _ l0_1 true _ (cb_ HR0_0) HC0_0.out (cb_ HR0_1) HC0_1.out A6.out).mono ?_); rintro e w12 ⟨rfl, hb⟩; refine ⟨_, rfl, ?_⟩; replace BK150 := bb_ BK150 hb; replace BK151 := bb_ BK151 hb; replace HB := b1_ hb; clear hb) | (go_at_call 109; (with_reducible refine (Z56.calls k _ _ l1 true _ (cb_ HR1) HC1.out A8.out).mono ?_); rintro e w13 ⟨rfl, hb⟩; replace BK150 := bb_ BK150 hb; replace BK151 := bb_ BK151 hb; replace HB := b1_ hb; clear hb; obtain ⟨hcz14_0, hcz14_1, hfz14_0, hfz14_1⟩ := c2_ BK150))
    go_meet
    case rel => exact ⟨_, (((l1.length : Int) != (l0_0.length : Int))), qc_, H', ⟨qd_⟩, ⟨(kk_ BK150)⟩, ⟨(kk_ BK151)⟩, ⟨hB_⟩⟩
   ·replace c9 := Bool.eq_false_iff.mpr c9
    subst c9
    have H1 : (Z8.j0 k l1 true l0_0 l0_1) = some (r1, r2, r3) := by rw [if_neg (show ¬ (false = true) by decide)] at H; exact H
    clear H
    have H := H1
    clear H1
    have H' := A_ H
    clear H
    have hnb15 := NB150_151.out
    have hnc15 := NB151_150.out
    obtain ⟨hcz16_0, hcz16_1, hfz16_0, hfz16_1⟩ := c2_ BK150
    go_wp2_with (first | ((with_reducible refine gA_ (f := 19) rfl ?_); refine gL_ (some 7) Try.func19 #[.agg #[.slice A0_0 l0_0.length c0_0, .slice A0_1 l0_1.length c0_1]] rfl qa_ ?_; (with_reducible refine (Z31.calls k _ _ l0_0 _ _ l0_1 true _ (cb_ HR0_0) HC0_0.out (cb_ HR0_1) HC0_1.out A6.out).mono ?_); rintro e w17 ⟨rfl, hb⟩; refine ⟨_, rfl, ?_⟩; replace BK150 := bb_ BK150 hb; replace BK151 := bb_ BK151 hb; replace HB := b1_ hb; clear hb) | (go_at_call 109; (with_reducible refine (Z56.calls k _ _ l1 false _ (cb_ HR1) HC1.out A8.out).mono ?_); rintro e w18 ⟨rfl, hb⟩; replace BK150 := bb_ BK150 hb; replace BK151 := bb_ BK151 hb; replace HB := b1_ hb; clear hb))
    go_meet
    case rel => exact ⟨_, (true), qc_, H', ⟨qd_⟩, ⟨(kk_ BK150)⟩, ⟨(kk_ BK151)⟩, ⟨hB_⟩⟩
  ·replace c7 := Bool.eq_false_iff.mpr c7
   subst c7
   have H1 : (Z8.j0 k l1 true l0_0 l0_1) = some (r1, r2, r3) := by rw [if_neg (show ¬ (false = true) by decide)] at H; exact H
   clear H
   have H := H1
   clear H1
   have H' := A_ H
   clear H
   have hnb19 := NB150_151.out
   have hnc19 := NB151_150.out
   obtain ⟨hcz20_0, hcz20_1, hfz20_0, hfz20_1⟩ := c2_ BK150
   go_wp2_with (first | ((with_reducible refine gA_ (f := 19) rfl ?_); refine gL_ (some 7) Try.func19 #[.agg #[.slice A0_0 l0_0.length c0_0, .slice A0_1 l0_1.length c0_1]] rfl qa_ ?_; (with_reducible refine (Z31.calls k _ _ l0_0 _ _ l0_1 false _ (cb_ HR0_0) HC0_0.out (cb_ HR0_1) HC0_1.out A6.out).mono ?_); rintro e w21 ⟨rfl, hb⟩; refine ⟨_, rfl, ?_⟩; replace BK150 := bb_ BK150 hb; replace BK151 := bb_ BK151 hb; replace HB := b1_ hb; clear hb))
   go_meet
   case rel => exact ⟨_, (true), qc_, H', ⟨qd_⟩, ⟨(kk_ BK150)⟩, ⟨(kk_ BK151)⟩, ⟨hB_⟩⟩
 case rest =>
  clear HC3
  obtain ⟨kq, x21_2, rfl, HA, HJ2, BK150, BK151, HB⟩ := hcut
  cases kq with
  | zero => exact absurd HA.out (by simp [Z8.j0])
  | succ kj2 =>
   have H := HA.out
   clear HA
   simp only [Z8.j0] at H
   by_cases c22 : x21_2 = true
   ·subst c22
    rw [if_pos rfl] at H
    simp only [Option.some.injEq, Prod.mk.injEq] at H
    obtain ⟨rfl, rfl, rfl⟩ := H
    have hnb23 := NB151_150.out
    have hnc23 := NB150_151.out
    obtain ⟨hcz24_0, hcz24_1, hfz24_0, hfz24_1⟩ := c2_ BK151
    go_wp2
    refine bodyPost_ret (results_ct rfl _ _ gb151 33 #[.slice none 0 0, .slice none 0 0] (0, 0) _ rfl qp_ Try.underlying33 rfl (by kernel_rfl)) rfl ?_
    exact ⟨_, _, qb_, by first | exact Kd.R_nil _ _ _ _ _ | exact Kd.N_nil _ _ _ _ _ | exact Kd.V_nil _ _ _ _ _ | exact Kd.Q_nil _ _ _ _ _ | exact Kd.S_nil _ _ _ _ _, by first | exact Kd.R_nil _ _ _ _ _ | exact Kd.N_nil _ _ _ _ _ | exact Kd.V_nil _ _ _ _ _ | exact Kd.Q_nil _ _ _ _ _ | exact Kd.S_nil _ _ _ _ _, hB_⟩
   ·replace c22 := Bool.eq_false_iff.mpr c22
    subst c22
    have H1 : ((Z24.f kj2 l0_0 l1).bind fun t154 => ((Z24.f kj2 l0_1 l1).bind fun t157 => (some (t154, t157, true)))) = some (r1, r2, r3) := by rw [if_neg (show ¬ (false = true) by decide)] at H; exact H
    clear H
    have H := H1
    clear H1
    obtain ⟨t154, A25, H⟩ := bi_ H
    obtain ⟨t157, A26, H⟩ := bi_ H
    simp only [Option.some.injEq, Prod.mk.injEq] at H
    obtain ⟨rfl, rfl, rfl⟩ := H
    try go_wp2
    replace BK150 := A_ (kB_ BK150.out)
    replace BK151 := A_ (kB_ BK151.out)
    replace HB := A_ (bC_ HB.out)
    refine start_ (n := 11) (S := fun w' => w'.cell? ⟨gb150, 0, none⟩ = some (.slice A0_0 l0_0.length c0_0) ∧ w'.cell? ⟨gb150, 1, none⟩ = some (.slice A0_1 l0_1.length c0_1)) (ds := []) (bl_ 11 0) (by kernel_rfl) rfl (by kernel_rfl) ⟨cz0_ BK150, cz1_ BK150⟩ (fun hHeld => ?_); refine with_tabW Z8.tab3 Z8.bits3 (fun HT_ HW_ => ?_)
    generalize wc.drew = w27 at BK150 BK151 HB hHeld ⊢
    refine pu_ 0 (some 23) (bl_ 11 1) HT_ ?_
    refine pu_ 2 (some 25) (bl_ 11 5) HT_ ?_
    refine pu_ 4 (some 27) (bl_ 11 21) HT_ ?_
    refine pu_ 6 (some 29) (bl_ 11 85) HT_ ?_
    refine ta_ 1 (some 24) (bl_ 11 87) HT_ HW_ hHeld ?_
    refine ta_ 5 (some 28) (bl_ 11 119) HT_ HW_ hHeld ?_
    refine on_ 3 (some 26) (bl_ 11 127) HT_ (fun K hK => ?_)
    refine gO_ Try.func150 #[.slice A0_0 l0_0.length c0_0, .slice A1 l1.length c1] (by rfl) rfl rfl qa_ ?_
    with_reducible refine (Z24.calls kj2 _ _ l0_0 _ _ l1 t154 _ (cb_ HR0_0) HC0_0.out (cb_ HR1) HC1.out A25.out).mono ?_
    rintro e w28 ⟨v155, rfl, ho0, hb⟩
    refine ⟨_, rfl, ?_⟩
    have HO156 := rl_ w ho0
    replace BK150 := bb_ BK150 hb
    replace BK151 := bb_ BK151 hb
    replace HB := b1_ hb
    clear hb ho0
    refine hK.out _ _ ⟨cz0_ BK150, cz1_ BK150⟩ (fun hHeld => ?_)
    clear hK K
    refine no_ (some 26) ?_
    refine on_ 7 (some 30) (bl_ 11 255) HT_ (fun K hK => ?_)
    refine gO_ Try.func150 #[.slice A0_1 l0_1.length c0_1, .slice A1 l1.length c1] (by rfl) rfl rfl qa_ ?_
    with_reducible refine (Z24.calls kj2 _ _ l0_1 _ _ l1 t157 _ (cb_ HR0_1) HC0_1.out (cb_ HR1) HC1.out A26.out).mono ?_
    rintro e w29 ⟨v158, rfl, ho0, hb⟩
    refine ⟨_, rfl, ?_⟩
    have HO159 := A_ (rE_ (Kd.R_new' ho0 (Kd.R_lt (rr_ HO156))) (bF_ hB_))
    replace HO156 := A_ (Kd.R_elder' (rr_ HO156) (Kd.R_base ho0) hb)
    replace BK150 := bb_ BK150 hb
    replace BK151 := bb_ BK151 hb
    replace HB := b1_ hb
    clear hb ho0
    obtain ⟨Ao30, co30, eo30⟩ := Kd.R_slice HO159.out
    (first | subst eo30 | (injection eo30 with f1_ f2_ f3_; have f4_ := f1_.symm; have f5_ := f3_.symm; clear f1_ f2_ f3_; subst f4_; subst f5_))
    obtain ⟨Ao31, co31, eo31⟩ := Kd.R_slice HO156.out
    (first | subst eo31 | (injection eo31 with f1_ f2_ f3_; have f4_ := f1_.symm; have f5_ := f3_.symm; clear f1_ f2_ f3_; subst f4_; subst f5_))
    refine hK.out _ _ ⟨cz0_ BK150, cz1_ BK150⟩ (fun hHeld => ?_)
    clear hK K
    refine no_ (some 30) ?_
    refine pu_ 8 (some 31) (bl_ 11 511) HT_ ?_
    refine on_ 9 (none) (bl_ 11 1023) HT_ (fun K hK => ?_)
    have hs32 : w29.cell? ⟨gb151, 0, none⟩ = some (.slice none 0 0) := cz0_ BK151
    have hfs32 := kD_ BK151.out 0
    have hns32_0 := NB150_151.out
    have hms32_0 := NB151_150.out
    have hs33 : w29.cell? ⟨gb151, 1, none⟩ = some (.slice none 0 0) := cz1_ BK151
    have hfs33 := kD_ BK151.out 1
    have hns33_0 := NB150_151.out
    have hms33_0 := NB151_150.out
    refine skip_ (w1 := ?_) (by rfl) rfl ?_ ?_
    rotate_left
    ·go_simp
     rfl
    refine hK.out _ _ ⟨((cell_far (p := ⟨gb151, _, none⟩) NB150_151.out _).trans (((cell_far (p := ⟨gb151, _, none⟩) NB150_151.out _).trans (hHeld.1)))), ((cell_far (p := ⟨gb151, _, none⟩) NB150_151.out _).trans (((cell_far (p := ⟨gb151, _, none⟩) NB150_151.out _).trans (hHeld.2))))⟩ (fun hHeld => ?_)
    clear hK K
    refine pu_ 10 (some 5) (bl_ 11 2047) HT_ ?_
    refine done_ (done_of HT_.out (by kernel_rfl)) ?_
    try go_wp2
    refine bodyPost_ret (results_ct rfl _ _ gb151 33 #[.slice Ao31 t154.length co31, .slice Ao30 t157.length co30] (0, 0) _ rfl qp_ Try.underlying33 rfl (by kernel_rfl)) rfl ?_
    exact ⟨_, _, qb_, (rw_ (Kd.R_mono (fa_ HO156 BK151) (fun _ hk => hk.2))), (rw_ (Kd.R_mono (fa_ HO159 BK151) (fun _ hk => hk.2))), hB_⟩
end Go.Proofs.Ytoijcallajegfaa.A
end
section
namespace Go.Proofs.Ytoijcallajegfaa.A
open Go.RowKit Go.Proofs.YtoijcallajegfaaW.PrintWords Go.Proofs.YtoijcallajegfaaW.PrintLast Go.Proofs.YtoijcallajegfaaW.PrintMore
attribute [local go_sem] max2_int min2_int max_two min_two max_three min_three max_four min_four
set_option linter.unusedVariables false
set_option linter.unusedSimpArgs false
mutual
def Z29.j0 : Nat → Int → Bool → List Int → List Int → Option (List Int)
 | 0, _, _, _, _ => none
 | k + 1, x1, x24, x161000, x161001 => if x24 = true then (some ([] : List Int)) else (if 0 ≤ (x161000.length : Int) then (if ((x161000.length : Int) : Int).toNat ≤ 35184372088832 then ((some (List.replicate ((x161000.length : Int) : Int).toNat 0 : List Int)).bind fun y162 => (Z29.l0 k x1 y162 (y162.length : Int) 0 x161000 x161001)) else (none)) else (none))
def Z29.l0 : Nat → Int → List Int → Int → Int → List Int → List Int → Option (List Int)
 | 0, _, _, _, _, _, _ => none
 | k + 1, x1, x5, x30, x31, x161000, x161001 => if x31 < x30 then (if 0 ≤ x31 then (if x31 < (x5.length : Int) then (Z29.l0 k x1 (x5.set (x31 : Int).toNat (-1)) x30 (wrap64 (x31 + 1)) x161000 x161001) else (none)) else (none)) else (if 0 ≤ x1 then (if x1 < (x5.length : Int) then (Z29.l1 k (x5.set (x1 : Int).toNat 0) (([x1] : List Int)) 0 x161000 x161001) else (none)) else (none))
def Z29.l1 : Nat → List Int → List Int → Int → List Int → List Int → Option (List Int)
 | 0, _, _, _, _, _ => none
 | k + 1, x5, x7, x8, x161000, x161001 => if x8 < (x7.length : Int) then (if 0 ≤ x8 then (if 0 ≤ (rd x7 x8) then (if (rd x7 x8) < (x161000.length : Int) then (if (rd x7 x8) < (x161001.length : Int) then ((some (([rd x161000 (rd x7 x8), rd x161001 (rd x7 x8)] : List Int) : List Int)).bind fun y174 => (Z29.l2 k x5 x7 x8 y174 (y174.length : Int) 0 x161000 x161001)) else (none)) else (none)) else (none)) else (none)) else (some x5)
def Z29.l2 : Nat → List Int → List Int → Int → List Int → Int → Int → List Int → List Int → Option (List Int)
 | 0, _, _, _, _, _, _, _, _ => none
 | k + 1, x5, x7, x8, x65, x66, x67, x161000, x161001 => if x67 < x66 then (if 0 ≤ x67 then (if x67 < (x65.length : Int) then (if 0 ≤ (rd x65 x67) then (if (rd x65 x67) < (x5.length : Int) then (if (rd x5 (rd x65 x67)) < 0 then (if x7.length < 17592186044416 then (Z29.l2 k (x5.set ((rd x65 x67) : Int).toNat (x7.length : Int)) (x7 ++ [rd x65 x67]) x8 x65 x66 (wrap64 (x67 + 1)) x161000 x161001) else (none)) else (Z29.l2 k x5 x7 x8 x65 x66 (wrap64 (x67 + 1)) x161000 x161001)) else (none)) else (none)) else (none)) else (none)) else (Z29.l1 k x5 x7 (wrap64 (x8 + 1)) x161000 x161001)
end
def Z29.f (k : Nat) (l0_0 : List Int) (l0_1 : List Int) (a1 : Int) : Option (List Int) := (Z31.f k l0_0 l0_1).bind fun t161 => (if t161 = true then (if a1 < 0 then (Z29.j0 k a1 true l0_0 l0_1) else (Z29.j0 k a1 (decide (a1 ≥ (l0_0.length : Int))) l0_0 l0_1)) else (Z29.j0 k a1 true l0_0 l0_1))
theorem Z29.mono_l : ∀ k, (∀ y0 y1 y2 y3, LeO (Z29.j0 k y0 y1 y2 y3) (Z29.j0 (k + 1) y0 y1 y2 y3)) ∧ (∀ y0 y1 y2 y3 y4 y5, LeO (Z29.l0 k y0 y1 y2 y3 y4 y5) (Z29.l0 (k + 1) y0 y1 y2 y3 y4 y5)) ∧ (∀ y0 y1 y2 y3 y4, LeO (Z29.l1 k y0 y1 y2 y3 y4) (Z29.l1 (k + 1) y0 y1 y2 y3 y4)) ∧ (∀ y0 y1 y2 y3 y4 y5 y6 y7, LeO (Z29.l2 k y0 y1 y2 y3 y4 y5 y6 y7) (Z29.l2 (k + 1) y0 y1 y2 y3 y4 y5 y6 y7))
 | 0 => ⟨fun _ _ _ _ r h => by simp [Z29.j0] at h, fun _ _ _ _ _ _ r h => by simp [Z29.l0] at h, fun _ _ _ _ _ r h => by simp [Z29.l1] at h, fun _ _ _ _ _ _ _ _ r h => by simp [Z29.l2] at h⟩
 | k + 1 => by
  obtain ⟨ih0, ih1, ih2, ih3⟩ := Z29.mono_l k
  refine ⟨?_, ?_, ?_, ?_⟩
  ·intro y0 y1 y2 y3
   unfold Z29.j0
   repeat' first|exact ih0 _ _ _ _|exact ih1 _ _ _ _ _ _|exact ih2 _ _ _ _ _|exact ih3 _ _ _ _ _ _ _ _|exact Z31.mono _ _ _|exact lo_|refine LeO.ite ?_ ?_|refine LeO.bind ?_ (fun _ => ?_)
  ·intro y0 y1 y2 y3 y4 y5
   unfold Z29.l0
   repeat' first|exact ih0 _ _ _ _|exact ih1 _ _ _ _ _ _|exact ih2 _ _ _ _ _|exact ih3 _ _ _ _ _ _ _ _|exact Z31.mono _ _ _|exact lo_|refine LeO.ite ?_ ?_|refine LeO.bind ?_ (fun _ => ?_)
  ·intro y0 y1 y2 y3 y4
   unfold Z29.l1
   repeat' first|exact ih0 _ _ _ _|exact ih1 _ _ _ _ _ _|exact ih2 _ _ _ _ _|exact ih3 _ _ _ _ _ _ _ _|exact Z31.mono _ _ _|exact lo_|refine LeO.ite ?_ ?_|refine LeO.bind ?_ (fun _ => ?_)
  ·intro y0 y1 y2 y3 y4 y5 y6 y7
   unfold Z29.l2
   repeat' first|exact ih0 _ _ _ _|exact ih1 _ _ _ _ _ _|exact ih2 _ _ _ _ _|exact ih3 _ _ _ _ _ _ _ _|exact Z31.mono _ _ _|exact lo_|refine LeO.ite ?_ ?_|refine LeO.bind ?_ (fun _ => ?_)
theorem Z29.mono : ∀ a0 a1 a2 k, LeO (Z29.f k a0 a1 a2) (Z29.f (k + 1) a0 a1 a2) := by
 intro a0 a1 a2 k
 obtain ⟨ih0, ih1, ih2, ih3⟩ := Z29.mono_l k
 unfold Z29.f
 repeat' first|exact ih0 _ _ _ _|exact ih1 _ _ _ _ _ _|exact ih2 _ _ _ _ _|exact ih3 _ _ _ _ _ _ _ _|exact Z31.mono _ _ _|exact lo_|refine LeO.ite ?_ ?_|refine LeO.bind ?_ (fun _ => ?_)
def Z29.T14 : Bool × List (List Nat × List Nat) := (true, [([], []), ([0], [0]), ([], []), ([], []), ([2, 3], [2, 3]), ([4], [4]), ([1, 5], [1, 5]), ([6], [6]), ([], []), ([8], [8]), ([], []), ([], []), ([10, 11], [10, 11]), ([12], [12]), ([9, 13], [9, 13]), ([14], [14]), ([7, 15], [7, 15]), ([16], [16]), ([], [])])
def Z29.B14 : List Nat := [0, 1, 0, 0, 12, 28, 63, 127, 0, 256, 0, 0, 3072, 7168, 16128, 32512, 65535, 131071, 0]
theorem Z29.tab14 : rtab .any (opsOf Try.f108 14) = Z29.T14 := by kernel_rfl
theorem Z29.bits14 : waitsOk Z29.T14.2 Z29.B14 = true := by kernel_rfl
set_option maxHeartbeats 8000000 in
set_option maxRecDepth 100000 in
theorem Z29.calls (k : Nat) (A0_0 : Option Addr) (c0_0 : Nat) (l0_0 : List Int) (A0_1 : Option Addr) (c0_1 : Nat) (l0_1 : List Int) (a1 : Int) (r : List Int) (w : World) (hr0_0 : Kd.C (Kd.int .i64) w A0_0 l0_0.length l0_0) (hc0_0 : l0_0.length ≤ c0_0) (hr0_1 : Kd.C (Kd.int .i64) w A0_1 l0_1.length l0_1) (hc0_1 : l0_1.length ≤ c0_1) (h : Z29.f k l0_0 l0_1 a1 = some r) :
  Calls Try.prog 108 #[.agg #[.slice A0_0 l0_0.length c0_0, .slice A0_1 l0_1.length c0_1], .int .i64 a1] w fun e w' => ∃ v0_ : Value, e = .returned (v0_) ∧ Kd.R (Kd.int .i64) 3 w' w.heap.size (fun _ => True) v0_ r ∧ Below w.heap.size w w' := by
 have hu33 := Try.underlying33
 have HR0_0 := A_ hr0_0
 have HC0_0 := A_ hc0_0
 clear hr0_0 hc0_0
 have HR0_1 := A_ hr0_1
 have HC0_1 := A_ hc0_1
 clear hr0_1 hc0_1
 have HB := A_ (Below.refl w.heap.size w)
 have H := h
 unfold Z29.f at H
 clear h
 have HC3 := A_ H
 clear H
 go_enter Try.func108, Try.ntmps108
 go_upto_region 1 with (first | ((with_reducible refine gB_ (N := 2) rfl ?_); (try (refine gate_guard (by rfl) ?_; dsimp only)); refine bx_ 2 #[.slice A0_0 l0_0.length c0_0, .slice A0_1 l0_1.length c0_1] 33 ?_; intro gb160 hg w4 hbox hb; have BK160 := A_ hbox; have GW160 := gw_ w hg; have GE160 := GW160; replace HB := b1_ hb; clear hb hbox hg))
 (try simp only [Act.put, sA_, sB_, sC_])
 go_cut [24] (fun v24 wc => ∃ (kq : Nat) (x24_2 : Bool), v24 = .bool x24_2 ∧ Aside0 (Z29.j0 kq a1 x24_2 l0_0 l0_1 = some r) ∧ Aside0 (kq ≤ k) ∧ Aside0 (wc.heap[gb160]? = some (.cells #[(.slice A0_0 l0_0.length c0_0), (.slice A0_1 l0_1.length c0_1)] 33 (0, 0))) ∧ Aside0 (Below w.heap.size w wc))
 case first =>
  have H := HC3.out
  clear HC3
  obtain ⟨t161, A5, H⟩ := bi_ H
  by_cases c6 : t161 = true
  ·subst c6
   rw [if_pos rfl] at H
   by_cases c7 : a1 < 0
   ·rw [if_pos c7] at H
    have c7b0 := oC_ c7
    clear c7
    (first | rw [c7b0] | (simp only [i64_w, i32_w]; rw [c7b0]) | skip)
    have H' := A_ H
    clear H
    obtain ⟨hcz8_0, hcz8_1, hfz8_0, hfz8_1⟩ := c2_ BK160
    go_wp2_with (first | ((with_reducible refine gA_ (f := 19) rfl ?_); refine gL_ (some 12) Try.func19 #[.agg #[.slice A0_0 l0_0.length c0_0, .slice A0_1 l0_1.length c0_1]] rfl qa_ ?_; (with_reducible refine (Z31.calls k _ _ l0_0 _ _ l0_1 true _ (cb_ HR0_0) HC0_0.out (cb_ HR0_1) HC0_1.out A5.out).mono ?_); rintro e w9 ⟨rfl, hb⟩; refine ⟨_, rfl, ?_⟩; replace BK160 := bb_ BK160 hb; replace HB := b1_ hb; clear hb))
    go_meet
    case rel => exact ⟨_, (true), qc_, H', ⟨qd_⟩, ⟨(kk_ BK160)⟩, ⟨hB_⟩⟩
   ·rw [if_neg c7] at H
    have c7b0 := oD_ c7
    clear c7
    (first | rw [c7b0] | (simp only [i64_w, i32_w]; rw [c7b0]) | skip)
    have H' := A_ H
    clear H
    obtain ⟨hcz10_0, hcz10_1, hfz10_0, hfz10_1⟩ := c2_ BK160
    go_wp2_with (first | ((with_reducible refine gA_ (f := 19) rfl ?_); refine gL_ (some 12) Try.func19 #[.agg #[.slice A0_0 l0_0.length c0_0, .slice A0_1 l0_1.length c0_1]] rfl qa_ ?_; (with_reducible refine (Z31.calls k _ _ l0_0 _ _ l0_1 true _ (cb_ HR0_0) HC0_0.out (cb_ HR0_1) HC0_1.out A5.out).mono ?_); rintro e w11 ⟨rfl, hb⟩; refine ⟨_, rfl, ?_⟩; replace BK160 := bb_ BK160 hb; replace HB := b1_ hb; clear hb; obtain ⟨hcz12_0, hcz12_1, hfz12_0, hfz12_1⟩ := c2_ BK160))
    go_meet
    case rel => exact ⟨_, (decide (a1 ≥ (l0_0.length : Int))), qc_, H', ⟨qd_⟩, ⟨(kk_ BK160)⟩, ⟨hB_⟩⟩
  ·replace c6 := Bool.eq_false_iff.mpr c6
   subst c6
   have H1 : (Z29.j0 k a1 true l0_0 l0_1) = some r := by rw [if_neg (show ¬ (false = true) by decide)] at H; exact H
   clear H
   have H := H1
   clear H1
   have H' := A_ H
   clear H
   obtain ⟨hcz13_0, hcz13_1, hfz13_0, hfz13_1⟩ := c2_ BK160
   go_wp2_with (first | ((with_reducible refine gA_ (f := 19) rfl ?_); refine gL_ (some 12) Try.func19 #[.agg #[.slice A0_0 l0_0.length c0_0, .slice A0_1 l0_1.length c0_1]] rfl qa_ ?_; (with_reducible refine (Z31.calls k _ _ l0_0 _ _ l0_1 false _ (cb_ HR0_0) HC0_0.out (cb_ HR0_1) HC0_1.out A5.out).mono ?_); rintro e w14 ⟨rfl, hb⟩; refine ⟨_, rfl, ?_⟩; replace BK160 := bb_ BK160 hb; replace HB := b1_ hb; clear hb))
   go_meet
   case rel => exact ⟨_, (true), qc_, H', ⟨qd_⟩, ⟨(kk_ BK160)⟩, ⟨hB_⟩⟩
 case rest =>
  clear HC3
  obtain ⟨kq, x24_2, rfl, HA, HJ2, BK160, HB⟩ := hcut
  cases kq with
  | zero => exact absurd HA.out (by simp [Z29.j0])
  | succ kj2 =>
   have H := HA.out
   clear HA
   simp only [Z29.j0] at H
   by_cases c15 : x24_2 = true
   ·subst c15
    rw [if_pos rfl] at H
    obtain rfl := Option.some.inj H
    go_wp2
    go_ret
    exact ⟨_, qb_, by first | exact Kd.R_nil _ _ _ _ _ | exact Kd.N_nil _ _ _ _ _ | exact Kd.V_nil _ _ _ _ _ | exact Kd.Q_nil _ _ _ _ _ | exact Kd.S_nil _ _ _ _ _, hB_⟩
   ·replace c15 := Bool.eq_false_iff.mpr c15
    subst c15
    have H1 : (if 0 ≤ (l0_0.length : Int) then (if ((l0_0.length : Int) : Int).toNat ≤ 35184372088832 then ((some (List.replicate ((l0_0.length : Int) : Int).toNat 0 : List Int)).bind fun y162 => (Z29.l0 kj2 a1 y162 (y162.length : Int) 0 l0_0 l0_1)) else (none)) else (none)) = some r := by rw [if_neg (show ¬ (false = true) by decide)] at H; exact H
    clear H
    have H := H1
    clear H1
    have c16 := cp_ H
    replace H := ca_ H
    have c16b0 := eq_true c16
    have c16b1 := oC_ c16
    clear c16
    have c17 := cp_ H
    replace H := ca_ H
    have c17b0 := eq_true c17
    have c17b1 := oC_ c17
    clear c17
    obtain ⟨y162, hy162⟩ : ∃ y_ : List Int, y_ = (List.replicate ((l0_0.length : Int) : Int).toNat 0) := ⟨_, rfl⟩
    replace H : (Z29.l0 kj2 a1 y162 (y162.length : Int) 0 l0_0 l0_1) = some r := by first | (rw [hy162]; exact H) | exact H
    have Ny162 := A_ hy162
    clear hy162
    have H' := A_ H
    clear H
    obtain ⟨hcz18_0, hcz18_1, hfz18_0, hfz18_1⟩ := c2_ BK160
    go_wp2_with (first | ((with_reducible refine gB_ (N := 28) rfl ?_); (try (refine gate_guard (by rfl) ?_; dsimp only)); refine Kd.R_make (Kd.int .i64) _ 3 rfl (N := 28) rfl 23 _ _ rfl (l0_0.length : Int) rfl rfl Try.underlying23 (.int .i64 0) 8 info3 rfl (by decide) (by omega) 0 (ok := fun _ => True) (okp := fun _ => True) rfl (fun _ hk => hk) trivial (oB_ qe_) (Nat.le_trans (Nat.mul_le_mul_right _ (oB_ qe_ : (l0_0.length : Int).toNat ≤ 35184372088832)) (by omega)) (Below.refl _ _) (nA_ _) ?_; intro v163 w19 ho20 hb hg_ hnew_; clear hg_ hnew_; (first | rw [← Ny162.out] at ho20 | (simp only [Int.reduceToNat] at ho20; rw [← Ny162.out] at ho20)); have HO164 := rl_ w ho20; replace BK160 := bb_ BK160 hb; replace HB := b1_ hb; clear hb ho20; obtain ⟨Ao21, co21, eo21⟩ := Kd.R_slice HO164.out; subst eo21))
    go_loopg [31] kj2 (fun kq v31 w' => ∃ (x5_2 : List Int) (x31_2 : Int), v31 = .int .i64 x31_2 ∧ Aside0 (Z29.l0 kq a1 x5_2 (y162.length : Int) x31_2 l0_0 l0_1 = some r) ∧ Aside0 (kq ≤ kj2) ∧ Aside0 (Kd.R (Kd.int .i64) 3 w' w.heap.size (fun _ => True) (.slice Ao21 y162.length co21) x5_2) ∧ Aside0 (w'.heap[gb160]? = some (.cells #[(.slice A0_0 l0_0.length c0_0), (.slice A0_1 l0_1.length c0_1)] 33 (0, 0))) ∧ Aside0 (Below w.heap.size w w'))
    case atStart => exact ⟨(y162), (0), qc_, H', ⟨nA_ _⟩, ⟨(rr_ HO164)⟩, ⟨(kk_ BK160)⟩, ⟨hB_⟩⟩
    case round =>
     clear H'
     obtain ⟨x5_2, x31_2, rfl, HA, HK2, HO_5, BK160, HB⟩ := hrel
     have hl5_2 := (Kd.R_reads' HO_5.out).1
     rw [hl5_2] at HO_5
     (try simp only [hl5_2])
     (try simp only [hl5_2] at BK160)
     cases gk with
     | zero => exact absurd HA.out (by simp [Z29.l0])
     | succ k2 =>
      have H := HA.out
      clear HA
      simp only [Z29.l0] at H
      by_cases c22 : x31_2 < (y162.length : Int)
      ·rw [if_pos c22] at H
       have c22b0 := oC_ c22
       clear c22
       have c23 := cp_ H
       replace H := ca_ H
       have c23b0 := oC_ c23
       clear c23
       have c24 := cp_ H
       replace H := ca_ H
       have c24b0 := oC_ c24
       clear c24
       obtain ⟨y165, hy165⟩ : ∃ y_ : List Int, y_ = (x5_2.set (x31_2 : Int).toNat (-1)) := ⟨_, rfl⟩
       replace H : (Z29.l0 k2 a1 y165 (y162.length : Int) (wrap64 (x31_2 + 1)) l0_0 l0_1) = some r := by first | (rw [hy165]; exact H) | exact H
       have Ny165 := A_ hy165
       clear hy165
       have H' := A_ H
       clear H
       have p25 : 0 ≤ (x31_2 : Int) := oB_ qe_
       have q25 : (x31_2 : Int) < ((x5_2.length : Int) : Int) := oB_ qe_
       obtain ⟨go25, co25, eo25, gb25, gl25, cl25, HG25⟩ := Kd.R_form HO_5.out (by omega)
       (first | cases eo25 | (injection eo25 with ea_ en_ ec_; (first | subst ea_ | (injection ea_ with ea_; subst ea_)); subst ec_; clear en_))
       have GB25 := A_ gb25
       have GG25 := A_ HG25
       clear gb25 gl25 HG25
       obtain ⟨hx25_0, hf25_0⟩ := Kd.R_celln 0 HO_5.out (x31_2 : Int) p25 q25
       replace p25 := eq_true p25
       replace q25 := eq_true q25
       have HP26 := Kd.R_putg HO_5.out (x31_2 : Int) (-1)
       go_wp2_with (first | ((with_reducible refine gate_store (t := 3) (p := 36) rfl ?_); refine store_event (t := 3) (p := 36) (v := ?vo_w27) (w1 := (wr.setCell ⟨go25, (x31_2 : Int).toNat, none⟩ (.int .i64 (-1)))) ?hg ?ho ?hn ?hr ?_; (case ho => rfl); (case hg => rfl); (case hn => rfl); (case hr => first | (go_simp; done) | (go_simp; rfl)); intro w27 hw; have hg : wr.grownBy w27 (some go25) := (by rw [hw]; exact HP26.2); have hp_ : Kd.R (Kd.int .i64) 3 w27 w.heap.size (fun _ => True) (.slice (some ⟨go25, 0, none⟩) x5_2.length co21) y165 := (by rw [hw, Ny165.out]; exact HP26.1); clear HP26; replace BK160 := A_ (blk_grown (kk_ BK160) hg (Kd.R_ne HO_5.out BK160.out (by decide))); replace HO_5 := A_ (hp_); replace HB := A_ ((by rw [hw]; exact bD_ (HB.out) GB25.out : Below w.heap.size w w27)); clear hg hw hp_))
       (try simp only [← hl5_2])
       go_roundg k2
       case measure => have := HJ2.out; have := HK2.out; omega
       case rel => exact ⟨(y165), (wrap64 (x31_2 + 1)), qc_, H', ⟨by have := HJ2.out; have := HK2.out; omega⟩, ⟨by (try simp only [hl5_2]); (with_reducible repeat (first | apply rA_ | apply rB_ | apply rC_)); exact HO_5.out⟩, ⟨by (try simp only [hl5_2]); (with_reducible repeat (first | refine kA_ ?_ _ | refine kB_ ?_ | refine kC_ ?_ _)); exact BK160.out⟩, ⟨hB_⟩⟩
      ·rw [if_neg c22] at H
       have c22b0 := oD_ c22
       (try simp only [hl5_2] at c22b0)
       clear c22
       have c28 := cp_ H
       replace H := ca_ H
       have c28b0 := oC_ c28
       clear c28
       have c29 := cp_ H
       replace H := ca_ H
       have c29b0 := oC_ c29
       clear c29
       obtain ⟨y166, hy166⟩ : ∃ y_ : List Int, y_ = (x5_2.set (a1 : Int).toNat 0) := ⟨_, rfl⟩
       replace H : (Z29.l1 k2 y166 (([a1] : List Int)) 0 l0_0 l0_1) = some r := by first | (rw [hy166]; exact H) | exact H
       have Ny166 := A_ hy166
       clear hy166
       obtain ⟨y167, hy167⟩ : ∃ y_ : List Int, y_ = (([a1] : List Int)) := ⟨_, rfl⟩
       replace H : (Z29.l1 k2 y166 y167 0 l0_0 l0_1) = some r := by first | (rw [hy167]; exact H) | exact H
       have Ny167 := A_ hy167
       clear hy167
       have H' := A_ H
       clear H
       have p30 : 0 ≤ (a1 : Int) := oB_ qe_
       have q30 : (a1 : Int) < ((x5_2.length : Int) : Int) := oB_ qe_
       obtain ⟨go30, co30, eo30, gb30, gl30, cl30, HG30⟩ := Kd.R_form HO_5.out (by omega)
       (first | cases eo30 | (injection eo30 with ea_ en_ ec_; (first | subst ea_ | (injection ea_ with ea_; subst ea_)); subst ec_; clear en_))
       have GB30 := A_ gb30
       have GG30 := A_ HG30
       clear gb30 gl30 HG30
       obtain ⟨hx30_0, hf30_0⟩ := Kd.R_celln 0 HO_5.out (a1 : Int) p30 q30
       replace p30 := eq_true p30
       replace q30 := eq_true q30
       have HP31 := Kd.R_putg HO_5.out (a1 : Int) 0
       go_wp2_with (first | ((with_reducible refine gate_store (t := 3) (p := 40) rfl ?_); refine store_event (t := 3) (p := 40) (v := ?vo_w32) (w1 := (wr.setCell ⟨go30, (a1 : Int).toNat, none⟩ (.int .i64 0))) ?hg ?ho ?hn ?hr ?_; (case ho => rfl); (case hg => rfl); (case hn => rfl); (case hr => first | (go_simp; done) | (go_simp; rfl)); intro w32 hw; have hg : wr.grownBy w32 (some go30) := (by rw [hw]; exact HP31.2); have hp_ : Kd.R (Kd.int .i64) 3 w32 w.heap.size (fun _ => True) (.slice (some ⟨go30, 0, none⟩) x5_2.length co21) y166 := (by rw [hw, Ny166.out]; exact HP31.1); clear HP31; replace BK160 := A_ (blk_grown (kk_ BK160) hg (Kd.R_ne HO_5.out BK160.out (by decide))); replace HO_5 := A_ (hp_); replace HB := A_ ((by rw [hw]; exact bD_ (HB.out) GB30.out : Below w.heap.size w w32)); clear hg hw hp_) | ((with_reducible refine gB_ (N := 42) rfl ?_); (try (refine gate_guard (by rfl) ?_; dsimp only)); refine Kd.R_lit (Kd.int .i64) _ 3 ?hg (N := 42) ?hd (xs := ([a1] : List Int)) (inner := [.int .i64 a1]) (ok := fun _ => True) (okp := fun _ => True) ?hr ?hp (fun _ hk => hk) trivial (Below.refl _ _) (nA_ _) (by simp) ?_; (case hd => rfl); (case hg => rfl); (case hr => first | (go_simp; done) | (go_simp; rfl)); (case hp => exact (Reps.one (show Kd.M (Kd.int .i64) _ _ _ a1 [.int .i64 a1] from rfl) (Reps.none _ _))); intro v168 w33 ho34 hb hg_ hnew_; clear hg_ hnew_; (first | rw [← Ny167.out] at ho34 | (simp only [Int.reduceToNat] at ho34; rw [← Ny167.out] at ho34)); have HO169 := A_ (rE_ (Kd.R_new' ho34 (Kd.R_lt (rr_ HO_5))) (bF_ hB_)); replace HO_5 := A_ (Kd.R_elder' (rr_ HO_5) (Kd.R_base ho34) hb); replace BK160 := bb_ BK160 hb; replace HB := b1_ hb; clear hb ho34))
       go_loopg [7, 8] k2 (fun kq v7 v8 w' => ∃ (x5_3 : List Int) (x7_3 : List Int) (x8_3 : Int), v8 = .int .i64 x8_3 ∧ Aside0 (Z29.l1 kq x5_3 x7_3 x8_3 l0_0 l0_1 = some r) ∧ Aside0 (kq ≤ k2) ∧ Aside0 (Kd.R (Kd.int .i64) 3 w' w.heap.size (fun k_ => some k_ ≠ (v7 : Value).ownBlock) (.slice (some ⟨go30, 0, none⟩) x5_2.length co21) x5_3) ∧ Aside0 (Kd.R (Kd.int .i64) 3 w' w.heap.size (fun k_ => some k_ ≠ ((.slice (some ⟨go30, 0, none⟩) x5_2.length co21) : Value).ownBlock) v7 x7_3) ∧ Aside0 (w'.heap[gb160]? = some (.cells #[(.slice A0_0 l0_0.length c0_0), (.slice A0_1 l0_1.length c0_1)] 33 (0, 0))) ∧ Aside0 (Below w.heap.size w w'))
       case atStart => exact ⟨(y166), (y167), (0), qc_, H', ⟨nA_ _⟩, ⟨by (try simp only [hl5_2]); (with_reducible repeat (first | apply rA_ | apply rB_ | apply rC_)); exact Kd.R_mono HO_5.out (fun _ hk => hk.2)⟩, ⟨by (try simp only [hl5_2]); (with_reducible repeat (first | apply rA_ | apply rB_ | apply rC_)); exact Kd.R_mono HO169.out (fun _ hk => hk.2)⟩, ⟨by (try simp only [hl5_2]); (with_reducible repeat (first | refine kA_ ?_ _ | refine kB_ ?_ | refine kC_ ?_ _)); exact BK160.out⟩, ⟨hB_⟩⟩
       case round =>
        clear H'
        obtain ⟨x5_3, x7_3, x8_3, rfl, HA, HK3, HO_5, HO_7, BK160, HB⟩ := hrel
        have hl5_3 := (Kd.R_reads' HO_5.out).1
        rw [hl5_3] at HO_5
        (try simp only [hl5_3])
        (try simp only [hl5_3] at BK160)
        (try simp only [hl5_3] at HO_7)
        cases gk with
        | zero => exact absurd HA.out (by simp [Z29.l1])
        | succ k3 =>
         have H := HA.out
         clear HA
         simp only [Z29.l1] at H
         by_cases c35 : x8_3 < (x7_3.length : Int)
         ·rw [if_pos c35] at H
          have c35b0 := oC_ c35
          clear c35
          have c36 := cp_ H
          replace H := ca_ H
          have c36b0 := oC_ c36
          clear c36
          have c37 := cp_ H
          replace H := ca_ H
          have c37b0 := oC_ c37
          clear c37
          have c38 := cp_ H
          replace H := ca_ H
          have c38b0 := oC_ c38
          clear c38
          have c39 := cp_ H
          replace H := ca_ H
          have c39b0 := oC_ c39
          clear c39
          obtain ⟨y174, hy174⟩ : ∃ y_ : List Int, y_ = (([rd l0_0 (rd x7_3 x8_3), rd l0_1 (rd x7_3 x8_3)] : List Int)) := ⟨_, rfl⟩
          replace H : (Z29.l2 k3 x5_3 x7_3 x8_3 y174 (y174.length : Int) 0 l0_0 l0_1) = some r := by first | (rw [hy174]; exact H) | exact H
          have Ny174 := A_ hy174
          clear hy174
          have H' := A_ H
          clear H
          obtain ⟨Ao40, co40, eo40⟩ := Kd.R_slice HO_7.out
          subst eo40
          try go_wp2
          replace HO_5 := A_ (rC_ HO_5.out)
          replace HO_7 := A_ (rC_ HO_7.out)
          replace BK160 := A_ (kB_ BK160.out)
          replace HB := A_ (bC_ HB.out)
          have p170 : 0 ≤ (x8_3 : Int) := oB_ qe_
          have q170 : x8_3 < (x7_3.length : Int) := oB_ qe_
          obtain ⟨ad170, e170, hx170_0⟩ := Kd.at_int (Kd.R_reads' HO_7.out).2.2 x8_3 p170 q170
          cases e170
          replace p170 := eq_true p170
          replace q170 := eq_true q170
          have p171 : 0 ≤ ((rd x7_3 x8_3) : Int) := oB_ qe_
          have q171 : (rd x7_3 x8_3) < (l0_0.length : Int) := oB_ qe_
          obtain ⟨ad171, e171, hx171_0⟩ := Kd.at_int HR0_0.out (rd x7_3 x8_3) p171 q171
          have hw171_0 := hx171_0
          cases e171
          replace hx171_0 := (HB.out.cell (World.block_lt_of_cell? w _ hx171_0)).trans hx171_0
          replace p171 := eq_true p171
          replace q171 := eq_true q171
          have p172 : 0 ≤ (x8_3 : Int) := oB_ qe_
          have q172 : x8_3 < (x7_3.length : Int) := oB_ qe_
          obtain ⟨ad172, e172, hx172_0⟩ := Kd.at_int (Kd.R_reads' HO_7.out).2.2 x8_3 p172 q172
          obtain rfl : ad170 = ad172 := (by injection e172)
          replace p172 := eq_true p172
          replace q172 := eq_true q172
          have p173 : 0 ≤ ((rd x7_3 x8_3) : Int) := oB_ qe_
          have q173 : (rd x7_3 x8_3) < (l0_1.length : Int) := oB_ qe_
          obtain ⟨ad173, e173, hx173_0⟩ := Kd.at_int HR0_1.out (rd x7_3 x8_3) p173 q173
          have hw173_0 := hx173_0
          cases e173
          replace hx173_0 := (HB.out.cell (World.block_lt_of_cell? w _ hx173_0)).trans hx173_0
          replace p173 := eq_true p173
          replace q173 := eq_true q173
          refine start_ (n := 19) (S := fun w' => w'.cell? ⟨gb160, 0, none⟩ = some (.slice (some ad171) l0_0.length c0_0) ∧ w'.cell? ⟨gb160, 1, none⟩ = some (.slice (some ad173) l0_1.length c0_1) ∧ w'.cell? (ad170.add (x8_3).toNat) = some (.int .i64 (rd x7_3 x8_3)) ∧ w'.cell? (ad171.add ((rd x7_3 x8_3)).toNat) = some (.int .i64 (rd l0_0 (rd x7_3 x8_3))) ∧ w'.cell? (ad170.add (x8_3).toNat) = some (.int .i64 (rd x7_3 x8_3)) ∧ w'.cell? (ad173.add ((rd x7_3 x8_3)).toNat) = some (.int .i64 (rd l0_1 (rd x7_3 x8_3)))) (ds := []) (bl_ 19 0) (by kernel_rfl) rfl (by kernel_rfl) ⟨cz0_ BK160, cz1_ BK160, hx170_0, ((HB.out.cell (World.block_lt_of_cell? w _ hw171_0)).trans hw171_0), hx172_0, ((HB.out.cell (World.block_lt_of_cell? w _ hw173_0)).trans hw173_0)⟩ (fun hHeld => ?_); refine with_tabW Z29.tab14 Z29.bits14 (fun HT_ HW_ => ?_)
          generalize wr.drew = w41 at HO_5 HO_7 BK160 HB hx170_0 hx171_0 hx172_0 hx173_0 hHeld ⊢
          refine pu_ 0 (some 49) (bl_ 19 1) HT_ ?_
          refine pu_ 2 (some 51) (bl_ 19 5) HT_ ?_
          refine pu_ 3 (some 52) (bl_ 19 13) HT_ ?_
          refine pu_ 4 (some 53) (bl_ 19 29) HT_ ?_
          refine pu_ 8 (some 57) (bl_ 19 285) HT_ ?_
          refine pu_ 10 (some 59) (bl_ 19 1309) HT_ ?_
          refine pu_ 11 (some 60) (bl_ 19 3357) HT_ ?_
          refine pu_ 12 (some 61) (bl_ 19 7453) HT_ ?_
          refine pu_ 18 (some 67) (bl_ 19 269597) HT_ ?_
          refine ta_ 1 (some 50) (bl_ 19 269599) HT_ HW_ hHeld ?_
          refine ta_ 5 (some 54) (bl_ 19 269631) HT_ HW_ hHeld ?_
          refine pu_ 6 (some 55) (bl_ 19 269695) HT_ ?_
          refine ta_ 7 (some 56) (bl_ 19 269823) HT_ HW_ hHeld ?_
          refine ta_ 9 (some 58) (bl_ 19 270335) HT_ HW_ hHeld ?_
          refine ta_ 13 (some 62) (bl_ 19 278527) HT_ HW_ hHeld ?_
          refine pu_ 14 (some 63) (bl_ 19 294911) HT_ ?_
          refine ta_ 15 (some 64) (bl_ 19 327679) HT_ HW_ hHeld ?_
          refine on_ 16 (some 65) (bl_ 19 393215) HT_ (fun K hK => ?_)
          refine Kd.R_lit_step (Kd.int .i64) _ 3 ?hg (N := 65) ?hd (xs := ([rd l0_0 (rd x7_3 x8_3), rd l0_1 (rd x7_3 x8_3)] : List Int)) (inner := [.int .i64 (rd l0_0 (rd x7_3 x8_3)), .int .i64 (rd l0_1 (rd x7_3 x8_3))]) (ok := fun _ => True) (okp := fun _ => True) ?hr ?hp (fun _ hk => hk) trivial (Below.refl _ _) (nA_ _) (by simp) ?_; (case hd => rfl); (case hg => rfl); (case hr => first | (go_simp; done) | (go_simp; rfl)); (case hp => exact (Reps.one (show Kd.M (Kd.int .i64) _ _ _ (rd l0_0 (rd x7_3 x8_3)) [.int .i64 (rd l0_0 (rd x7_3 x8_3))] from rfl) (Reps.one (show Kd.M (Kd.int .i64) _ _ _ (rd l0_1 (rd x7_3 x8_3)) [.int .i64 (rd l0_1 (rd x7_3 x8_3))] from rfl) (Reps.none _ _))))
          intro v175 w42 ho43 hb hg_ hnew_
          have HS2_ := (hb.cell (World.block_lt_of_cell? _ _ (hHeld.2.2.1))).trans (hHeld.2.2.1)
          have HS4_ := (hb.cell (World.block_lt_of_cell? _ _ (hHeld.2.2.2.2.1))).trans (hHeld.2.2.2.2.1)
          clear hg_ hnew_
          (first | rw [← Ny174.out] at ho43 | (simp only [Int.reduceToNat] at ho43; rw [← Ny174.out] at ho43))
          have HO176 := A_ (rE_ (Kd.R_new' (Kd.R_new' ho43 (Kd.R_lt (rr_ HO_5))) (Kd.R_lt (rr_ HO_7))) (bF_ hB_))
          replace HO_5 := A_ (Kd.R_elder' (rr_ HO_5) (Kd.R_base ho43) hb)
          replace HO_7 := A_ (Kd.R_elder' (rr_ HO_7) (Kd.R_base ho43) hb)
          replace BK160 := bb_ BK160 hb
          replace HB := b1_ hb
          clear hb ho43
          obtain ⟨Ao44, co44, eo44⟩ := Kd.R_slice HO176.out
          (first | subst eo44 | (injection eo44 with f1_ f2_ f3_; have f4_ := f1_.symm; have f5_ := f3_.symm; clear f1_ f2_ f3_; subst f4_; subst f5_))
          refine hK.out _ _ ⟨cz0_ BK160, cz1_ BK160, HS2_, ((HB.out.cell (World.block_lt_of_cell? w _ hw171_0)).trans hw171_0), HS4_, ((HB.out.cell (World.block_lt_of_cell? w _ hw173_0)).trans hw173_0)⟩ (fun hHeld => ?_)
          clear hK K
          refine no_ (some 65) ?_
          refine pu_ 17 (some 66) (bl_ 19 524287) HT_ ?_
          refine done_ (done_of HT_.out (by kernel_rfl)) ?_
          try go_wp2
          go_loopg [7, 67] k3 (fun kq v7 v67 w' => ∃ (x5_4 : List Int) (x7_4 : List Int) (x67_4 : Int), v67 = .int .i64 x67_4 ∧ Aside0 (Z29.l2 kq x5_4 x7_4 x8_3 y174 (y174.length : Int) x67_4 l0_0 l0_1 = some r) ∧ Aside0 (kq ≤ k3) ∧ Aside0 (Kd.R (Kd.int .i64) 3 w' w.heap.size (fun k_ => some k_ ≠ (v7 : Value).ownBlock ∧ some k_ ≠ ((.slice Ao44 y174.length co44) : Value).ownBlock) (.slice (some ⟨go30, 0, none⟩) x5_3.length co21) x5_4) ∧ Aside0 (Kd.R (Kd.int .i64) 3 w' w.heap.size (fun k_ => some k_ ≠ ((.slice (some ⟨go30, 0, none⟩) x5_3.length co21) : Value).ownBlock ∧ some k_ ≠ ((.slice Ao44 y174.length co44) : Value).ownBlock) v7 x7_4) ∧ Aside0 (Kd.R (Kd.int .i64) 3 w' w.heap.size (fun k_ => some k_ ≠ ((.slice (some ⟨go30, 0, none⟩) x5_3.length co21) : Value).ownBlock ∧ some k_ ≠ (v7 : Value).ownBlock) (.slice Ao44 y174.length co44) y174) ∧ Aside0 (w'.heap[gb160]? = some (.cells #[(.slice (some ad171) l0_0.length c0_0), (.slice (some ad173) l0_1.length c0_1)] 33 (0, 0))) ∧ Aside0 (Below w.heap.size w w'))
          case atStart => exact ⟨(x5_3), (x7_3), (0), qc_, H', ⟨nA_ _⟩, ⟨by (try simp only [hl5_2]); (try simp only [hl5_3]); (with_reducible repeat (first | apply rA_ | apply rB_ | apply rC_)); exact HO_5.out⟩, ⟨by (try simp only [hl5_2]); (try simp only [hl5_3]); (with_reducible repeat (first | apply rA_ | apply rB_ | apply rC_)); exact HO_7.out⟩, ⟨by (try simp only [hl5_2]); (try simp only [hl5_3]); (with_reducible repeat (first | apply rA_ | apply rB_ | apply rC_)); exact Kd.R_mono HO176.out (fun _ hk => ⟨hk.1.2, hk.2⟩)⟩, ⟨by (try simp only [hl5_2]); (try simp only [hl5_3]); (with_reducible repeat (first | refine kA_ ?_ _ | refine kB_ ?_ | refine kC_ ?_ _)); exact BK160.out⟩, ⟨hB_⟩⟩
          case round =>
           clear H'
           obtain ⟨x5_4, x7_4, x67_4, rfl, HA, HK4, HO_5, HO_7, HO_65, BK160, HB⟩ := hrel
           have hl5_4 := (Kd.R_reads' HO_5.out).1
           rw [hl5_4] at HO_5
           (try simp only [hl5_4])
           (try simp only [hl5_4] at BK160)
           (try simp only [hl5_4] at HO_7)
           (try simp only [hl5_4] at HO_65)
           cases gk with
           | zero => exact absurd HA.out (by simp [Z29.l2])
           | succ k4 =>
            have H := HA.out
            clear HA
            simp only [Z29.l2] at H
            by_cases c45 : x67_4 < (y174.length : Int)
            ·rw [if_pos c45] at H
             have c45b0 := oC_ c45
             clear c45
             have c46 := cp_ H
             replace H := ca_ H
             have c46b0 := oC_ c46
             clear c46
             have c47 := cp_ H
             replace H := ca_ H
             have c47b0 := oC_ c47
             clear c47
             have c48 := cp_ H
             replace H := ca_ H
             have c48b0 := oC_ c48
             clear c48
             have c49 := cp_ H
             replace H := ca_ H
             have c49b0 := oC_ c49
             clear c49
             by_cases c50 : (rd x5_4 (rd y174 x67_4)) < 0
             ·rw [if_pos c50] at H
              have c50b0 := oC_ c50
              clear c50
              obtain ⟨y179, hy179⟩ : ∃ y_ : List Int, y_ = (x5_4.set ((rd y174 x67_4) : Int).toNat (x7_4.length : Int)) := ⟨_, rfl⟩
              replace H : (if x7_4.length < 17592186044416 then (Z29.l2 k4 y179 (x7_4 ++ [rd y174 x67_4]) x8_3 y174 (y174.length : Int) (wrap64 (x67_4 + 1)) l0_0 l0_1) else (none)) = some r := by first | (rw [hy179]; exact H) | exact H
              have Ny179 := A_ hy179
              clear hy179
              have c52 := cp_ H
              replace H := ca_ H
              have LMc52 := A_ c52
              clear c52
              obtain ⟨y180, hy180⟩ : ∃ y_ : List Int, y_ = (x7_4 ++ [rd y174 x67_4]) := ⟨_, rfl⟩
              replace H : (Z29.l2 k4 y179 y180 x8_3 y174 (y174.length : Int) (wrap64 (x67_4 + 1)) l0_0 l0_1) = some r := by first | (rw [hy180]; exact H) | exact H
              have Ny180 := A_ hy180
              clear hy180
              have H' := A_ H
              clear H
              have p177 : 0 ≤ (x67_4 : Int) := oB_ qe_
              have q177 : x67_4 < (y174.length : Int) := oB_ qe_
              obtain ⟨ad177, e177, hx177_0⟩ := Kd.at_int (Kd.R_reads' HO_65.out).2.2 x67_4 p177 q177
              cases e177
              replace p177 := eq_true p177
              replace q177 := eq_true q177
              have p178 : 0 ≤ ((rd y174 x67_4) : Int) := oB_ qe_
              have q178 : (rd y174 x67_4) < (x5_4.length : Int) := oB_ qe_
              obtain ⟨ad178, e178, hx178_0⟩ := Kd.at_int (Kd.R_reads' HO_5.out).2.2 (rd y174 x67_4) p178 q178
              obtain rfl : (⟨go30, 0, none⟩ : Addr) = ad178 := (by injection e178)
              (first | simp only [add_plain] at hx178_0 | simp only [add_at] at hx178_0 | simp only [Addr.add, Nat.zero_add] at hx178_0 | skip)
              replace p178 := eq_true p178
              replace q178 := eq_true q178
              obtain ⟨Ao53, co53, eo53⟩ := Kd.R_slice HO_7.out
              subst eo53
              have p51 : 0 ≤ ((rd y174 x67_4) : Int) := oB_ qe_
              have q51 : ((rd y174 x67_4) : Int) < ((x5_4.length : Int) : Int) := oB_ qe_
              obtain ⟨hx51_0, hf51_0⟩ := Kd.R_celln 0 HO_5.out ((rd y174 x67_4) : Int) p51 q51
              replace p51 := eq_true p51
              replace q51 := eq_true q51
              have HP54 := Kd.R_putg HO_5.out ((rd y174 x67_4) : Int) (x7_4.length : Int)
              go_wp2_with (first | ((with_reducible refine gate_store (t := 3) (p := 80) rfl ?_); refine store_event (t := 3) (p := 80) (v := ?vo_w55) (w1 := (wr.setCell ⟨go30, ((rd y174 x67_4) : Int).toNat, none⟩ (.int .i64 (x7_4.length : Int)))) ?hg ?ho ?hn ?hr ?_; (case ho => rfl); (case hg => rfl); (case hn => rfl); (case hr => first | (go_simp; done) | (go_simp; rfl)); intro w55 hw; have hg : wr.grownBy w55 (some go30) := (by rw [hw]; exact HP54.2); have hp_ : Kd.R (Kd.int .i64) 3 w55 w.heap.size (fun k_ => some k_ ≠ (.slice Ao53 x7_4.length co53 : Value).ownBlock ∧ some k_ ≠ (.slice (some ad177) y174.length co44 : Value).ownBlock) (.slice (some ⟨go30, 0, none⟩) x5_4.length co21) y179 := (by rw [hw, Ny179.out]; exact HP54.1); clear HP54; replace HO_7 := A_ (Kd.R_after (v := (.slice (some ⟨go30, 0, none⟩) x5_4.length co21)) (v1 := (.slice (some ⟨go30, 0, none⟩) x5_4.length co21)) (ok := (fun k_ => some k_ ≠ (.slice (some ad177) y174.length co44 : Value).ownBlock)) (rw_ (Kd.R_mono HO_7.out (fun _ hk => ⟨hk.2, hk.1⟩))) hg (.inl rfl)); replace HO_65 := A_ (Kd.R_after (v := (.slice (some ⟨go30, 0, none⟩) x5_4.length co21)) (v1 := (.slice (some ⟨go30, 0, none⟩) x5_4.length co21)) (ok := (fun k_ => some k_ ≠ (.slice Ao53 x7_4.length co53 : Value).ownBlock)) (rw_ (Kd.R_mono HO_65.out (fun _ hk => ⟨hk.2, hk.1⟩))) hg (.inl rfl)); replace BK160 := A_ (blk_grown (kk_ BK160) hg (Kd.R_ne HO_5.out BK160.out (by decide))); replace HO_5 := A_ (hp_); replace HB := A_ ((by rw [hw]; exact bD_ (HB.out) GB30.out : Below w.heap.size w w55)); clear hg hw hp_) | ((with_reducible refine gate_builtin (b := .append) (xs := #[.tmp 81, .tmp 83]) rfl ?_); (try (refine gate_guard (by rfl) ?_; dsimp only)); at_builtin; refine Kd.R_append (Kd.int .i64) (w0 := w) w.heap.size rfl (.tmp 81) (.tmp 83) 23 3 (.int .i64 0) 8 rfl Try.underlying23 info3 rfl (by decide) (by omega) (.slice Ao53 x7_4.length co53) x7_4 (rd y174 x67_4) [.int .i64 (rd y174 x67_4)] (fun k_ => some k_ ≠ (.slice (some ⟨go30, 0, none⟩) x5_4.length co21 : Value).ownBlock ∧ some k_ ≠ (.slice (some ad177) y174.length co44 : Value).ownBlock) (fun _ => False) rfl rfl ?aP (fun _ hk => hk.elim) ?aF ?aO ?aB ?aS ?aL ?_; (case aP => exact rfl); (case aB => exact hB_); (case aF => exact (fun k_ hk => ⟨Kd.fresh' (Kd.R_lt (rr_ HO_5)) k_ hk, Kd.fresh' (Kd.R_lt (rr_ HO_65)) k_ hk⟩)); (case aO => exact (rw_ (Kd.R_mono HO_7.out (fun _ hk => ⟨hk.2, hk.1⟩)))); (case aS => exact (bF_ hB_)); (case aL => have := LMc52.out; omega); intro v181 w56 ho hb hg hat; rw [← Ny180.out] at ho; replace HO_5 := A_ (Kd.R_after (ok := (fun k_ => some k_ ≠ (.slice (some ad177) y174.length co44 : Value).ownBlock)) (rw_ (Kd.R_mono HO_5.out (fun _ hk => ⟨hk.2, hk.1⟩))) hg hat); replace HO_65 := A_ (Kd.R_after (ok := (fun k_ => some k_ ≠ (.slice (some ⟨go30, 0, none⟩) x5_4.length co21 : Value).ownBlock)) (rw_ (Kd.R_mono HO_65.out (fun _ hk => ⟨hk.2, hk.1⟩))) hg hat); replace BK160 := A_ (blk_grown (kk_ BK160) hg (Kd.R_ne HO_7.out BK160.out (by decide))); replace HB := A_ hb; have HO182 := A_ ho; clear HO_7; clear ho hb hg hat))
              (try simp only [← hl5_4])
              go_roundg k4
              case measure => have := HJ2.out; have := HK2.out; have := HK3.out; have := HK4.out; omega
              case rel => exact ⟨(y179), (y180), (wrap64 (x67_4 + 1)), qc_, H', ⟨by have := HJ2.out; have := HK2.out; have := HK3.out; have := HK4.out; omega⟩, ⟨by (try simp only [hl5_2]); (try simp only [hl5_3]); (try simp only [hl5_4]); (with_reducible repeat (first | apply rA_ | apply rB_ | apply rC_)); exact Kd.R_mono HO_5.out (fun _ hk => ⟨hk.2, hk.1⟩)⟩, ⟨by (try simp only [hl5_2]); (try simp only [hl5_3]); (try simp only [hl5_4]); (with_reducible repeat (first | apply rA_ | apply rB_ | apply rC_)); exact HO182.out⟩, ⟨by (try simp only [hl5_2]); (try simp only [hl5_3]); (try simp only [hl5_4]); (with_reducible repeat (first | apply rA_ | apply rB_ | apply rC_)); exact HO_65.out⟩, ⟨by (try simp only [hl5_2]); (try simp only [hl5_3]); (try simp only [hl5_4]); (with_reducible repeat (first | refine kA_ ?_ _ | refine kB_ ?_ | refine kC_ ?_ _)); exact BK160.out⟩, ⟨hB_⟩⟩
             ·rw [if_neg c50] at H
              have c50b0 := oD_ c50
              clear c50
              have H' := A_ H
              clear H
              have p177 : 0 ≤ (x67_4 : Int) := oB_ qe_
              have q177 : x67_4 < (y174.length : Int) := oB_ qe_
              obtain ⟨ad177, e177, hx177_0⟩ := Kd.at_int (Kd.R_reads' HO_65.out).2.2 x67_4 p177 q177
              cases e177
              replace p177 := eq_true p177
              replace q177 := eq_true q177
              have p178 : 0 ≤ ((rd y174 x67_4) : Int) := oB_ qe_
              have q178 : (rd y174 x67_4) < (x5_4.length : Int) := oB_ qe_
              obtain ⟨ad178, e178, hx178_0⟩ := Kd.at_int (Kd.R_reads' HO_5.out).2.2 (rd y174 x67_4) p178 q178
              obtain rfl : (⟨go30, 0, none⟩ : Addr) = ad178 := (by injection e178)
              (first | simp only [add_plain] at hx178_0 | simp only [add_at] at hx178_0 | simp only [Addr.add, Nat.zero_add] at hx178_0 | skip)
              replace p178 := eq_true p178
              replace q178 := eq_true q178
              go_wp2
              (try simp only [← hl5_4])
              go_roundg k4
              case measure => have := HJ2.out; have := HK2.out; have := HK3.out; have := HK4.out; omega
              case rel => exact ⟨(x5_4), (x7_4), (wrap64 (x67_4 + 1)), qc_, H', ⟨by have := HJ2.out; have := HK2.out; have := HK3.out; have := HK4.out; omega⟩, ⟨by (try simp only [hl5_2]); (try simp only [hl5_3]); (try simp only [hl5_4]); (with_reducible repeat (first | apply rA_ | apply rB_ | apply rC_)); exact HO_5.out⟩, ⟨by (try simp only [hl5_2]); (try simp only [hl5_3]); (try simp only [hl5_4]); (with_reducible repeat (first | apply rA_ | apply rB_ | apply rC_)); exact HO_7.out⟩, ⟨by (try simp only [hl5_2]); (try simp only [hl5_3]); (try simp only [hl5_4]); (with_reducible repeat (first | apply rA_ | apply rB_ | apply rC_)); exact HO_65.out⟩, ⟨by (try simp only [hl5_2]); (try simp only [hl5_3]); (try simp only [hl5_4]); (with_reducible repeat (first | refine kA_ ?_ _ | refine kB_ ?_ | refine kC_ ?_ _)); exact BK160.out⟩, ⟨hB_⟩⟩
            ·rw [if_neg c45] at H
             have c45b0 := oD_ c45
             (try simp only [hl5_4] at c45b0)
             clear c45
             have H' := A_ H
             clear H
             go_wp2
             (try simp only [← hl5_3, ← hl5_4])
             go_roundg k4
             case measure => have := HJ2.out; have := HK2.out; have := HK3.out; have := HK4.out; omega
             case rel => exact ⟨(x5_4), (x7_4), (wrap64 (x8_3 + 1)), qc_, H', ⟨by have := HJ2.out; have := HK2.out; have := HK3.out; have := HK4.out; omega⟩, ⟨by (try simp only [hl5_2]); (try simp only [hl5_3]); (try simp only [hl5_4]); (with_reducible repeat (first | apply rA_ | apply rB_ | apply rC_)); exact Kd.R_mono HO_5.out (fun _ hk => hk.1)⟩, ⟨by (try simp only [hl5_2]); (try simp only [hl5_3]); (try simp only [hl5_4]); (with_reducible repeat (first | apply rA_ | apply rB_ | apply rC_)); exact Kd.R_mono HO_7.out (fun _ hk => hk.1)⟩, ⟨by (try simp only [hl5_2]); (try simp only [hl5_3]); (try simp only [hl5_4]); (with_reducible repeat (first | refine kA_ ?_ _ | refine kB_ ?_ | refine kC_ ?_ _)); exact BK160.out⟩, ⟨hB_⟩⟩
         ·rw [if_neg c35] at H
          have c35b0 := oD_ c35
          clear c35
          obtain rfl := Option.some.inj H
          obtain ⟨Ao57, co57, eo57⟩ := Kd.R_slice HO_7.out
          subst eo57
          go_wp2
          go_ret
          exact ⟨_, qb_, (rw_ (Kd.R_mono HO_5.out (fun _ hk => trivial))), hB_⟩
end Go.Proofs.Ytoijcallajegfaa.A
end
section
namespace Go.Proofs.Ytoijcallajegfaa.A
open Go.RowKit Go.Proofs.YtoijcallajegfaaW.PrintWords Go.Proofs.YtoijcallajegfaaW.PrintLast Go.Proofs.YtoijcallajegfaaW.PrintMore
attribute [local go_sem] max2_int min2_int max_two min_two max_three min_three max_four min_four
set_option linter.unusedVariables false
set_option linter.unusedSimpArgs false
def Z32.l0 : Nat → List (S33) → Int → List Int → List Int → Option ((List (S33)))
 | 0, _, _, _, _ => none
 | k + 1, x3, x4, x184000, x184001 => (Z11.f k x184000 x184001).bind fun t187 => (if x4 < t187 then ((Z29.f k x184000 x184001 x4).bind fun t188 => ((Z8.f k x184000 x184001 t188).bind fun bt191 => (if x3.length < 2932031007402 then (Z32.l0 k (x3 ++ [(⟨bt191.1, bt191.2.1⟩ : S33)]) (wrap64 (x4 + 1)) x184000 x184001) else (none)))) else (some x3))
def Z32.f (k : Nat) (l0_0 : List Int) (l0_1 : List Int) : Option ((List (S33))) := Z32.l0 k (([] : List (S33))) 0 l0_0 l0_1
theorem Z32.mono_l : ∀ k, (∀ y0 y1 y2 y3, LeO (Z32.l0 k y0 y1 y2 y3) (Z32.l0 (k + 1) y0 y1 y2 y3))
 | 0 => fun _ _ _ _ r h => by simp [Z32.l0] at h
 | k + 1 => by
  have ih0 := Z32.mono_l k
  ·intro y0 y1 y2 y3
   unfold Z32.l0
   repeat' first|exact ih0 _ _ _ _|exact Z11.mono _ _ _|exact Z29.mono _ _ _ _|exact Z8.mono _ _ _ _|exact lo_|refine LeO.ite ?_ ?_|refine LeO.bind ?_ (fun _ => ?_)
theorem Z32.mono : ∀ a0 a1 k, LeO (Z32.f k a0 a1) (Z32.f (k + 1) a0 a1) := by
 intro a0 a1 k
 have ih0 := Z32.mono_l k
 unfold Z32.f
 repeat' first|exact ih0 _ _ _ _|exact Z11.mono _ _ _|exact Z29.mono _ _ _ _|exact Z8.mono _ _ _ _|exact lo_|refine LeO.ite ?_ ?_|refine LeO.bind ?_ (fun _ => ?_)
def Z32.T5 : Bool × List (List Nat × List Nat) := (true, [([], []), ([], []), ([], []), ([1, 2], [1, 2]), ([0, 3, 3], [0, 3]), ([4], [4]), ([5], [5]), ([5], [5]), ([], []), ([8, 6, 4, 0, 1, 2, 3, 4, 5, 6, 8], [6, 8]), ([7, 9, 0, 1, 2, 3, 4, 5, 6, 7, 8, 9], [7])])
def Z32.B5 : List Nat := [0, 0, 0, 6, 15, 31, 63, 63, 0, 383, 1023]
theorem Z32.tab5 : rtab .any (opsOf Try.f58 5) = Z32.T5 := by kernel_rfl
theorem Z32.bits5 : waitsOk Z32.T5.2 Z32.B5 = true := by kernel_rfl
set_option maxHeartbeats 8000000 in
set_option maxRecDepth 100000 in
theorem Z32.calls (k : Nat) (A0_0 : Option Addr) (c0_0 : Nat) (l0_0 : List Int) (A0_1 : Option Addr) (c0_1 : Nat) (l0_1 : List Int) (r : List (S33)) (w : World) (hr0_0 : Kd.C (Kd.int .i64) w A0_0 l0_0.length l0_0) (hc0_0 : l0_0.length ≤ c0_0) (hr0_1 : Kd.C (Kd.int .i64) w A0_1 l0_1.length l0_1) (hc0_1 : l0_1.length ≤ c0_1) (h : Z32.f k l0_0 l0_1 = some r) :
  Calls Try.prog 58 #[.agg #[.slice A0_0 l0_0.length c0_0, .slice A0_1 l0_1.length c0_1]] w fun e w' => ∃ v0_ : Value, e = .returned (v0_) ∧ Kd.S k33 33 w' w.heap.size (fun _ => True) v0_ r ∧ Below w.heap.size w w' := by
 have hu33 := Try.underlying33
 have HR0_0 := A_ hr0_0
 have HC0_0 := A_ hc0_0
 clear hr0_0 hc0_0
 have HR0_1 := A_ hr0_1
 have HC0_1 := A_ hc0_1
 clear hr0_1 hc0_1
 have HB := A_ (Below.refl w.heap.size w)
 have H := h
 unfold Z32.f at H
 clear h
 obtain ⟨y184, hy184⟩ : ∃ y_ : List (S33), y_ = (([] : List (S33))) := ⟨_, rfl⟩
 replace H : (Z32.l0 k y184 0 l0_0 l0_1) = some r := by first | (rw [hy184]; exact H) | exact H
 have Ny184 := A_ hy184
 clear hy184
 have H' := A_ H
 clear H
 go_enter Try.func58, Try.ntmps58
 go_wp2_with (first | ((with_reducible refine gB_ (N := 1) rfl ?_); refine bx_ 1 #[.slice A0_0 l0_0.length c0_0, .slice A0_1 l0_1.length c0_1] 33 ?_; intro gb183 hg w2 hbox hb; have BK183 := A_ hbox; have GW183 := gw_ w hg; have GE183 := GW183; replace HB := b1_ hb; clear hb hbox hg) | ((with_reducible refine gB_ (N := 7) rfl ?_); refine Kd.S_lit k33 _ 33 ?hg (N := 7) ?hd (xs := ([] : List (S33))) (inner := []) (ok := fun _ => True) (okp := fun _ => True) ?hr ?hp (fun _ hk => hk) trivial (Below.refl _ _) (nA_ _) (by simp) ?_; (case hd => rfl); (case hg => rfl); (case hr => first | (go_simp; done) | (go_simp; rfl)); (case hp => exact (Reps.none _ _)); intro v185 w3 ho4 hb hg_ hnew_; clear hg_ hnew_; (first | rw [← Ny184.out] at ho4 | (simp only [Int.reduceToNat] at ho4; rw [← Ny184.out] at ho4)); have HO186 := A_ (Kd.S_lower (Kd.S_newB ho4 (kk_ BK183)) (bF_ hB_)); replace BK183 := bb_ BK183 hb; replace HB := b1_ hb; clear hb ho4))
 go_loopg [3, 4] k (fun kq v3 v4 w' => ∃ (x3_1 : List (S33)) (x4_1 : Int), v4 = .int .i64 x4_1 ∧ Aside0 (Z32.l0 kq x3_1 x4_1 l0_0 l0_1 = some r) ∧ Aside0 (kq ≤ k) ∧ Aside0 (Kd.S k33 33 w' w.heap.size (fun k_ => k_ ≠ gb183) v3 x3_1) ∧ Aside0 (w'.heap[gb183]? = some (.cells #[(.slice A0_0 l0_0.length c0_0), (.slice A0_1 l0_1.length c0_1)] 33 (0, 0))) ∧ Aside0 (Below w.heap.size w w'))
 case atStart => exact ⟨(y184), (0), qc_, H', ⟨nA_ _⟩, ⟨(sw_ (Kd.S_mono HO186.out (fun _ hk => hk.2)))⟩, ⟨(kk_ BK183)⟩, ⟨hB_⟩⟩
 case round =>
  clear H'
  obtain ⟨x3_1, x4_1, rfl, HA, HK1, HO_3, BK183, HB⟩ := hrel
  cases gk with
  | zero => exact absurd HA.out (by simp [Z32.l0])
  | succ k1 =>
   have H := HA.out
   clear HA
   simp only [Z32.l0] at H
   obtain ⟨t187, A5, H⟩ := bi_ H
   by_cases c6 : x4_1 < t187
   ·rw [if_pos c6] at H
    have c6b0 := oC_ c6
    clear c6
    obtain ⟨t188, A7, H⟩ := bi_ H
    obtain ⟨⟨t191, t194, t197⟩, A8, H⟩ := bi_ H
    try dsimp only at H
    have c9 := cp_ H
    replace H := ca_ H
    have LMc9 := A_ c9
    clear c9
    obtain ⟨y199, hy199⟩ : ∃ y_ : List (S33), y_ = (x3_1 ++ [(⟨t191, t194⟩ : S33)]) := ⟨_, rfl⟩
    replace H : (Z32.l0 k1 y199 (wrap64 (x4_1 + 1)) l0_0 l0_1) = some r := by first | (rw [hy199]; exact H) | exact H
    have Ny199 := A_ hy199
    clear hy199
    have H' := A_ H
    clear H
    obtain ⟨hcz10_0, hcz10_1, hfz10_0, hfz10_1⟩ := c2_ BK183
    try go_wp2_with (first | ((with_reducible refine gA_ (f := 23) rfl ?_); refine gL_ (some 10) Try.func23 #[.agg #[.slice A0_0 l0_0.length c0_0, .slice A0_1 l0_1.length c0_1]] rfl qa_ ?_; (with_reducible refine (Z11.calls k1 _ _ l0_0 _ _ l0_1 t187 _ (cb_ HR0_0) HC0_0.out (cb_ HR0_1) HC0_1.out A5.out).mono ?_); rintro e w11 ⟨rfl, hb⟩; refine ⟨_, rfl, ?_⟩; replace HO_3 := sb_ HO_3 hb; replace BK183 := bb_ BK183 hb; replace HB := b1_ hb; clear hb))
    replace HO_3 := A_ (Kd.S_drew HO_3.out)
    replace BK183 := A_ (kB_ BK183.out)
    replace HB := A_ (bC_ HB.out)
    refine start_ (n := 11) (S := fun w' => w'.cell? ⟨gb183, 0, none⟩ = some (.slice A0_0 l0_0.length c0_0) ∧ w'.cell? ⟨gb183, 1, none⟩ = some (.slice A0_1 l0_1.length c0_1)) (ds := []) (bl_ 11 0) (by kernel_rfl) rfl (by kernel_rfl) ⟨cz0_ BK183, cz1_ BK183⟩ (fun hHeld => ?_); refine with_tabW Z32.tab5 Z32.bits5 (fun HT_ HW_ => ?_)
    generalize w11.drew = w12 at HO_3 BK183 HB hHeld ⊢
    refine pu_ 2 (some 17) (bl_ 11 4) HT_ ?_
    refine ta_ 0 (some 15) (bl_ 11 5) HT_ HW_ hHeld ?_
    refine ta_ 1 (some 16) (bl_ 11 7) HT_ HW_ hHeld ?_
    refine join_ (σ := Value × Value × Value × Nat) 2 (bl_ 11 511) (fun s_ => [(18, s_.1), (19, .tuple #[.agg #[s_.2.1, s_.2.2.1], .bool t197]), (5, .pointer (some ⟨s_.2.2.2, 0, none⟩)), (14, .tuple #[.agg #[s_.2.1, s_.2.2.1], .bool t197]), (20, .agg #[s_.2.1, s_.2.2.1]), (21, .bool t197)]) (fun s_ w' => (w'.cell? ⟨gb183, 0, none⟩ = some (.slice A0_0 l0_0.length c0_0) ∧ w'.cell? ⟨gb183, 1, none⟩ = some (.slice A0_1 l0_1.length c0_1)) ∧ (Kd.R (Kd.int .i64) 3 w' w.heap.size (fun k_ => some k_ ≠ (s_.2.1 : Value).ownBlock ∧ some k_ ≠ (s_.2.2.1 : Value).ownBlock) s_.1 t188) ∧ (Kd.R (Kd.int .i64) 3 w' w.heap.size (fun k_ => some k_ ≠ (s_.1 : Value).ownBlock ∧ some k_ ≠ (s_.2.2.1 : Value).ownBlock) s_.2.1 t191) ∧ (Kd.R (Kd.int .i64) 3 w' w.heap.size (fun k_ => some k_ ≠ (s_.1 : Value).ownBlock ∧ some k_ ≠ (s_.2.1 : Value).ownBlock) s_.2.2.1 t194) ∧ (Kd.S k33 33 w' w.heap.size (fun k_ => some k_ ≠ (s_.1 : Value).ownBlock ∧ some k_ ≠ (s_.2.1 : Value).ownBlock ∧ some k_ ≠ (s_.2.2.1 : Value).ownBlock ∧ k_ ≠ gb183 ∧ k_ ≠ s_.2.2.2) u3 x3_1) ∧ (w'.heap[gb183]? = some (.cells #[.slice A0_0 l0_0.length c0_0, .slice A0_1 l0_1.length c0_1] 33 (0, 0))) ∧ (w'.heap[s_.2.2.2]? = some (.cells #[.slice none 0 0, .slice none 0 0] 33 (0, 0))) ∧ (w.heap.size ≤ s_.2.2.2) ∧ (w.heap.size ≤ s_.2.2.2) ∧ (gb183 ≠ s_.2.2.2) ∧ (s_.2.2.2 ≠ gb183) ∧ (Below w.heap.size w w')) ?_ ?_
    rotate_left
    ·intro hCont
     refine two_ (i := 3) (j := 8) (Ni := some 18) (Nj := some 5) (bl_ 11 15) (bl_ 11 263) rfl rfl rfl rfl (two_of HT_.out (by kernel_rfl)) (by decide) (by decide) (fun K hK => ?_) (fun K hK => ?_)
     ·skip
      refine gO_ Try.func108 #[.agg #[.slice A0_0 l0_0.length c0_0, .slice A0_1 l0_1.length c0_1], .int .i64 x4_1] (by rfl) rfl rfl qa_ ?_
      with_reducible refine (Z29.calls k1 _ _ l0_0 _ _ l0_1 x4_1 t188 _ (cb_ HR0_0) HC0_0.out (cb_ HR0_1) HC0_1.out A7.out).mono ?_
      rintro e w13 ⟨v189, rfl, ho0, hb⟩
      refine ⟨_, rfl, ?_⟩
      replace HO_3 := A_ (Kd.S_elder' (ss_ HO_3) (Kd.R_base ho0) hb)
      have HO190 := rl_ w ho0
      replace BK183 := bb_ BK183 hb
      replace HB := b1_ hb
      clear hb ho0
      obtain ⟨Ao14, co14, eo14⟩ := Kd.R_slice HO190.out
      (first | subst eo14 | (injection eo14 with f1_ f2_ f3_; have f4_ := f1_.symm; have f5_ := f3_.symm; clear f1_ f2_ f3_; subst f4_; subst f5_))
      refine hK.out _ _ ⟨cz0_ BK183, cz1_ BK183⟩ (fun hHeld => ?_)
      clear hK K
      refine no_ (some 18) ?_
      refine two_ (i := 4) (j := 8) (Ni := some 19) (Nj := some 5) (bl_ 11 31) (bl_ 11 271) rfl rfl rfl rfl (two_of HT_.out (by kernel_rfl)) (by decide) (by decide) (fun K hK => ?_) (fun K hK => ?_)
      ·skip
       refine gO_ Try.func107 #[.agg #[.slice A0_0 l0_0.length c0_0, .slice A0_1 l0_1.length c0_1], .slice Ao14 t188.length co14] (by rfl) rfl rfl qa_ ?_
       with_reducible refine (Z8.calls k1 _ _ l0_0 _ _ l0_1 _ _ t188 t191 t194 t197 _ (cb_ HR0_0) HC0_0.out (cb_ HR0_1) HC0_1.out (cr_ HO190) ((Kd.R_reads' HO190.out).2.1) A8.out).mono ?_
       rintro e w15 ⟨v192, v195, rfl, ho0, ho1, hb⟩
       refine ⟨_, rfl, ?_⟩
       replace HO_3 := A_ (Kd.S_mono (Kd.S_told (Kd.S_told (Kd.S_old (ss_ HO_3) hb) (Kd.R_base ho0)) (Kd.R_base ho1)) (fun _ h_ => h_.1))
       have HO193 := A_ (rE_ (Kd.R_new' ho0 (Kd.R_lt (rr_ HO190))) (bF_ hB_))
       have HO196 := A_ (rE_ (Kd.R_new' ho1 (Kd.R_lt (rr_ HO190))) (bF_ hB_))
       replace HO190 := A_ (Kd.R_mono (Kd.R_told (Kd.R_told (Kd.R_old (rr_ HO190) hb) (Kd.R_base ho0)) (Kd.R_base ho1)) (fun _ h_ => h_.1))
       replace BK183 := bb_ BK183 hb
       replace HB := b1_ hb
       clear hb ho0 ho1
       refine hK.out _ _ ⟨cz0_ BK183, cz1_ BK183⟩ (fun hHeld => ?_)
       clear hK K
       refine no_ (some 19) ?_
       refine pu_ 5 (some 14) (bl_ 11 63) HT_ ?_
       refine pu_ 6 (some 20) (bl_ 11 127) HT_ ?_
       refine pu_ 7 (some 21) (bl_ 11 255) HT_ ?_
       refine on_ 8 (some 5) (bl_ 11 511) HT_ (fun K hK => ?_)
       refine box_step ?hg (N := 5) ?hd (cs := #[.slice none 0 0, .slice none 0 0]) (t := 33) ?hr ?_; (case hd => rfl); (case hg => rfl); (case hr => first | (go_simp; done) | (go_simp; rfl))
       intro gb198 hg w16 hbox hb
       replace HO_3 := A_ (Kd.S_below (Kd.S_elderB (ss_ HO_3) gb198 (Nat.le_of_eq hg.symm)) hb)
       replace HO190 := rb_ HO190 hb
       replace HO193 := rb_ HO193 hb
       replace HO196 := rb_ HO196 hb
       have BK198 := A_ hbox
       have GW198 := gw_ w hg
       have GE198 := GW198
       replace HB := b1_ hb
       have NB183_198 := gN_ BK183 hg
       have NB198_183 := gP_ BK183 hg
       replace BK183 := bb_ BK183 hb
       clear hb hbox hg
       refine hK.out _ _ ⟨cz0_ BK183, cz1_ BK183⟩ (fun hHeld => ?_)
       clear hK K
       refine no_ (some 5) ?_
       exact norm_ (by simp only [putAll, Act.put, sA_, sB_, sC_]) (hCont (.slice Ao14 t188.length co14, v192, v195, gb198) _ ⟨hHeld, (rw_ (Kd.R_mono HO190.out (fun _ hk => ⟨hk.1.2, hk.2⟩))), (rw_ (Kd.R_mono HO193.out (fun _ hk => ⟨hk.2, hk.1⟩))), (rw_ (Kd.R_mono HO196.out (fun _ hk => ⟨hk.2, hk.1⟩))), (sw_ (Kd.S_mono HO_3.out (fun _ hk => ⟨hk.1.1.1.2, ⟨hk.1.1.2, ⟨hk.1.2, ⟨hk.1.1.1.1, hk.2⟩⟩⟩⟩))), (kk_ BK183), (kk_ BK198), GW198.out, GE198.out, NB183_198.out, NB198_183.out, hB_⟩)
      ·skip
       refine box_step ?hg (N := 5) ?hd (cs := #[.slice none 0 0, .slice none 0 0]) (t := 33) ?hr ?_; (case hd => rfl); (case hg => rfl); (case hr => first | (go_simp; done) | (go_simp; rfl))
       intro gb198 hg w14 hbox hb
       replace HO_3 := A_ (Kd.S_below (Kd.S_elderB (ss_ HO_3) gb198 (Nat.le_of_eq hg.symm)) hb)
       replace HO190 := rb_ HO190 hb
       have BK198 := A_ hbox
       have GW198 := gw_ w hg
       have GE198 := GW198
       replace HB := b1_ hb
       have NB183_198 := gN_ BK183 hg
       have NB198_183 := gP_ BK183 hg
       replace BK183 := bb_ BK183 hb
       clear hb hbox hg
       obtain ⟨Ao15, co15, eo15⟩ := Kd.R_slice HO190.out
       (first | subst eo15 | (injection eo15 with f1_ f2_ f3_; have f4_ := f1_.symm; have f5_ := f3_.symm; clear f1_ f2_ f3_; subst f4_; subst f5_))
       refine hK.out _ _ ⟨cz0_ BK183, cz1_ BK183⟩ (fun hHeld => ?_)
       clear hK K
       refine no_ (some 5) ?_
       refine on_ 4 (some 19) (bl_ 11 287) HT_ (fun K hK => ?_)
       refine gO_ Try.func107 #[.agg #[.slice A0_0 l0_0.length c0_0, .slice A0_1 l0_1.length c0_1], .slice Ao15 t188.length co15] (by rfl) rfl rfl qa_ ?_
       with_reducible refine (Z8.calls k1 _ _ l0_0 _ _ l0_1 _ _ t188 t191 t194 t197 _ (cb_ HR0_0) HC0_0.out (cb_ HR0_1) HC0_1.out (cr_ HO190) ((Kd.R_reads' HO190.out).2.1) A8.out).mono ?_
       rintro e w16 ⟨v192, v195, rfl, ho0, ho1, hb⟩
       refine ⟨_, rfl, ?_⟩
       replace HO_3 := A_ (Kd.S_mono (Kd.S_told (Kd.S_told (Kd.S_old (ss_ HO_3) hb) (Kd.R_base ho0)) (Kd.R_base ho1)) (fun _ h_ => h_.1))
       have HO193 := A_ (rE_ (Kd.R_new' ho0 (Kd.R_lt (rr_ HO190))) (bF_ hB_))
       have HO196 := A_ (rE_ (Kd.R_new' ho1 (Kd.R_lt (rr_ HO190))) (bF_ hB_))
       replace HO190 := A_ (Kd.R_mono (Kd.R_told (Kd.R_told (Kd.R_old (rr_ HO190) hb) (Kd.R_base ho0)) (Kd.R_base ho1)) (fun _ h_ => h_.1))
       replace BK183 := bb_ BK183 hb
       replace BK198 := bb_ BK198 hb
       replace HB := b1_ hb
       clear hb ho0 ho1
       refine hK.out _ _ ⟨cz0_ BK183, cz1_ BK183⟩ (fun hHeld => ?_)
       clear hK K
       refine no_ (some 19) ?_
       refine pu_ 5 (some 14) (bl_ 11 319) HT_ ?_
       refine pu_ 6 (some 20) (bl_ 11 383) HT_ ?_
       refine pu_ 7 (some 21) (bl_ 11 511) HT_ ?_
       exact norm_ (by simp only [putAll, Act.put, sA_, sB_, sC_]) (hCont (.slice Ao15 t188.length co15, v192, v195, gb198) _ ⟨hHeld, (rw_ (Kd.R_mono HO190.out (fun _ hk => ⟨hk.1.2, hk.2⟩))), (rw_ (Kd.R_mono HO193.out (fun _ hk => ⟨hk.2, hk.1⟩))), (rw_ (Kd.R_mono HO196.out (fun _ hk => ⟨hk.2, hk.1⟩))), (sw_ (Kd.S_mono HO_3.out (fun _ hk => ⟨hk.1.1.1.2, ⟨hk.1.2, ⟨hk.2, ⟨hk.1.1.1.1, hk.1.1.2⟩⟩⟩⟩))), (kk_ BK183), (kk_ BK198), GW198.out, GE198.out, NB183_198.out, NB198_183.out, hB_⟩)
     ·skip
      refine box_step ?hg (N := 5) ?hd (cs := #[.slice none 0 0, .slice none 0 0]) (t := 33) ?hr ?_; (case hd => rfl); (case hg => rfl); (case hr => first | (go_simp; done) | (go_simp; rfl))
      intro gb198 hg w13 hbox hb
      replace HO_3 := A_ (Kd.S_below (Kd.S_elderB (ss_ HO_3) gb198 (Nat.le_of_eq hg.symm)) hb)
      have BK198 := A_ hbox
      have GW198 := gw_ w hg
      have GE198 := GW198
      replace HB := b1_ hb
      have NB183_198 := gN_ BK183 hg
      have NB198_183 := gP_ BK183 hg
      replace BK183 := bb_ BK183 hb
      clear hb hbox hg
      refine hK.out _ _ ⟨cz0_ BK183, cz1_ BK183⟩ (fun hHeld => ?_)
      clear hK K
      refine no_ (some 5) ?_
      refine on_ 3 (some 18) (bl_ 11 271) HT_ (fun K hK => ?_)
      refine gO_ Try.func108 #[.agg #[.slice A0_0 l0_0.length c0_0, .slice A0_1 l0_1.length c0_1], .int .i64 x4_1] (by rfl) rfl rfl qa_ ?_
      with_reducible refine (Z29.calls k1 _ _ l0_0 _ _ l0_1 x4_1 t188 _ (cb_ HR0_0) HC0_0.out (cb_ HR0_1) HC0_1.out A7.out).mono ?_
      rintro e w14 ⟨v189, rfl, ho0, hb⟩
      refine ⟨_, rfl, ?_⟩
      replace HO_3 := A_ (Kd.S_elder' (ss_ HO_3) (Kd.R_base ho0) hb)
      have HO190 := rl_ w ho0
      replace BK183 := bb_ BK183 hb
      replace BK198 := bb_ BK198 hb
      replace HB := b1_ hb
      clear hb ho0
      obtain ⟨Ao15, co15, eo15⟩ := Kd.R_slice HO190.out
      (first | subst eo15 | (injection eo15 with f1_ f2_ f3_; have f4_ := f1_.symm; have f5_ := f3_.symm; clear f1_ f2_ f3_; subst f4_; subst f5_))
      refine hK.out _ _ ⟨cz0_ BK183, cz1_ BK183⟩ (fun hHeld => ?_)
      clear hK K
      refine no_ (some 18) ?_
      refine on_ 4 (some 19) (bl_ 11 287) HT_ (fun K hK => ?_)
      refine gO_ Try.func107 #[.agg #[.slice A0_0 l0_0.length c0_0, .slice A0_1 l0_1.length c0_1], .slice Ao15 t188.length co15] (by rfl) rfl rfl qa_ ?_
      with_reducible refine (Z8.calls k1 _ _ l0_0 _ _ l0_1 _ _ t188 t191 t194 t197 _ (cb_ HR0_0) HC0_0.out (cb_ HR0_1) HC0_1.out (cr_ HO190) ((Kd.R_reads' HO190.out).2.1) A8.out).mono ?_
      rintro e w16 ⟨v192, v195, rfl, ho0, ho1, hb⟩
      refine ⟨_, rfl, ?_⟩
      replace HO_3 := A_ (Kd.S_mono (Kd.S_told (Kd.S_told (Kd.S_old (ss_ HO_3) hb) (Kd.R_base ho0)) (Kd.R_base ho1)) (fun _ h_ => h_.1))
      have HO193 := A_ (rE_ (Kd.R_new' ho0 (Kd.R_lt (rr_ HO190))) (bF_ hB_))
      have HO196 := A_ (rE_ (Kd.R_new' ho1 (Kd.R_lt (rr_ HO190))) (bF_ hB_))
      replace HO190 := A_ (Kd.R_mono (Kd.R_told (Kd.R_told (Kd.R_old (rr_ HO190) hb) (Kd.R_base ho0)) (Kd.R_base ho1)) (fun _ h_ => h_.1))
      replace BK183 := bb_ BK183 hb
      replace BK198 := bb_ BK198 hb
      replace HB := b1_ hb
      clear hb ho0 ho1
      refine hK.out _ _ ⟨cz0_ BK183, cz1_ BK183⟩ (fun hHeld => ?_)
      clear hK K
      refine no_ (some 19) ?_
      refine pu_ 5 (some 14) (bl_ 11 319) HT_ ?_
      refine pu_ 6 (some 20) (bl_ 11 383) HT_ ?_
      refine pu_ 7 (some 21) (bl_ 11 511) HT_ ?_
      exact norm_ (by simp only [putAll, Act.put, sA_, sB_, sC_]) (hCont (.slice Ao15 t188.length co15, v192, v195, gb198) _ ⟨hHeld, (rw_ (Kd.R_mono HO190.out (fun _ hk => ⟨hk.1.2, hk.2⟩))), (rw_ (Kd.R_mono HO193.out (fun _ hk => ⟨hk.2, hk.1⟩))), (rw_ (Kd.R_mono HO196.out (fun _ hk => ⟨hk.2, hk.1⟩))), (sw_ (Kd.S_mono HO_3.out (fun _ hk => ⟨hk.1.1.2, ⟨hk.1.2, ⟨hk.2, ⟨hk.1.1.1.1, hk.1.1.1.2⟩⟩⟩⟩))), (kk_ BK183), (kk_ BK198), GW198.out, GE198.out, NB183_198.out, NB198_183.out, hB_⟩)
    rintro ⟨v189, v192, v195, gb198⟩ w17 ⟨hS_, h0_, h1_, h2_, h3_, h4_, h5_, h6_, h7_, h8_, h9_, h10_⟩
    have n0_ : Aside0 (Kd.R (Kd.int .i64) 3 w17 w.heap.size (fun k_ => some k_ ≠ (v192 : Value).ownBlock ∧ some k_ ≠ (v195 : Value).ownBlock) v189 t188) := ⟨h0_⟩
    have n1_ : Aside0 (Kd.R (Kd.int .i64) 3 w17 w.heap.size (fun k_ => some k_ ≠ (v189 : Value).ownBlock ∧ some k_ ≠ (v195 : Value).ownBlock) v192 t191) := ⟨h1_⟩
    have n2_ : Aside0 (Kd.R (Kd.int .i64) 3 w17 w.heap.size (fun k_ => some k_ ≠ (v189 : Value).ownBlock ∧ some k_ ≠ (v192 : Value).ownBlock) v195 t194) := ⟨h2_⟩
    have n3_ : Aside0 (Kd.S k33 33 w17 w.heap.size (fun k_ => some k_ ≠ (v189 : Value).ownBlock ∧ some k_ ≠ (v192 : Value).ownBlock ∧ some k_ ≠ (v195 : Value).ownBlock ∧ k_ ≠ gb183 ∧ k_ ≠ gb198) u3 x3_1) := ⟨h3_⟩
    have n4_ : Aside0 (w17.heap[gb183]? = some (.cells #[.slice A0_0 l0_0.length c0_0, .slice A0_1 l0_1.length c0_1] 33 (0, 0))) := ⟨h4_⟩
    have n5_ : Aside0 (w17.heap[gb198]? = some (.cells #[.slice none 0 0, .slice none 0 0] 33 (0, 0))) := ⟨h5_⟩
    have n6_ : Aside0 (w.heap.size ≤ gb198) := ⟨h6_⟩
    have n7_ : Aside0 (w.heap.size ≤ gb198) := ⟨h7_⟩
    have n8_ : Aside0 (gb183 ≠ gb198) := ⟨h8_⟩
    have n9_ : Aside0 (gb198 ≠ gb183) := ⟨h9_⟩
    have n10_ : Aside0 (Below w.heap.size w w17) := ⟨h10_⟩
    clear HO_3
    clear BK183
    clear HB
    clear h0_ h1_ h2_ h3_ h4_ h5_ h6_ h7_ h8_ h9_ h10_
    have HO190 := n0_
    have HO193 := n1_
    have HO196 := n2_
    have HO_3 := n3_
    have BK183 := n4_
    have BK198 := n5_
    have GW198 := n6_
    have GE198 := n7_
    have NB183_198 := n8_
    have NB198_183 := n9_
    have HB := n10_
    clear n0_ n1_ n2_ n3_ n4_ n5_ n6_ n7_ n8_ n9_ n10_
    have hHeld : w17.cell? ⟨gb183, 0, none⟩ = some (.slice A0_0 l0_0.length c0_0) ∧ w17.cell? ⟨gb183, 1, none⟩ = some (.slice A0_1 l0_1.length c0_1) := hS_
    obtain ⟨Ao18, co18, eo18⟩ := Kd.R_slice HO193.out
    (first | subst eo18 | (injection eo18 with f1_ f2_ f3_; have f4_ := f1_.symm; have f5_ := f3_.symm; clear f1_ f2_ f3_; subst f4_; subst f5_))
    obtain ⟨Ao20, co20, eo20⟩ := Kd.R_slice HO196.out
    (first | subst eo20 | (injection eo20 with f1_ f2_ f3_; have f4_ := f1_.symm; have f5_ := f3_.symm; clear f1_ f2_ f3_; subst f4_; subst f5_))
    refine norm_ (a' := ?_) ?_ ?_
    rotate_left
    ·simp only [putAll, Act.put, sA_, sB_, sC_]
     rfl
    refine on_ 9 (none) (bl_ 11 1023) HT_ (fun K hK => ?_)
    have hs19 : w17.cell? ⟨gb198, 0, none⟩ = some (.slice none 0 0) := cz0_ BK198
    have hfs19 := kD_ BK198.out 0
    have hns19_0 := NB183_198.out
    have hms19_0 := NB198_183.out
    have hs21 : w17.cell? ⟨gb198, 1, none⟩ = some (.slice none 0 0) := cz1_ BK198
    have hfs21 := kD_ BK198.out 1
    have hns21_0 := NB183_198.out
    have hms21_0 := NB198_183.out
    refine skip_ (w1 := ?_) (by rfl) rfl ?_ ?_
    rotate_left
    ·go_simp
     rfl
    refine hK.out _ _ ⟨((cell_far (p := ⟨gb198, _, none⟩) NB183_198.out _).trans (((cell_far (p := ⟨gb198, _, none⟩) NB183_198.out _).trans (hHeld.1)))), ((cell_far (p := ⟨gb198, _, none⟩) NB183_198.out _).trans (((cell_far (p := ⟨gb198, _, none⟩) NB183_198.out _).trans (hHeld.2))))⟩ (fun hHeld => ?_)
    clear hK K
    refine pu_ 10 (some 6) (bl_ 11 2047) HT_ ?_
    refine done_ (done_of HT_.out (by kernel_rfl)) ?_
    have n0_ : Aside0 (Kd.S k33 33 ((w17.setCell ⟨gb198, 0, none⟩ (.slice Ao18 t191.length co18)).setCell ⟨gb198, 1, none⟩ (.slice Ao20 t194.length co20)) w.heap.size (fun k_ => some k_ ≠ (v189 : Value).ownBlock ∧ some k_ ≠ (.slice Ao18 t191.length co18 : Value).ownBlock ∧ some k_ ≠ (.slice Ao20 t194.length co20 : Value).ownBlock ∧ k_ ≠ gb183 ∧ k_ ≠ gb198) u3 x3_1) := ⟨(sw_ (Kd.S_mono (Kd.S_far (p := ⟨gb198, 1, none⟩) (Kd.S_far (p := ⟨gb198, 0, none⟩) (Kd.S_mono HO_3.out (fun k_ hk => (⟨hk, hk.2.2.2.2⟩ : _ ∧ k_ ≠ gb198))) (fun _ hk => hk.2) (.slice Ao18 t191.length co18)) (fun _ hk => hk.2) (.slice Ao20 t194.length co20)) (fun _ hk => ⟨hk.1.1, ⟨hk.1.2.1, ⟨hk.1.2.2.1, ⟨hk.1.2.2.2.1, hk.1.2.2.2.2⟩⟩⟩⟩)))⟩
    have n1_ : Aside0 (Kd.R (Kd.int .i64) 3 ((w17.setCell ⟨gb198, 0, none⟩ (.slice Ao18 t191.length co18)).setCell ⟨gb198, 1, none⟩ (.slice Ao20 t194.length co20)) w.heap.size (fun k_ => some k_ ≠ (.slice Ao18 t191.length co18 : Value).ownBlock ∧ some k_ ≠ (.slice Ao20 t194.length co20 : Value).ownBlock) v189 t188) := ⟨(rw_ (Kd.R_mono (Kd.R_far (p := ⟨gb198, 1, none⟩) (Kd.R_far (p := ⟨gb198, 0, none⟩) (Kd.R_types HO190.out BK198.out (by decide)) (fun _ hk => hk.2) (.slice Ao18 t191.length co18)) (fun _ hk => hk.2) (.slice Ao20 t194.length co20)) (fun _ hk => ⟨hk.1.1, hk.1.2⟩)))⟩
    have n2_ : Aside0 (Kd.R (Kd.int .i64) 3 ((w17.setCell ⟨gb198, 0, none⟩ (.slice Ao18 t191.length co18)).setCell ⟨gb198, 1, none⟩ (.slice Ao20 t194.length co20)) w.heap.size (fun k_ => some k_ ≠ (v189 : Value).ownBlock ∧ some k_ ≠ (.slice Ao20 t194.length co20 : Value).ownBlock) (.slice Ao18 t191.length co18) t191) := ⟨(rw_ (Kd.R_mono (Kd.R_far (p := ⟨gb198, 1, none⟩) (Kd.R_far (p := ⟨gb198, 0, none⟩) (Kd.R_types HO193.out BK198.out (by decide)) (fun _ hk => hk.2) (.slice Ao18 t191.length co18)) (fun _ hk => hk.2) (.slice Ao20 t194.length co20)) (fun _ hk => ⟨hk.1.1, hk.1.2⟩)))⟩
    have n3_ : Aside0 (Kd.R (Kd.int .i64) 3 ((w17.setCell ⟨gb198, 0, none⟩ (.slice Ao18 t191.length co18)).setCell ⟨gb198, 1, none⟩ (.slice Ao20 t194.length co20)) w.heap.size (fun k_ => some k_ ≠ (v189 : Value).ownBlock ∧ some k_ ≠ (.slice Ao18 t191.length co18 : Value).ownBlock) (.slice Ao20 t194.length co20) t194) := ⟨(rw_ (Kd.R_mono (Kd.R_far (p := ⟨gb198, 1, none⟩) (Kd.R_far (p := ⟨gb198, 0, none⟩) (Kd.R_types HO196.out BK198.out (by decide)) (fun _ hk => hk.2) (.slice Ao18 t191.length co18)) (fun _ hk => hk.2) (.slice Ao20 t194.length co20)) (fun _ hk => ⟨hk.1.1, hk.1.2⟩)))⟩
    have n4_ : Aside0 (((w17.setCell ⟨gb198, 0, none⟩ (.slice Ao18 t191.length co18)).setCell ⟨gb198, 1, none⟩ (.slice Ao20 t194.length co20)).heap[gb183]? = some (.cells #[.slice A0_0 l0_0.length c0_0, .slice A0_1 l0_1.length c0_1] 33 (0, 0))) := ⟨by (with_reducible repeat (first | refine kA_ ?_ _ | refine kB_ ?_ | refine kC_ ?_ _)); refine blk_far ?_ NB183_198.out _; (with_reducible repeat (first | refine kA_ ?_ _ | refine kB_ ?_ | refine kC_ ?_ _)); refine blk_far ?_ NB183_198.out _; (with_reducible repeat (first | refine kA_ ?_ _ | refine kB_ ?_ | refine kC_ ?_ _)); exact BK183.out⟩
    have n5_ : Aside0 (((w17.setCell ⟨gb198, 0, none⟩ (.slice Ao18 t191.length co18)).setCell ⟨gb198, 1, none⟩ (.slice Ao20 t194.length co20)).heap[gb198]? = some (.cells #[.slice Ao18 t191.length co18, .slice Ao20 t194.length co20] 33 (0, 0))) := ⟨qp_⟩
    have n6_ : Aside0 (Below w.heap.size w ((w17.setCell ⟨gb198, 0, none⟩ (.slice Ao18 t191.length co18)).setCell ⟨gb198, 1, none⟩ (.slice Ao20 t194.length co20))) := ⟨hB_⟩
    skip
    generalize ((w17.setCell ⟨gb198, 0, none⟩ (.slice Ao18 t191.length co18)).setCell ⟨gb198, 1, none⟩ (.slice Ao20 t194.length co20)) = w22 at n0_ n1_ n2_ n3_ n4_ n5_ n6_ ⊢
    have HO_3 := n0_
    have HO190 := n1_
    have HO193 := n2_
    have HO196 := n3_
    have BK183 := n4_
    have BK198 := n5_
    have HB := n6_
    clear n0_ n1_ n2_ n3_ n4_ n5_ n6_
    have hnb23 := NB198_183.out
    have hnc23 := NB183_198.out
    obtain ⟨hcz24_0, hcz24_1, hfz24_0, hfz24_1⟩ := c2_ BK198
    try go_wp2_with (first | ((with_reducible refine gate_builtin (b := .append) (xs := #[.tmp 22, .tmp 24]) rfl ?_); at_builtin; refine Kd.S_append k33 (w0 := w) w.heap.size rfl (.tmp 22) (.tmp 24) 25 33 (.agg #[(.slice none 0 0), (.slice none 0 0)]) 48 rfl Try.underlying25 info33 rfl (by decide) (by omega) u3 x3_1 (⟨t191, t194⟩ : S33) [.slice Ao18 t191.length co18, .slice Ao20 t194.length co20] (fun k_ => some k_ ≠ (v189 : Value).ownBlock ∧ k_ ≠ gb183 ∧ k_ ≠ gb198) (fun k_ => some k_ = (.slice Ao18 t191.length co18 : Value).ownBlock ∨ some k_ = (.slice Ao20 t194.length co20 : Value).ownBlock) rfl rfl ?aP (fun k_ hk_ => hk_.elim (fun h_ => ((Kd.R_mono (ok' := fun k_ => ((fun k_ => some k_ ≠ (v189 : Value).ownBlock ∧ k_ ≠ gb183 ∧ k_ ≠ gb198)) k_ ∧ some k_ ≠ (u3 : Value).ownBlock) (Kd.R_types (Kd.R_types (Kd.R_apart' (HO193.out) (Kd.S_typed HO_3.out) (by decide)) BK183.out (by decide)) BK198.out (by decide)) (fun k_ hk => ⟨⟨hk.1.1.1.1, ⟨hk.1.2, hk.2⟩⟩, hk.1.1.2⟩))).1 k_ h_.symm) (fun h_ => ((Kd.R_mono (ok' := fun k_ => ((fun k_ => some k_ ≠ (v189 : Value).ownBlock ∧ k_ ≠ gb183 ∧ k_ ≠ gb198)) k_ ∧ some k_ ≠ (u3 : Value).ownBlock) (Kd.R_types (Kd.R_types (Kd.R_apart' (HO196.out) (Kd.S_typed HO_3.out) (by decide)) BK183.out (by decide)) BK198.out (by decide)) (fun k_ hk => ⟨⟨hk.1.1.1.1, ⟨hk.1.2, hk.2⟩⟩, hk.1.1.2⟩))).1 k_ h_.symm)) ?aF ?aO ?aB ?aS ?aL ?_; (case aP => exact k33_mkM _ _ _ (⟨t191, t194⟩ : S33) (Kd.R_mono (Kd.R_tight rfl (Kd.R_mono (ok' := fun k_ => ((fun k_ => some k_ ≠ (v189 : Value).ownBlock ∧ k_ ≠ gb183 ∧ k_ ≠ gb198)) k_ ∧ some k_ ≠ (u3 : Value).ownBlock) (Kd.R_types (Kd.R_types (Kd.R_apart' (HO193.out) (Kd.S_typed HO_3.out) (by decide)) BK183.out (by decide)) BK198.out (by decide)) (fun k_ hk => ⟨⟨hk.1.1.1.1, ⟨hk.1.2, hk.2⟩⟩, hk.1.1.2⟩))) (fun _ h_ => Or.inl h_)) (Kd.R_mono (Kd.R_tight rfl (Kd.R_mono (ok' := fun k_ => ((fun k_ => some k_ ≠ (v189 : Value).ownBlock ∧ k_ ≠ gb183 ∧ k_ ≠ gb198)) k_ ∧ some k_ ≠ (u3 : Value).ownBlock) (Kd.R_types (Kd.R_types (Kd.R_apart' (HO196.out) (Kd.S_typed HO_3.out) (by decide)) BK183.out (by decide)) BK198.out (by decide)) (fun k_ hk => ⟨⟨hk.1.1.1.1, ⟨hk.1.2, hk.2⟩⟩, hk.1.1.2⟩))) (fun _ h_ => Or.inr (h_)))); (case aB => exact hB_); (case aF => exact (fun k_ hk => ⟨Kd.fresh' (Kd.R_lt (rr_ HO190)) k_ hk, Kd.freshB (kk_ BK183) k_ hk, Kd.freshB (kk_ BK198) k_ hk⟩)); (case aO => exact (sw_ (Kd.S_mono HO_3.out (fun k_ hk => ⟨⟨hk.1, ⟨hk.2.2.2.1, hk.2.2.2.2⟩⟩, fun e_ => e_.elim (fun h_ => hk.2.1 h_) (fun h_ => hk.2.2.1 h_)⟩)))); (case aS => exact (bF_ hB_)); (case aL => have := LMc9.out; omega); intro v200 w25 ho hb hg hat; rw [← Ny199.out] at ho; replace BK183 := A_ (blk_grown (kk_ BK183) hg (Kd.S_away HO_3.out (fun _ hk => hk.2.2.2.1))); replace HO190 := A_ (Kd.R_over' (rr_ HO190) (Kd.S_typed (ss_ HO_3)) (by decide) hg); replace BK198 := A_ (blk_grown (kk_ BK198) hg (Kd.S_away HO_3.out (fun _ hk => hk.2.2.2.2))); replace HB := A_ hb; have HO201 := A_ ho; clear HO_3 HO193 HO196; clear ho hb hg hat))
    go_roundg k1
    case measure => have := HK1.out; omega
    case rel => exact ⟨(y199), (wrap64 (x4_1 + 1)), qc_, H', ⟨by have := HK1.out; omega⟩, ⟨(sw_ (Kd.S_mono HO201.out (fun _ hk => hk.2.1)))⟩, ⟨(kk_ BK183)⟩, ⟨hB_⟩⟩
   ·rw [if_neg c6] at H
    have c6b0 := oD_ c6
    clear c6
    obtain rfl := Option.some.inj H
    obtain ⟨hcz26_0, hcz26_1, hfz26_0, hfz26_1⟩ := c2_ BK183
    go_wp2_with (first | ((with_reducible refine gA_ (f := 23) rfl ?_); refine gL_ (some 10) Try.func23 #[.agg #[.slice A0_0 l0_0.length c0_0, .slice A0_1 l0_1.length c0_1]] rfl qa_ ?_; (with_reducible refine (Z11.calls k1 _ _ l0_0 _ _ l0_1 t187 _ (cb_ HR0_0) HC0_0.out (cb_ HR0_1) HC0_1.out A5.out).mono ?_); rintro e w27 ⟨rfl, hb⟩; refine ⟨_, rfl, ?_⟩; replace HO_3 := sb_ HO_3 hb; replace BK183 := bb_ BK183 hb; replace HB := b1_ hb; clear hb))
    go_ret
    exact ⟨_, qb_, (sw_ (Kd.S_mono HO_3.out (fun _ hk => trivial))), hB_⟩
def Z34.f (a0 : Int) : Option (Bool) := some (a0 != a0)
set_option maxHeartbeats 8000000 in
set_option maxRecDepth 100000 in
theorem Z34.calls (a0 : Int) (r : Bool) (w : World) (h : Z34.f a0 = some r) :
  Calls Try.prog 149 #[.int .i64 a0] w fun e w' => e = .returned (.bool r) ∧ Drawn0 w w' := by
 have H := h
 unfold Z34.f at H
 clear h
 obtain rfl := Option.some.inj H
 go_enter Try.func149, Try.ntmps149
 go_wp2
 go_ret
 exact ⟨qc_, by repeat (first | exact Drawn0.refl _ | apply Drawn0.step)⟩
def Z23.f (a0 : Int) (a1 : Int) : Option (Int) := (Z34.f a0).bind fun t202 => ((Z34.f a1).bind fun t203 => (if t202 = true then (if t203 = true then (some 0) else (some (-1))) else (if t203 = true then (some 1) else (if a0 < a1 then (some (-1)) else (if a0 > a1 then (some 1) else (some 0))))))
set_option maxHeartbeats 8000000 in
set_option maxRecDepth 100000 in
theorem Z23.calls (a0 : Int) (a1 : Int) (r : Int) (w : World) (h : Z23.f a0 a1 = some r) :
  Calls Try.prog 105 #[.int .i64 a0, .int .i64 a1] w fun e w' => e = .returned (.int .i64 r) ∧ Drawn0 w w' := by
 have H := h
 unfold Z23.f at H
 clear h
 obtain ⟨t202, A3, H⟩ := bi_ H
 obtain ⟨t203, A4, H⟩ := bi_ H
 by_cases c5 : t202 = true
 ·subst c5
  rw [if_pos rfl] at H
  by_cases c6 : t203 = true
  ·subst c6
   rw [if_pos rfl] at H
   obtain rfl := Option.some.inj H
   go_enter Try.func105, Try.ntmps105
   go_wp2_with (first | ((with_reducible refine gA_ (f := 149) rfl ?_); refine gL_ (some 8) Try.func149 #[.int .i64 a0] rfl qa_ ?_; (with_reducible refine (Z34.calls a0 true _ A3.out).mono ?_); rintro e w' ⟨rfl, ⟨nd, rfl⟩⟩; refine ⟨_, rfl, ?_⟩) | ((with_reducible refine gA_ (f := 149) rfl ?_); refine gL_ (some 10) Try.func149 #[.int .i64 a1] rfl qa_ ?_; (with_reducible refine (Z34.calls a1 true _ A4.out).mono ?_); rintro e w' ⟨rfl, ⟨nd, rfl⟩⟩; refine ⟨_, rfl, ?_⟩))
   go_ret
   exact ⟨qc_, by repeat (first | exact Drawn0.refl _ | apply Drawn0.step)⟩
  ·replace c6 := Bool.eq_false_iff.mpr c6
   subst c6
   have H1 : (some (-1)) = some r := by rw [if_neg (show ¬ (false = true) by decide)] at H; exact H
   clear H
   have H := H1
   clear H1
   obtain rfl := Option.some.inj H
   go_enter Try.func105, Try.ntmps105
   go_wp2_with (first | ((with_reducible refine gA_ (f := 149) rfl ?_); refine gL_ (some 8) Try.func149 #[.int .i64 a0] rfl qa_ ?_; (with_reducible refine (Z34.calls a0 true _ A3.out).mono ?_); rintro e w' ⟨rfl, ⟨nd, rfl⟩⟩; refine ⟨_, rfl, ?_⟩) | ((with_reducible refine gA_ (f := 149) rfl ?_); refine gL_ (some 10) Try.func149 #[.int .i64 a1] rfl qa_ ?_; (with_reducible refine (Z34.calls a1 false _ A4.out).mono ?_); rintro e w' ⟨rfl, ⟨nd, rfl⟩⟩; refine ⟨_, rfl, ?_⟩))
   go_ret
   exact ⟨qc_, by repeat (first | exact Drawn0.refl _ | apply Drawn0.step)⟩
 ·replace c5 := Bool.eq_false_iff.mpr c5
  subst c5
  have H1 : (if t203 = true then (some 1) else (if a0 < a1 then (some (-1)) else (if a0 > a1 then (some 1) else (some 0)))) = some r := by rw [if_neg (show ¬ (false = true) by decide)] at H; exact H
  clear H
  have H := H1
  clear H1
  by_cases c7 : t203 = true
  ·subst c7
   rw [if_pos rfl] at H
   obtain rfl := Option.some.inj H
   go_enter Try.func105, Try.ntmps105
   go_wp2_with (first | ((with_reducible refine gA_ (f := 149) rfl ?_); refine gL_ (some 8) Try.func149 #[.int .i64 a0] rfl qa_ ?_; (with_reducible refine (Z34.calls a0 false _ A3.out).mono ?_); rintro e w' ⟨rfl, ⟨nd, rfl⟩⟩; refine ⟨_, rfl, ?_⟩) | ((with_reducible refine gA_ (f := 149) rfl ?_); refine gL_ (some 10) Try.func149 #[.int .i64 a1] rfl qa_ ?_; (with_reducible refine (Z34.calls a1 true _ A4.out).mono ?_); rintro e w' ⟨rfl, ⟨nd, rfl⟩⟩; refine ⟨_, rfl, ?_⟩))
   go_ret
   exact ⟨qc_, by repeat (first | exact Drawn0.refl _ | apply Drawn0.step)⟩
  ·replace c7 := Bool.eq_false_iff.mpr c7
   subst c7
   have H1 : (if a0 < a1 then (some (-1)) else (if a0 > a1 then (some 1) else (some 0))) = some r := by rw [if_neg (show ¬ (false = true) by decide)] at H; exact H
   clear H
   have H := H1
   clear H1
   by_cases c8 : a0 < a1
   ·rw [if_pos c8] at H
    have c8b0 := oC_ c8
    clear c8
    obtain rfl := Option.some.inj H
    go_enter Try.func105, Try.ntmps105
    go_wp2_with (first | ((with_reducible refine gA_ (f := 149) rfl ?_); refine gL_ (some 8) Try.func149 #[.int .i64 a0] rfl qa_ ?_; (with_reducible refine (Z34.calls a0 false _ A3.out).mono ?_); rintro e w' ⟨rfl, ⟨nd, rfl⟩⟩; refine ⟨_, rfl, ?_⟩) | ((with_reducible refine gA_ (f := 149) rfl ?_); refine gL_ (some 10) Try.func149 #[.int .i64 a1] rfl qa_ ?_; (with_reducible refine (Z34.calls a1 false _ A4.out).mono ?_); rintro e w' ⟨rfl, ⟨nd, rfl⟩⟩; refine ⟨_, rfl, ?_⟩))
    go_ret
    exact ⟨qc_, by repeat (first | exact Drawn0.refl _ | apply Drawn0.step)⟩
   ·rw [if_neg c8] at H
    have c8b0 := oD_ c8
    clear c8
    by_cases c9 : a0 > a1
    ·rw [if_pos c9] at H
     have c9b0 : decide (a1 < a0) = true := oC_ c9
     clear c9
     obtain rfl := Option.some.inj H
     go_enter Try.func105, Try.ntmps105
     go_wp2_with (first | ((with_reducible refine gA_ (f := 149) rfl ?_); refine gL_ (some 8) Try.func149 #[.int .i64 a0] rfl qa_ ?_; (with_reducible refine (Z34.calls a0 false _ A3.out).mono ?_); rintro e w' ⟨rfl, ⟨nd, rfl⟩⟩; refine ⟨_, rfl, ?_⟩) | ((with_reducible refine gA_ (f := 149) rfl ?_); refine gL_ (some 10) Try.func149 #[.int .i64 a1] rfl qa_ ?_; (with_reducible refine (Z34.calls a1 false _ A4.out).mono ?_); rintro e w' ⟨rfl, ⟨nd, rfl⟩⟩; refine ⟨_, rfl, ?_⟩))
     go_ret
     exact ⟨qc_, by repeat (first | exact Drawn0.refl _ | apply Drawn0.step)⟩
    ·rw [if_neg c9] at H
     have c9b0 : decide (a1 < a0) = false := oD_ c9
     clear c9
     obtain rfl := Option.some.inj H
     go_enter Try.func105, Try.ntmps105
     go_wp2_with (first | ((with_reducible refine gA_ (f := 149) rfl ?_); refine gL_ (some 8) Try.func149 #[.int .i64 a0] rfl qa_ ?_; (with_reducible refine (Z34.calls a0 false _ A3.out).mono ?_); rintro e w' ⟨rfl, ⟨nd, rfl⟩⟩; refine ⟨_, rfl, ?_⟩) | ((with_reducible refine gA_ (f := 149) rfl ?_); refine gL_ (some 10) Try.func149 #[.int .i64 a1] rfl qa_ ?_; (with_reducible refine (Z34.calls a1 false _ A4.out).mono ?_); rintro e w' ⟨rfl, ⟨nd, rfl⟩⟩; refine ⟨_, rfl, ?_⟩))
     go_ret
     exact ⟨qc_, by repeat (first | exact Drawn0.refl _ | apply Drawn0.step)⟩
def Z1.l0 : Nat → List Int → List Int → List Int → Int → Int → Option (Int)
 | 0, _, _, _, _, _ => none
 | k + 1, x0, x1, x9, x10, x11 => if x11 < x10 then (if 0 ≤ x11 then (if x11 < (x9.length : Int) then (if x11 ≥ (x1.length : Int) then (some 1) else (if x11 < (x1.length : Int) then ((Z23.f (rd x9 x11) (rd x1 x11)).bind fun t206 => (if t206 = 0 then (Z1.l0 k x0 x1 x9 x10 (wrap64 (x11 + 1))) else (some t206))) else (none))) else (none)) else (none)) else (if (x0.length : Int) < (x1.length : Int) then (some (-1)) else (some 0))
def Z1.f (k : Nat) (l0 : List Int) (l1 : List Int) : Option (Int) := Z1.l0 k l0 l1 l0 (l0.length : Int) 0
theorem Z1.mono_l : ∀ k, (∀ y0 y1 y2 y3 y4, LeO (Z1.l0 k y0 y1 y2 y3 y4) (Z1.l0 (k + 1) y0 y1 y2 y3 y4))
 | 0 => fun _ _ _ _ _ r h => by simp [Z1.l0] at h
 | k + 1 => by
  have ih0 := Z1.mono_l k
  ·intro y0 y1 y2 y3 y4
   unfold Z1.l0
   repeat' first|exact ih0 _ _ _ _ _|exact lo_|refine LeO.ite ?_ ?_|refine LeO.bind ?_ (fun _ => ?_)
theorem Z1.mono : ∀ a0 a1 k, LeO (Z1.f k a0 a1) (Z1.f (k + 1) a0 a1) := by
 intro a0 a1 k
 have ih0 := Z1.mono_l k
 unfold Z1.f
 repeat' first|exact ih0 _ _ _ _ _|exact lo_|refine LeO.ite ?_ ?_|refine LeO.bind ?_ (fun _ => ?_)
set_option maxHeartbeats 8000000 in
set_option maxRecDepth 100000 in
theorem Z1.calls (k : Nat) (A0 : Option Addr) (c0 : Nat) (l0 : List Int) (A1 : Option Addr) (c1 : Nat) (l1 : List Int) (r : Int) (w : World) (hr0 : Kd.C (Kd.int .i64) w A0 l0.length l0) (hc0 : l0.length ≤ c0) (hr1 : Kd.C (Kd.int .i64) w A1 l1.length l1) (hc1 : l1.length ≤ c1) (h : Z1.f k l0 l1 = some r) :
  Calls Try.prog 54 #[.slice A0 l0.length c0, .slice A1 l1.length c1] w fun e w' => e = .returned (.int .i64 r) ∧ Drawn0 w w' := by
 have HR0 := A_ hr0
 have HC0 := A_ hc0
 clear hr0 hc0
 have HR1 := A_ hr1
 have HC1 := A_ hc1
 clear hr1 hc1
 have H := h
 unfold Z1.f at H
 clear h
 have H' := A_ H
 clear H
 go_enter Try.func54, Try.ntmps54
 go_wp2
 go_loopg [11] k (fun kq v11 w' => ∃ (x11_1 : Int), v11 = .int .i64 x11_1 ∧ Aside0 (Z1.l0 kq l0 l1 l0 (l0.length : Int) x11_1 = some r) ∧ Aside0 (kq ≤ k) ∧ Drawn0 w w')
 case atStart => exact ⟨(0), qc_, H', ⟨nA_ _⟩, by repeat (first | exact Drawn0.refl _ | apply Drawn0.step)⟩
 case round =>
  clear H'
  obtain ⟨x11_1, rfl, HA, HK1, ⟨m1, rfl⟩⟩ := hrel
  cases gk with
  | zero => exact absurd HA.out (by simp [Z1.l0])
  | succ k1 =>
   have H := HA.out
   clear HA
   simp only [Z1.l0] at H
   by_cases c3 : x11_1 < (l0.length : Int)
   ·rw [if_pos c3] at H
    have c3b0 := oC_ c3
    clear c3
    have c4 := cp_ H
    replace H := ca_ H
    have c4b0 := oC_ c4
    clear c4
    have c5 := cp_ H
    replace H := ca_ H
    have c5b0 := oC_ c5
    clear c5
    by_cases c6 : x11_1 ≥ (l1.length : Int)
    ·rw [if_pos c6] at H
     have c6b0 : decide ((l1.length : Int) ≤ x11_1) = true := oC_ c6
     clear c6
     obtain rfl := Option.some.inj H
     have p204 : 0 ≤ (x11_1 : Int) := oB_ qe_
     have q204 : x11_1 < (l0.length : Int) := oB_ qe_
     obtain ⟨ad204, e204, hx204_0⟩ := Kd.at_int HR0.out x11_1 p204 q204
     cases e204
     replace p204 := eq_true p204
     replace q204 := eq_true q204
     go_wp2
     go_ret
     exact ⟨qc_, by repeat (first | exact Drawn0.refl _ | apply Drawn0.step)⟩
    ·rw [if_neg c6] at H
     have c6b0 : decide ((l1.length : Int) ≤ x11_1) = false := oD_ c6
     clear c6
     have c7 := cp_ H
     replace H := ca_ H
     have c7b0 := oC_ c7
     clear c7
     obtain ⟨t206, A8, H⟩ := bi_ H
     by_cases c9 : t206 = 0
     ·rw [if_pos c9] at H
      have c9b0 : (t206 == 0) = true := beq_iff_eq.mpr c9
      have c9b1 : (t206 != 0) = false := bne_eq_false_iff_eq.mpr c9
      clear c9
      have H' := A_ H
      clear H
      have p204 : 0 ≤ (x11_1 : Int) := oB_ qe_
      have q204 : x11_1 < (l0.length : Int) := oB_ qe_
      obtain ⟨ad204, e204, hx204_0⟩ := Kd.at_int HR0.out x11_1 p204 q204
      cases e204
      replace p204 := eq_true p204
      replace q204 := eq_true q204
      have p205 : 0 ≤ (x11_1 : Int) := oB_ qe_
      have q205 : x11_1 < (l1.length : Int) := oB_ qe_
      obtain ⟨ad205, e205, hx205_0⟩ := Kd.at_int HR1.out x11_1 p205 q205
      cases e205
      replace p205 := eq_true p205
      replace q205 := eq_true q205
      go_wp2_with (first | ((with_reducible refine gA_ (f := 105) rfl ?_); refine gL_ (some 26) Try.func105 #[.int .i64 (rd l0 x11_1), .int .i64 (rd l1 x11_1)] rfl qa_ ?_; (with_reducible refine (Z23.calls (rd l0 x11_1) (rd l1 x11_1) t206 _ A8.out).mono ?_); rintro e w' ⟨rfl, ⟨nd, rfl⟩⟩; refine ⟨_, rfl, ?_⟩))
      go_roundg k1
      case measure => have := HK1.out; omega
      case rel => exact ⟨(wrap64 (x11_1 + 1)), qc_, H', ⟨by have := HK1.out; omega⟩, by repeat (first | exact Drawn0.refl _ | apply Drawn0.step)⟩
     ·rw [if_neg c9] at H
      have c9b0 : (t206 == 0) = false := beq_eq_false_iff_ne.mpr c9
      have c9b1 : (t206 != 0) = true := bne_iff_ne.mpr c9
      obtain rfl := Option.some.inj H
      have p204 : 0 ≤ (x11_1 : Int) := oB_ qe_
      have q204 : x11_1 < (l0.length : Int) := oB_ qe_
      obtain ⟨ad204, e204, hx204_0⟩ := Kd.at_int HR0.out x11_1 p204 q204
      cases e204
      replace p204 := eq_true p204
      replace q204 := eq_true q204
      have p205 : 0 ≤ (x11_1 : Int) := oB_ qe_
      have q205 : x11_1 < (l1.length : Int) := oB_ qe_
      obtain ⟨ad205, e205, hx205_0⟩ := Kd.at_int HR1.out x11_1 p205 q205
      cases e205
      replace p205 := eq_true p205
      replace q205 := eq_true q205
      go_wp2_with (first | ((with_reducible refine gA_ (f := 105) rfl ?_); refine gL_ (some 26) Try.func105 #[.int .i64 (rd l0 x11_1), .int .i64 (rd l1 x11_1)] rfl qa_ ?_; (with_reducible refine (Z23.calls (rd l0 x11_1) (rd l1 x11_1) t206 _ A8.out).mono ?_); rintro e w' ⟨rfl, ⟨nd, rfl⟩⟩; refine ⟨_, rfl, ?_⟩))
      go_ret
      exact ⟨qc_, by repeat (first | exact Drawn0.refl _ | apply Drawn0.step)⟩
   ·rw [if_neg c3] at H
    have c3b0 := oD_ c3
    clear c3
    by_cases c10 : (l0.length : Int) < (l1.length : Int)
    ·rw [if_pos c10] at H
     have c10b0 := oC_ c10
     have c10b1 : decide (l0.length < l1.length) = true := oC_ (Int.ofNat_lt.mp c10)
     clear c10
     obtain rfl := Option.some.inj H
     go_wp2
     go_ret
     exact ⟨qc_, by repeat (first | exact Drawn0.refl _ | apply Drawn0.step)⟩
    ·rw [if_neg c10] at H
     have c10b0 := oD_ c10
     have c10b1 : decide (l0.length < l1.length) = false := oD_ (fun h => c10 (Int.ofNat_lt.mpr h))
     clear c10
     obtain rfl := Option.some.inj H
     go_wp2
     go_ret
     exact ⟨qc_, by repeat (first | exact Drawn0.refl _ | apply Drawn0.step)⟩
def Z4.f (k : Nat) (l0_0 : List Int) (l0_1 : List Int) (l1_0 : List Int) (l1_1 : List Int) : Option (Int) := (Z1.f k l0_0 l1_0).bind fun t209 => (if t209 = 0 then ((Z1.f k l0_1 l1_1).bind fun t210 => (some t210)) else (some t209))
theorem Z4.mono : ∀ a0 a1 a2 a3 k, LeO (Z4.f k a0 a1 a2 a3) (Z4.f (k + 1) a0 a1 a2 a3) := by
 intro a0 a1 a2 a3 k
 unfold Z4.f
 repeat' first|exact Z1.mono _ _ _|exact lo_|refine LeO.ite ?_ ?_|refine LeO.bind ?_ (fun _ => ?_)
set_option maxHeartbeats 8000000 in
set_option maxRecDepth 100000 in
theorem Z4.calls (k : Nat) (A0_0 : Option Addr) (c0_0 : Nat) (l0_0 : List Int) (A0_1 : Option Addr) (c0_1 : Nat) (l0_1 : List Int) (A1_0 : Option Addr) (c1_0 : Nat) (l1_0 : List Int) (A1_1 : Option Addr) (c1_1 : Nat) (l1_1 : List Int) (r : Int) (w : World) (hr0_0 : Kd.C (Kd.int .i64) w A0_0 l0_0.length l0_0) (hc0_0 : l0_0.length ≤ c0_0) (hr0_1 : Kd.C (Kd.int .i64) w A0_1 l0_1.length l0_1) (hc0_1 : l0_1.length ≤ c0_1) (hr1_0 : Kd.C (Kd.int .i64) w A1_0 l1_0.length l1_0) (hc1_0 : l1_0.length ≤ c1_0) (hr1_1 : Kd.C (Kd.int .i64) w A1_1 l1_1.length l1_1) (hc1_1 : l1_1.length ≤ c1_1) (h : Z4.f k l0_0 l0_1 l1_0 l1_1 = some r) :
  Calls Try.prog 60 #[.agg #[.slice A0_0 l0_0.length c0_0, .slice A0_1 l0_1.length c0_1], .agg #[.slice A1_0 l1_0.length c1_0, .slice A1_1 l1_1.length c1_1]] w fun e w' => e = .returned (.int .i64 r) ∧ Below w.heap.size w w' := by
 have hu33 := Try.underlying33
 have HR0_0 := A_ hr0_0
 have HC0_0 := A_ hc0_0
 clear hr0_0 hc0_0
 have HR0_1 := A_ hr0_1
 have HC0_1 := A_ hc0_1
 clear hr0_1 hc0_1
 have HR1_0 := A_ hr1_0
 have HC1_0 := A_ hc1_0
 clear hr1_0 hc1_0
 have HR1_1 := A_ hr1_1
 have HC1_1 := A_ hc1_1
 clear hr1_1 hc1_1
 have HB := A_ (Below.refl w.heap.size w)
 have H := h
 unfold Z4.f at H
 clear h
 obtain ⟨t209, A3, H⟩ := bi_ H
 by_cases c4 : t209 = 0
 ·rw [if_pos c4] at H
  have c4b0 : (t209 == 0) = true := beq_iff_eq.mpr c4
  have c4b1 : (t209 != 0) = false := bne_eq_false_iff_eq.mpr c4
  clear c4
  obtain ⟨t210, A5, H⟩ := bi_ H
  obtain rfl := Option.some.inj H
  go_enter Try.func60, Try.ntmps60
  go_wp2_with (first | ((with_reducible refine gB_ (N := 2) rfl ?_); refine bx_ 2 #[.slice A0_0 l0_0.length c0_0, .slice A0_1 l0_1.length c0_1] 33 ?_; intro gb207 hg w6 hbox hb; have BK207 := A_ hbox; have GW207 := gw_ w hg; have GE207 := GW207; replace HB := b1_ hb; clear hb hbox hg) | ((with_reducible refine gB_ (N := 3) rfl ?_); refine bx_ 3 #[.slice A1_0 l1_0.length c1_0, .slice A1_1 l1_1.length c1_1] 33 ?_; intro gb208 hg w7 hbox hb; have BK208 := A_ hbox; have GW208 := gw_ w hg; have GE208 := GW208; replace HB := b1_ hb; have NB207_208 := gN_ BK207 hg; have NB208_207 := gP_ BK207 hg; replace BK207 := bb_ BK207 hb; clear hb hbox hg; have hnb8 := NB207_208.out; have hnc8 := NB208_207.out; obtain ⟨hcz9_0, hcz9_1, hfz9_0, hfz9_1⟩ := c2_ BK207; obtain ⟨hcz10_0, hcz10_1, hfz10_0, hfz10_1⟩ := c2_ BK208) | ((with_reducible refine gA_ (f := 54) rfl ?_); refine gL_ (some 10) Try.func54 #[.slice A0_0 l0_0.length c0_0, .slice A1_0 l1_0.length c1_0] rfl qa_ ?_; (with_reducible refine (Z1.calls k _ _ l0_0 _ _ l1_0 t209 _ (cb_ HR0_0) HC0_0.out (cb_ HR1_0) HC1_0.out A3.out).mono ?_); rintro e w' ⟨rfl, ⟨nd, rfl⟩⟩; refine ⟨_, rfl, ?_⟩) | ((with_reducible refine gA_ (f := 54) rfl ?_); refine gL_ (some 18) Try.func54 #[.slice A0_1 l0_1.length c0_1, .slice A1_1 l1_1.length c1_1] rfl qa_ ?_; (with_reducible refine (Z1.calls k _ _ l0_1 _ _ l1_1 t210 _ (cw_ (cD_ HR0_1.out hB_)) HC0_1.out (cw_ (cD_ HR1_1.out hB_)) HC1_1.out A5.out).mono ?_); rintro e w' ⟨rfl, ⟨nd, rfl⟩⟩; refine ⟨_, rfl, ?_⟩))
  go_ret
  exact ⟨qb_, hB_⟩
 ·rw [if_neg c4] at H
  have c4b0 : (t209 == 0) = false := beq_eq_false_iff_ne.mpr c4
  have c4b1 : (t209 != 0) = true := bne_iff_ne.mpr c4
  obtain rfl := Option.some.inj H
  go_enter Try.func60, Try.ntmps60
  go_wp2_with (first | ((with_reducible refine gB_ (N := 2) rfl ?_); refine bx_ 2 #[.slice A0_0 l0_0.length c0_0, .slice A0_1 l0_1.length c0_1] 33 ?_; intro gb207 hg w11 hbox hb; have BK207 := A_ hbox; have GW207 := gw_ w hg; have GE207 := GW207; replace HB := b1_ hb; clear hb hbox hg) | ((with_reducible refine gB_ (N := 3) rfl ?_); refine bx_ 3 #[.slice A1_0 l1_0.length c1_0, .slice A1_1 l1_1.length c1_1] 33 ?_; intro gb208 hg w12 hbox hb; have BK208 := A_ hbox; have GW208 := gw_ w hg; have GE208 := GW208; replace HB := b1_ hb; have NB207_208 := gN_ BK207 hg; have NB208_207 := gP_ BK207 hg; replace BK207 := bb_ BK207 hb; clear hb hbox hg; have hnb13 := NB207_208.out; have hnc13 := NB208_207.out; obtain ⟨hcz14_0, hcz14_1, hfz14_0, hfz14_1⟩ := c2_ BK207; obtain ⟨hcz15_0, hcz15_1, hfz15_0, hfz15_1⟩ := c2_ BK208) | ((with_reducible refine gA_ (f := 54) rfl ?_); refine gL_ (some 10) Try.func54 #[.slice A0_0 l0_0.length c0_0, .slice A1_0 l1_0.length c1_0] rfl qa_ ?_; (with_reducible refine (Z1.calls k _ _ l0_0 _ _ l1_0 t209 _ (cb_ HR0_0) HC0_0.out (cb_ HR1_0) HC1_0.out A3.out).mono ?_); rintro e w' ⟨rfl, ⟨nd, rfl⟩⟩; refine ⟨_, rfl, ?_⟩))
  go_ret
  exact ⟨qb_, hB_⟩
def Z25.l0 : Nat → List (S33) → Int → List Int → List Int → Option (List Int × List Int)
 | 0, _, _, _, _ => none
 | k + 1, x0, x6, x214000, x214001 => if x6 < (x0.length : Int) then (if 0 ≤ x6 then ((Z4.f k ((rd_T33 x0 x6).f0) ((rd_T33 x0 x6).f1) x214000 x214001).bind fun t215 => (if t215 < 0 then (Z25.l0 k x0 (wrap64 (x6 + 1)) ((rd_T33 x0 x6).f0) ((rd_T33 x0 x6).f1)) else (Z25.l0 k x0 (wrap64 (x6 + 1)) x214000 x214001))) else (none)) else (some (x214000, x214001))
def Z25.f (k : Nat) (l0 : List (S33)) : Option (List Int × List Int) := if (l0.length : Int) < 1 then (none) else (if 0 < (l0.length : Int) then (Z25.l0 k l0 1 ((rd_T33 l0 0).f0) ((rd_T33 l0 0).f1)) else (none))
theorem Z25.mono_l : ∀ k, (∀ y0 y1 y2 y3, LeO (Z25.l0 k y0 y1 y2 y3) (Z25.l0 (k + 1) y0 y1 y2 y3))
 | 0 => fun _ _ _ _ r h => by simp [Z25.l0] at h
 | k + 1 => by
  have ih0 := Z25.mono_l k
  ·intro y0 y1 y2 y3
   unfold Z25.l0
   repeat' first|exact ih0 _ _ _ _|exact Z4.mono _ _ _ _ _|exact lo_|refine LeO.ite ?_ ?_|refine LeO.bind ?_ (fun _ => ?_)
theorem Z25.mono : ∀ a0 k, LeO (Z25.f k a0) (Z25.f (k + 1) a0) := by
 intro a0 k
 have ih0 := Z25.mono_l k
 unfold Z25.f
 repeat' first|exact ih0 _ _ _ _|exact Z4.mono _ _ _ _ _|exact lo_|refine LeO.ite ?_ ?_|refine LeO.bind ?_ (fun _ => ?_)
def Z25.T7 : Bool × List (List Nat × List Nat) := (true, [([], []), ([], []), ([], []), ([1, 2], [1, 2]), ([3], [3]), ([], []), ([0, 4, 5], [0, 4, 5]), ([6], [6])])
def Z25.B7 : List Nat := [0, 0, 0, 6, 14, 0, 63, 127]
theorem Z25.tab7 : rtab .any (opsOf Try.f59 7) = Z25.T7 := by kernel_rfl
theorem Z25.bits7 : waitsOk Z25.T7.2 Z25.B7 = true := by kernel_rfl
set_option maxHeartbeats 8000000 in
set_option maxRecDepth 100000 in
theorem Z25.calls (k : Nat) (P0_ : Nat → Prop) (A0 : Option Addr) (c0 : Nat) (l0 : List (S33)) (r1 : List Int) (r2 : List Int) (w : World) (hs0 : Kd.V k33 33 w w.heap.size (fun k_ => P0_ k_) (.slice A0 l0.length c0) l0) (h : Z25.f k l0 = some (r1, r2)) :
  Calls Try.prog 59 #[.slice A0 l0.length c0, .func (.func 60) #[] #[]] w fun e w' => ∃ v0_ v1_ : Value, e = .returned (.agg #[v0_, v1_]) ∧ Kd.V (Kd.int .i64) 3 w' w.heap.size (fun k_ => (P0_ k_ ∨ w.heap.size ≤ k_)) v0_ r1 ∧ Kd.V (Kd.int .i64) 3 w' w.heap.size (fun k_ => (P0_ k_ ∨ w.heap.size ≤ k_)) v1_ r2 ∧ Below w.heap.size w w' := by
 have hu33 := Try.underlying33
 have HO0 := A_ (show Kd.V k33 33 w w.heap.size (fun k_ => (P0_ k_ ∨ w.heap.size ≤ k_)) (.slice A0 l0.length c0) l0 from Kd.V_mono hs0 (fun k_ hk => .inl hk))
 have HB := A_ (Below.refl w.heap.size w)
 have H := h
 unfold Z25.f at H
 clear h
 by_cases c2 : (l0.length : Int) < 1
 ·rw [if_pos c2] at H
  exact absurd H (by simp)
 ·rw [if_neg c2] at H
  have c2b0 := oD_ c2
  have c2b1 : decide (l0.length < 1) = false := oD_ (by omega)
  clear c2
  have c3 := cp_ H
  replace H := ca_ H
  have c3b0 := oC_ c3
  have c3b1 : decide (0 < l0.length) = true := oC_ (by omega)
  clear c3
  have H' := A_ H
  clear H
  go_enter Try.func59, Try.ntmps59
  go_wp2_with (first | ((with_reducible refine gB_ (N := 4) rfl ?_); refine bx_ 4 #[.slice none 0 0, .slice none 0 0] 33 ?_; intro gb211 hg w4 hbox hb; replace HO0 := A_ (Kd.V_below (Kd.V_elderB (by (with_reducible repeat (first | apply Kd.V_alloc | apply Kd.V_drewN | apply Kd.V_drew)); exact HO0.out) gb211 (Nat.le_of_eq hg.symm)) hb); have BK211 := A_ hbox; have GW211 := gw_ w hg; have GE211 := GW211; replace HB := b1_ hb; clear hb hbox hg; have p212 : 0 ≤ (0 : Int) := (by omega); have q212 : 0 < (l0.length : Int) := oB_ qe_; obtain ⟨ad212, A212_0, c212_0, A212_1, c212_1, e212, hx212_0, hx212_1, hl212_0, hi212_0, hl212_1, hi212_1⟩ := at_T33 (Kd.V_reads' HO0.out).2.2 0 p212 q212; cases e212; obtain ⟨ce212, hce212, hMe212, hcc212⟩ := Kd.V_get HO0.out z33 0 p212 (by first | exact q212 | exact oB_ qe_ | (have e_ := (Kd.V_reads' HO0.out).1; omega)); obtain ⟨ua212_0, uc212_0, ua212_1, uc212_1, rfl, ul212_0, ge212_0, ul212_1, ge212_1⟩ := k33_openF hMe212; have hv212_0 := hcc212 0 _ rfl; rw [Nat.add_zero] at hv212_0; replace hv212_0 := Option.some.inj (hv212_0.symm.trans hx212_0); injection hv212_0 with hva_ hvn_ hvc_; rw [hva_] at ge212_0; rw [hvc_] at ul212_0; have HL212_0 := A_ (show Kd.V (Kd.int .i64) 3 _ w.heap.size _ _ ((rd_T33 l0 0).f0) from Kd.V_mk ul212_0 ge212_0); clear hva_ hvn_ hvc_ ge212_0 ul212_0; have hv212_1 := hcc212 1 _ rfl; rw [add_field _ _ 1 (by omega)] at hv212_1; replace hv212_1 := Option.some.inj (hv212_1.symm.trans hx212_1); injection hv212_1 with hva_ hvn_ hvc_; rw [hva_] at ge212_1; rw [hvc_] at ul212_1; have HL212_1 := A_ (show Kd.V (Kd.int .i64) 3 _ w.heap.size _ _ ((rd_T33 l0 0).f1) from Kd.V_mk ul212_1 ge212_1); clear hva_ hvn_ hvc_ ge212_1 ul212_1; clear hcc212 hce212; have qi212 : (0 < l0.length) = True := eq_true (by omega); (try rw [show ((0 : Int)).toNat = 0 from rfl] at hx212_0); (try rw [show 0 * 2 = 0 from rfl] at hx212_0); (try rw [Addr.add_zero'] at hx212_0); (try rw [show ((0 : Int)).toNat = 0 from rfl] at hx212_1); (try rw [show 0 * 2 = 0 from rfl] at hx212_1); (try rw [Addr.add_zero'] at hx212_1); have HR212_0 := A_ hi212_0; have HC212_0 := A_ hl212_0; clear hi212_0 hl212_0; have HR212_1 := A_ hi212_1; have HC212_1 := A_ hl212_1; clear hi212_1 hl212_1; replace p212 := eq_true p212; replace q212 := eq_true q212) | ((with_reducible refine gB_ (N := 5) rfl ?_); refine bx_ 5 #[.slice none 0 0, .slice none 0 0] 33 ?_; intro gb213 hg w5 hbox hb; replace HO0 := A_ (Kd.V_below (Kd.V_elderB (by (with_reducible repeat (first | apply Kd.V_alloc | apply Kd.V_drewN | apply Kd.V_drew)); exact HO0.out) gb213 (Nat.le_of_eq hg.symm)) hb); replace HL212_0 := A_ (Kd.V_below (Kd.V_elderB (by (with_reducible repeat (first | apply Kd.V_alloc | apply Kd.V_drewN | apply Kd.V_drew)); exact HL212_0.out) gb213 (Nat.le_of_eq hg.symm)) hb); replace HL212_1 := A_ (Kd.V_below (Kd.V_elderB (by (with_reducible repeat (first | apply Kd.V_alloc | apply Kd.V_drewN | apply Kd.V_drew)); exact HL212_1.out) gb213 (Nat.le_of_eq hg.symm)) hb); have BK213 := A_ hbox; have GW213 := gw_ w hg; have GE213 := GW213; replace HB := b1_ hb; have NB211_213 := gN_ BK211 hg; have NB213_211 := gP_ BK211 hg; replace BK211 := bb_ BK211 hb; clear hb hbox hg; have hnb6 := NB213_211.out; have hnc6 := NB211_213.out; obtain ⟨hcz7_0, hcz7_1, hfz7_0, hfz7_1⟩ := c2_ BK213))
  go_loopg [6] k (fun kq v6 w' => ∃ (x6_1 : Int) (x214000_1 : List Int) (x214001_1 : List Int) (u214000 : Value) (u214001 : Value), v6 = .int .i64 x6_1 ∧ Aside0 (Z25.l0 kq l0 x6_1 x214000_1 x214001_1 = some (r1, r2)) ∧ Aside0 (kq ≤ k) ∧ Aside0 (Kd.V k33 33 w' w.heap.size (fun k_ => (P0_ k_ ∨ w.heap.size ≤ k_) ∧ k_ ≠ gb211 ∧ k_ ≠ gb213) (.slice (some ad212) l0.length c0) l0) ∧ Aside0 (Kd.V (Kd.int .i64) 3 w' w.heap.size (fun k_ => (P0_ k_ ∨ w.heap.size ≤ k_) ∧ k_ ≠ gb211 ∧ k_ ≠ gb213) u214000 x214000_1) ∧ Aside0 (Kd.V (Kd.int .i64) 3 w' w.heap.size (fun k_ => (P0_ k_ ∨ w.heap.size ≤ k_) ∧ k_ ≠ gb211 ∧ k_ ≠ gb213) u214001 x214001_1) ∧ Aside0 (w'.heap[gb211]? = some (.cells #[(.slice none 0 0), (.slice none 0 0)] 33 (0, 0))) ∧ Aside0 (w'.heap[gb213]? = some (.cells #[u214000, u214001] 33 (0, 0))) ∧ Aside0 (Below w.heap.size w w'))
  case atStart => exact ⟨(1), ((rd_T33 l0 0).f0), ((rd_T33 l0 0).f1), (.slice A212_0 ((rd_T33 l0 0).f0).length c212_0), (.slice A212_1 ((rd_T33 l0 0).f1).length c212_1), qc_, H', ⟨nA_ _⟩, ⟨by (with_reducible repeat (first | apply Kd.V_alloc | apply Kd.V_drewN | apply Kd.V_drew)); exact Kd.V_mono (Kd.V_far (p := ⟨gb213, 1, none⟩) (Kd.V_far (p := ⟨gb213, 0, none⟩) (Kd.V_mono HO0.out (fun k_ hk => (⟨hk, hk.2⟩ : _ ∧ k_ ≠ gb213))) (fun _ hk => hk.2) (.slice A212_0 ((rd_T33 l0 0).f0).length c212_0)) (fun _ hk => hk.2) (.slice A212_1 ((rd_T33 l0 0).f1).length c212_1)) (fun _ hk => ⟨hk.1.1.1, ⟨hk.1.1.2, hk.1.2⟩⟩)⟩, ⟨by (with_reducible repeat (first | apply Kd.V_alloc | apply Kd.V_drewN | apply Kd.V_drew)); exact Kd.V_mono (Kd.V_far (p := ⟨gb213, 1, none⟩) (Kd.V_far (p := ⟨gb213, 0, none⟩) (Kd.V_mono HL212_0.out (fun k_ hk => (⟨hk, hk.2⟩ : _ ∧ k_ ≠ gb213))) (fun _ hk => hk.2) (.slice A212_0 ((rd_T33 l0 0).f0).length c212_0)) (fun _ hk => hk.2) (.slice A212_1 ((rd_T33 l0 0).f1).length c212_1)) (fun _ hk => ⟨hk.1.1.1, ⟨hk.1.1.2, hk.1.2⟩⟩)⟩, ⟨by (with_reducible repeat (first | apply Kd.V_alloc | apply Kd.V_drewN | apply Kd.V_drew)); exact Kd.V_mono (Kd.V_far (p := ⟨gb213, 1, none⟩) (Kd.V_far (p := ⟨gb213, 0, none⟩) (Kd.V_mono HL212_1.out (fun k_ hk => (⟨hk, hk.2⟩ : _ ∧ k_ ≠ gb213))) (fun _ hk => hk.2) (.slice A212_0 ((rd_T33 l0 0).f0).length c212_0)) (fun _ hk => hk.2) (.slice A212_1 ((rd_T33 l0 0).f1).length c212_1)) (fun _ hk => ⟨hk.1.1.1, ⟨hk.1.1.2, hk.1.2⟩⟩)⟩, ⟨by (with_reducible repeat (first | refine kA_ ?_ _ | refine kB_ ?_ | refine kC_ ?_ _)); refine blk_far ?_ NB211_213.out _; (with_reducible repeat (first | refine kA_ ?_ _ | refine kB_ ?_ | refine kC_ ?_ _)); refine blk_far ?_ NB211_213.out _; (with_reducible repeat (first | refine kA_ ?_ _ | refine kB_ ?_ | refine kC_ ?_ _)); exact BK211.out⟩, ⟨qp_⟩, ⟨hB_⟩⟩
  case round =>
   clear H'
   obtain ⟨x6_1, x214000_1, x214001_1, u214000, u214001, rfl, HA, HK1, HO_0, HO_214000, HO_214001, BK211, BK213, HB⟩ := hrel
   cases gk with
   | zero => exact absurd HA.out (by simp [Z25.l0])
   | succ k1 =>
    have H := HA.out
    clear HA
    simp only [Z25.l0] at H
    by_cases c8 : x6_1 < (l0.length : Int)
    ·rw [if_pos c8] at H
     have c8b0 := oC_ c8
     clear c8
     have c9 := cp_ H
     replace H := ca_ H
     have c9b0 := oC_ c9
     clear c9
     obtain ⟨t215, A10, H⟩ := bi_ H
     by_cases c11 : t215 < 0
     ·rw [if_pos c11] at H
      have c11b0 := oC_ c11
      clear c11
      have H' := A_ H
      clear H
      try go_wp2
      replace HO_0 := A_ (Kd.V_drew HO_0.out)
      replace HO_214000 := A_ (Kd.V_drew HO_214000.out)
      replace HO_214001 := A_ (Kd.V_drew HO_214001.out)
      replace BK211 := A_ (kB_ BK211.out)
      replace BK213 := A_ (kB_ BK213.out)
      replace HB := A_ (bC_ HB.out)
      have p214 : 0 ≤ (x6_1 : Int) := oB_ qe_
      have q214 : x6_1 < (l0.length : Int) := oB_ qe_
      obtain ⟨ad214, A214_0, c214_0, A214_1, c214_1, e214, hx214_0, hx214_1, hl214_0, hi214_0, hl214_1, hi214_1⟩ := at_T33 (Kd.V_reads' HO_0.out).2.2 x6_1 p214 q214
      obtain rfl : ad212 = ad214 := (by injection e214)
      obtain ⟨ce214, hce214, hMe214, hcc214⟩ := Kd.V_get HO_0.out z33 x6_1 p214 (by first | exact q214 | exact oB_ qe_ | (have e_ := (Kd.V_reads' HO_0.out).1; omega))
      obtain ⟨ua214_0, uc214_0, ua214_1, uc214_1, rfl, ul214_0, ge214_0, ul214_1, ge214_1⟩ := k33_openF hMe214
      have hv214_0 := hcc214 0 _ rfl
      rw [Nat.add_zero] at hv214_0
      replace hv214_0 := Option.some.inj (hv214_0.symm.trans hx214_0)
      injection hv214_0 with hva_ hvn_ hvc_
      rw [hva_] at ge214_0
      rw [hvc_] at ul214_0
      have HL214_0 := A_ (show Kd.V (Kd.int .i64) 3 _ w.heap.size _ _ ((rd_T33 l0 x6_1).f0) from Kd.V_mk ul214_0 ge214_0)
      clear hva_ hvn_ hvc_ ge214_0 ul214_0
      have hv214_1 := hcc214 1 _ rfl
      rw [add_field _ _ 1 (by omega)] at hv214_1
      replace hv214_1 := Option.some.inj (hv214_1.symm.trans hx214_1)
      injection hv214_1 with hva_ hvn_ hvc_
      rw [hva_] at ge214_1
      rw [hvc_] at ul214_1
      have HL214_1 := A_ (show Kd.V (Kd.int .i64) 3 _ w.heap.size _ _ ((rd_T33 l0 x6_1).f1) from Kd.V_mk ul214_1 ge214_1)
      clear hva_ hvn_ hvc_ ge214_1 ul214_1
      clear hcc214 hce214
      have HR214_0 := A_ hi214_0
      have HC214_0 := A_ hl214_0
      clear hi214_0 hl214_0
      have HR214_1 := A_ hi214_1
      have HC214_1 := A_ hl214_1
      clear hi214_1 hl214_1
      replace p214 := eq_true p214
      replace q214 := eq_true q214
      obtain ⟨Ao13, co13, eo13⟩ := Kd.V_slice HO_214000.out
      (first | subst eo13 | (injection eo13 with f1_ f2_ f3_; have f4_ := f1_.symm; have f5_ := f3_.symm; clear f1_ f2_ f3_; subst f4_; subst f5_))
      obtain ⟨Ao14, co14, eo14⟩ := Kd.V_slice HO_214001.out
      (first | subst eo14 | (injection eo14 with f1_ f2_ f3_; have f4_ := f1_.symm; have f5_ := f3_.symm; clear f1_ f2_ f3_; subst f4_; subst f5_))
      refine start_ (n := 8) (S := fun w' => w'.cell? ⟨gb213, 0, none⟩ = some (.slice Ao13 x214000_1.length co13) ∧ w'.cell? ⟨gb213, 1, none⟩ = some (.slice Ao14 x214001_1.length co14) ∧ w'.cell? (ad212.add ((x6_1).toNat * 2)) = some (.slice A214_0 ((rd_T33 l0 x6_1).f0).length c214_0) ∧ w'.cell? ⟨(ad212.add ((x6_1).toNat * 2)).block, (ad212.add ((x6_1).toNat * 2)).off + 1, none⟩ = some (.slice A214_1 ((rd_T33 l0 x6_1).f1).length c214_1)) (ds := []) (bl_ 8 0) (by kernel_rfl) rfl (by kernel_rfl) ⟨cz0_ BK213, cz1_ BK213, hx214_0, hx214_1⟩ (fun hHeld => ?_); refine with_tabW Z25.tab7 Z25.bits7 (fun HT_ HW_ => ?_)
      generalize wr.drew = w12 at HO_0 HO_214000 HO_214001 BK211 BK213 HB HL214_0 HL214_1 HR214_0 HR214_1 hx214_0 hx214_1 hHeld ⊢
      refine pu_ 0 (some 20) (bl_ 8 1) HT_ ?_
      refine pu_ 1 (some 21) (bl_ 8 3) HT_ ?_
      refine pu_ 2 (some 22) (bl_ 8 7) HT_ ?_
      refine pu_ 3 (some 23) (bl_ 8 15) HT_ ?_
      refine ta_ 4 (some 24) (bl_ 8 31) HT_ HW_ hHeld ?_
      refine ta_ 5 (some 25) (bl_ 8 63) HT_ HW_ hHeld ?_
      refine on_ 6 (some 26) (bl_ 8 127) HT_ (fun K hK => ?_)
      refine goesF_ Try.func60 (by kernel_rfl) rfl #[.agg #[.slice A214_0 ((rd_T33 l0 x6_1).f0).length c214_0, .slice A214_1 ((rd_T33 l0 x6_1).f1).length c214_1], .agg #[.slice Ao13 x214000_1.length co13, .slice Ao14 x214001_1.length co14]] (by rfl) rfl rfl qa_ ?_
      with_reducible refine (Z4.calls k1 _ _ ((rd_T33 l0 x6_1).f0) _ _ ((rd_T33 l0 x6_1).f1) _ _ x214000_1 _ _ x214001_1 t215 _ ?side1 ?side2 ?side3 ?side4 ?side5 ?side6 ?side7 ?side8 A10.out).mono ?_
      (case side1 => repeat (first | exact (by repeat (first | (with_reducible exact HR214_0.out) | (with_reducible refine cA_ ?_ _) | (with_reducible refine cB_ ?_ _) | (with_reducible refine cC_ ?_) | exact HR214_0.out)) | (with_reducible first | refine cA_ ?_ _ | refine cB_ ?_ _ | refine cC_ ?_)))
      (case side2 => exact HC214_0.out)
      (case side3 => repeat (first | exact (by repeat (first | (with_reducible exact HR214_1.out) | (with_reducible refine cA_ ?_ _) | (with_reducible refine cB_ ?_ _) | (with_reducible refine cC_ ?_) | exact HR214_1.out)) | (with_reducible first | refine cA_ ?_ _ | refine cB_ ?_ _ | refine cC_ ?_)))
      (case side4 => exact HC214_1.out)
      (case side5 => exact cw_ ((Kd.V_reads' HO_214000.out).2.2))
      (case side6 => exact (Kd.V_reads' HO_214000.out).2.1)
      (case side7 => exact cw_ ((Kd.V_reads' HO_214001.out).2.2))
      (case side8 => exact (Kd.V_reads' HO_214001.out).2.1)
      rintro e w15 ⟨rfl, hb⟩
      have HS2_ := (hb.cell (World.block_lt_of_cell? _ _ (hHeld.2.2.1))).trans (hHeld.2.2.1)
      have HS3_ := (hb.cell (World.block_lt_of_cell? _ _ (hHeld.2.2.2))).trans (hHeld.2.2.2)
      refine ⟨_, rfl, ?_⟩
      replace HO_0 := A_ (Kd.V_below (by (with_reducible repeat (first | apply Kd.V_alloc | apply Kd.V_drewN | apply Kd.V_drew)); exact HO_0.out) hb)
      replace HO_214000 := A_ (Kd.V_below (by (with_reducible repeat (first | apply Kd.V_alloc | apply Kd.V_drewN | apply Kd.V_drew)); exact HO_214000.out) hb)
      replace HO_214001 := A_ (Kd.V_below (by (with_reducible repeat (first | apply Kd.V_alloc | apply Kd.V_drewN | apply Kd.V_drew)); exact HO_214001.out) hb)
      replace HL214_0 := A_ (Kd.V_below (by (with_reducible repeat (first | apply Kd.V_alloc | apply Kd.V_drewN | apply Kd.V_drew)); exact HL214_0.out) hb)
      replace HL214_1 := A_ (Kd.V_below (by (with_reducible repeat (first | apply Kd.V_alloc | apply Kd.V_drewN | apply Kd.V_drew)); exact HL214_1.out) hb)
      replace BK211 := bb_ BK211 hb
      replace BK213 := bb_ BK213 hb
      replace HR214_0 := A_ (cD_ (by repeat (first | (with_reducible exact HR214_0.out) | (with_reducible refine cA_ ?_ _) | (with_reducible refine cB_ ?_ _) | (with_reducible refine cC_ ?_) | exact HR214_0.out)) hb)
      replace HR214_1 := A_ (cD_ (by repeat (first | (with_reducible exact HR214_1.out) | (with_reducible refine cA_ ?_ _) | (with_reducible refine cB_ ?_ _) | (with_reducible refine cC_ ?_) | exact HR214_1.out)) hb)
      replace HB := b1_ hb
      clear hb
      refine hK.out _ _ ⟨cz0_ BK213, cz1_ BK213, HS2_, HS3_⟩ (fun hHeld => ?_)
      clear hK K
      refine no_ (some 26) ?_
      refine pu_ 7 (some 27) (bl_ 8 255) HT_ ?_
      refine done_ (done_of HT_.out (by kernel_rfl)) ?_
      have p216 : 0 ≤ (x6_1 : Int) := oB_ qe_
      have q216 : x6_1 < (l0.length : Int) := oB_ qe_
      obtain ⟨ad216, A216_0, c216_0, A216_1, c216_1, e216, hx216_0, hx216_1, hl216_0, hi216_0, hl216_1, hi216_1⟩ := at_T33 (Kd.V_reads' HO_0.out).2.2 x6_1 p216 q216
      obtain rfl : ad212 = ad216 := (by injection e216)
      have e0_ := Option.some.inj (hx216_0.symm.trans hHeld.2.2.1)
      injection e0_ with f1_ f2_ f3_
      have e1_ := Option.some.inj (hx216_1.symm.trans hHeld.2.2.2)
      injection e1_ with f4_ f5_ f6_
      subst f1_ f3_ f4_ f6_
      clear f2_ f5_
      obtain ⟨ce216, hce216, hMe216, hcc216⟩ := Kd.V_get HO_0.out z33 x6_1 p216 (by first | exact q216 | exact oB_ qe_ | (have e_ := (Kd.V_reads' HO_0.out).1; omega))
      obtain ⟨ua216_0, uc216_0, ua216_1, uc216_1, rfl, ul216_0, ge216_0, ul216_1, ge216_1⟩ := k33_openF hMe216
      have hv216_0 := hcc216 0 _ rfl
      rw [Nat.add_zero] at hv216_0
      replace hv216_0 := Option.some.inj (hv216_0.symm.trans hx216_0)
      injection hv216_0 with hva_ hvn_ hvc_
      rw [hva_] at ge216_0
      rw [hvc_] at ul216_0
      have HL216_0 := A_ (show Kd.V (Kd.int .i64) 3 _ w.heap.size _ _ ((rd_T33 l0 x6_1).f0) from Kd.V_mk ul216_0 ge216_0)
      clear hva_ hvn_ hvc_ ge216_0 ul216_0
      have hv216_1 := hcc216 1 _ rfl
      rw [add_field _ _ 1 (by omega)] at hv216_1
      replace hv216_1 := Option.some.inj (hv216_1.symm.trans hx216_1)
      injection hv216_1 with hva_ hvn_ hvc_
      rw [hva_] at ge216_1
      rw [hvc_] at ul216_1
      have HL216_1 := A_ (show Kd.V (Kd.int .i64) 3 _ w.heap.size _ _ ((rd_T33 l0 x6_1).f1) from Kd.V_mk ul216_1 ge216_1)
      clear hva_ hvn_ hvc_ ge216_1 ul216_1
      clear hcc216 hce216
      have HR216_0 := A_ hi216_0
      have HC216_0 := A_ hl216_0
      clear hi216_0 hl216_0
      have HR216_1 := A_ hi216_1
      have HC216_1 := A_ hl216_1
      clear hi216_1 hl216_1
      replace p216 := eq_true p216
      replace q216 := eq_true q216
      have hnb16 := NB213_211.out
      have hnc16 := NB211_213.out
      obtain ⟨hcz17_0, hcz17_1, hfz17_0, hfz17_1⟩ := c2_ BK213
      try go_wp2
      go_roundg k1
      case measure => have := HK1.out; omega
      case rel => exact ⟨(wrap64 (x6_1 + 1)), ((rd_T33 l0 x6_1).f0), ((rd_T33 l0 x6_1).f1), (.slice A216_0 ((rd_T33 l0 x6_1).f0).length c216_0), (.slice A216_1 ((rd_T33 l0 x6_1).f1).length c216_1), qc_, H', ⟨by have := HK1.out; omega⟩, ⟨by (with_reducible repeat (first | apply Kd.V_alloc | apply Kd.V_drewN | apply Kd.V_drew)); exact Kd.V_mono (Kd.V_far (p := ⟨gb213, 1, none⟩) (Kd.V_far (p := ⟨gb213, 0, none⟩) (Kd.V_mono HO_0.out (fun k_ hk => (⟨hk, hk.2.2⟩ : _ ∧ k_ ≠ gb213))) (fun _ hk => hk.2) (.slice A216_0 ((rd_T33 l0 x6_1).f0).length c216_0)) (fun _ hk => hk.2) (.slice A216_1 ((rd_T33 l0 x6_1).f1).length c216_1)) (fun _ hk => ⟨hk.1.1, ⟨hk.1.2.1, hk.1.2.2⟩⟩)⟩, ⟨by (with_reducible repeat (first | apply Kd.V_alloc | apply Kd.V_drewN | apply Kd.V_drew)); exact Kd.V_mono (Kd.V_far (p := ⟨gb213, 1, none⟩) (Kd.V_far (p := ⟨gb213, 0, none⟩) (Kd.V_mono HL216_0.out (fun k_ hk => (⟨hk, hk.2.2⟩ : _ ∧ k_ ≠ gb213))) (fun _ hk => hk.2) (.slice A216_0 ((rd_T33 l0 x6_1).f0).length c216_0)) (fun _ hk => hk.2) (.slice A216_1 ((rd_T33 l0 x6_1).f1).length c216_1)) (fun _ hk => ⟨hk.1.1, ⟨hk.1.2.1, hk.1.2.2⟩⟩)⟩, ⟨by (with_reducible repeat (first | apply Kd.V_alloc | apply Kd.V_drewN | apply Kd.V_drew)); exact Kd.V_mono (Kd.V_far (p := ⟨gb213, 1, none⟩) (Kd.V_far (p := ⟨gb213, 0, none⟩) (Kd.V_mono HL216_1.out (fun k_ hk => (⟨hk, hk.2.2⟩ : _ ∧ k_ ≠ gb213))) (fun _ hk => hk.2) (.slice A216_0 ((rd_T33 l0 x6_1).f0).length c216_0)) (fun _ hk => hk.2) (.slice A216_1 ((rd_T33 l0 x6_1).f1).length c216_1)) (fun _ hk => ⟨hk.1.1, ⟨hk.1.2.1, hk.1.2.2⟩⟩)⟩, ⟨by (with_reducible repeat (first | refine kA_ ?_ _ | refine kB_ ?_ | refine kC_ ?_ _)); refine blk_far ?_ NB211_213.out _; (with_reducible repeat (first | refine kA_ ?_ _ | refine kB_ ?_ | refine kC_ ?_ _)); refine blk_far ?_ NB211_213.out _; (with_reducible repeat (first | refine kA_ ?_ _ | refine kB_ ?_ | refine kC_ ?_ _)); exact BK211.out⟩, ⟨qp_⟩, ⟨hB_⟩⟩
     ·rw [if_neg c11] at H
      have c11b0 := oD_ c11
      clear c11
      have H' := A_ H
      clear H
      try go_wp2
      replace HO_0 := A_ (Kd.V_drew HO_0.out)
      replace HO_214000 := A_ (Kd.V_drew HO_214000.out)
      replace HO_214001 := A_ (Kd.V_drew HO_214001.out)
      replace BK211 := A_ (kB_ BK211.out)
      replace BK213 := A_ (kB_ BK213.out)
      replace HB := A_ (bC_ HB.out)
      have p214 : 0 ≤ (x6_1 : Int) := oB_ qe_
      have q214 : x6_1 < (l0.length : Int) := oB_ qe_
      obtain ⟨ad214, A214_0, c214_0, A214_1, c214_1, e214, hx214_0, hx214_1, hl214_0, hi214_0, hl214_1, hi214_1⟩ := at_T33 (Kd.V_reads' HO_0.out).2.2 x6_1 p214 q214
      obtain rfl : ad212 = ad214 := (by injection e214)
      obtain ⟨ce214, hce214, hMe214, hcc214⟩ := Kd.V_get HO_0.out z33 x6_1 p214 (by first | exact q214 | exact oB_ qe_ | (have e_ := (Kd.V_reads' HO_0.out).1; omega))
      obtain ⟨ua214_0, uc214_0, ua214_1, uc214_1, rfl, ul214_0, ge214_0, ul214_1, ge214_1⟩ := k33_openF hMe214
      have hv214_0 := hcc214 0 _ rfl
      rw [Nat.add_zero] at hv214_0
      replace hv214_0 := Option.some.inj (hv214_0.symm.trans hx214_0)
      injection hv214_0 with hva_ hvn_ hvc_
      rw [hva_] at ge214_0
      rw [hvc_] at ul214_0
      have HL214_0 := A_ (show Kd.V (Kd.int .i64) 3 _ w.heap.size _ _ ((rd_T33 l0 x6_1).f0) from Kd.V_mk ul214_0 ge214_0)
      clear hva_ hvn_ hvc_ ge214_0 ul214_0
      have hv214_1 := hcc214 1 _ rfl
      rw [add_field _ _ 1 (by omega)] at hv214_1
      replace hv214_1 := Option.some.inj (hv214_1.symm.trans hx214_1)
      injection hv214_1 with hva_ hvn_ hvc_
      rw [hva_] at ge214_1
      rw [hvc_] at ul214_1
      have HL214_1 := A_ (show Kd.V (Kd.int .i64) 3 _ w.heap.size _ _ ((rd_T33 l0 x6_1).f1) from Kd.V_mk ul214_1 ge214_1)
      clear hva_ hvn_ hvc_ ge214_1 ul214_1
      clear hcc214 hce214
      have HR214_0 := A_ hi214_0
      have HC214_0 := A_ hl214_0
      clear hi214_0 hl214_0
      have HR214_1 := A_ hi214_1
      have HC214_1 := A_ hl214_1
      clear hi214_1 hl214_1
      replace p214 := eq_true p214
      replace q214 := eq_true q214
      obtain ⟨Ao19, co19, eo19⟩ := Kd.V_slice HO_214000.out
      (first | subst eo19 | (injection eo19 with f1_ f2_ f3_; have f4_ := f1_.symm; have f5_ := f3_.symm; clear f1_ f2_ f3_; subst f4_; subst f5_))
      obtain ⟨Ao20, co20, eo20⟩ := Kd.V_slice HO_214001.out
      (first | subst eo20 | (injection eo20 with f1_ f2_ f3_; have f4_ := f1_.symm; have f5_ := f3_.symm; clear f1_ f2_ f3_; subst f4_; subst f5_))
      refine start_ (n := 8) (S := fun w' => w'.cell? ⟨gb213, 0, none⟩ = some (.slice Ao19 x214000_1.length co19) ∧ w'.cell? ⟨gb213, 1, none⟩ = some (.slice Ao20 x214001_1.length co20) ∧ w'.cell? (ad212.add ((x6_1).toNat * 2)) = some (.slice A214_0 ((rd_T33 l0 x6_1).f0).length c214_0) ∧ w'.cell? ⟨(ad212.add ((x6_1).toNat * 2)).block, (ad212.add ((x6_1).toNat * 2)).off + 1, none⟩ = some (.slice A214_1 ((rd_T33 l0 x6_1).f1).length c214_1)) (ds := []) (bl_ 8 0) (by kernel_rfl) rfl (by kernel_rfl) ⟨cz0_ BK213, cz1_ BK213, hx214_0, hx214_1⟩ (fun hHeld => ?_); refine with_tabW Z25.tab7 Z25.bits7 (fun HT_ HW_ => ?_)
      generalize wr.drew = w18 at HO_0 HO_214000 HO_214001 BK211 BK213 HB HL214_0 HL214_1 HR214_0 HR214_1 hx214_0 hx214_1 hHeld ⊢
      refine pu_ 0 (some 20) (bl_ 8 1) HT_ ?_
      refine pu_ 1 (some 21) (bl_ 8 3) HT_ ?_
      refine pu_ 2 (some 22) (bl_ 8 7) HT_ ?_
      refine pu_ 3 (some 23) (bl_ 8 15) HT_ ?_
      refine ta_ 4 (some 24) (bl_ 8 31) HT_ HW_ hHeld ?_
      refine ta_ 5 (some 25) (bl_ 8 63) HT_ HW_ hHeld ?_
      refine on_ 6 (some 26) (bl_ 8 127) HT_ (fun K hK => ?_)
      refine goesF_ Try.func60 (by kernel_rfl) rfl #[.agg #[.slice A214_0 ((rd_T33 l0 x6_1).f0).length c214_0, .slice A214_1 ((rd_T33 l0 x6_1).f1).length c214_1], .agg #[.slice Ao19 x214000_1.length co19, .slice Ao20 x214001_1.length co20]] (by rfl) rfl rfl qa_ ?_
      with_reducible refine (Z4.calls k1 _ _ ((rd_T33 l0 x6_1).f0) _ _ ((rd_T33 l0 x6_1).f1) _ _ x214000_1 _ _ x214001_1 t215 _ ?side1 ?side2 ?side3 ?side4 ?side5 ?side6 ?side7 ?side8 A10.out).mono ?_
      (case side1 => repeat (first | exact (by repeat (first | (with_reducible exact HR214_0.out) | (with_reducible refine cA_ ?_ _) | (with_reducible refine cB_ ?_ _) | (with_reducible refine cC_ ?_) | exact HR214_0.out)) | (with_reducible first | refine cA_ ?_ _ | refine cB_ ?_ _ | refine cC_ ?_)))
      (case side2 => exact HC214_0.out)
      (case side3 => repeat (first | exact (by repeat (first | (with_reducible exact HR214_1.out) | (with_reducible refine cA_ ?_ _) | (with_reducible refine cB_ ?_ _) | (with_reducible refine cC_ ?_) | exact HR214_1.out)) | (with_reducible first | refine cA_ ?_ _ | refine cB_ ?_ _ | refine cC_ ?_)))
      (case side4 => exact HC214_1.out)
      (case side5 => exact cw_ ((Kd.V_reads' HO_214000.out).2.2))
      (case side6 => exact (Kd.V_reads' HO_214000.out).2.1)
      (case side7 => exact cw_ ((Kd.V_reads' HO_214001.out).2.2))
      (case side8 => exact (Kd.V_reads' HO_214001.out).2.1)
      rintro e w21 ⟨rfl, hb⟩
      have HS2_ := (hb.cell (World.block_lt_of_cell? _ _ (hHeld.2.2.1))).trans (hHeld.2.2.1)
      have HS3_ := (hb.cell (World.block_lt_of_cell? _ _ (hHeld.2.2.2))).trans (hHeld.2.2.2)
      refine ⟨_, rfl, ?_⟩
      replace HO_0 := A_ (Kd.V_below (by (with_reducible repeat (first | apply Kd.V_alloc | apply Kd.V_drewN | apply Kd.V_drew)); exact HO_0.out) hb)
      replace HO_214000 := A_ (Kd.V_below (by (with_reducible repeat (first | apply Kd.V_alloc | apply Kd.V_drewN | apply Kd.V_drew)); exact HO_214000.out) hb)
      replace HO_214001 := A_ (Kd.V_below (by (with_reducible repeat (first | apply Kd.V_alloc | apply Kd.V_drewN | apply Kd.V_drew)); exact HO_214001.out) hb)
      replace HL214_0 := A_ (Kd.V_below (by (with_reducible repeat (first | apply Kd.V_alloc | apply Kd.V_drewN | apply Kd.V_drew)); exact HL214_0.out) hb)
      replace HL214_1 := A_ (Kd.V_below (by (with_reducible repeat (first | apply Kd.V_alloc | apply Kd.V_drewN | apply Kd.V_drew)); exact HL214_1.out) hb)
      replace BK211 := bb_ BK211 hb
      replace BK213 := bb_ BK213 hb
      replace HR214_0 := A_ (cD_ (by repeat (first | (with_reducible exact HR214_0.out) | (with_reducible refine cA_ ?_ _) | (with_reducible refine cB_ ?_ _) | (with_reducible refine cC_ ?_) | exact HR214_0.out)) hb)
      replace HR214_1 := A_ (cD_ (by repeat (first | (with_reducible exact HR214_1.out) | (with_reducible refine cA_ ?_ _) | (with_reducible refine cB_ ?_ _) | (with_reducible refine cC_ ?_) | exact HR214_1.out)) hb)
      replace HB := b1_ hb
      clear hb
      refine hK.out _ _ ⟨cz0_ BK213, cz1_ BK213, HS2_, HS3_⟩ (fun hHeld => ?_)
      clear hK K
      refine no_ (some 26) ?_
      refine pu_ 7 (some 27) (bl_ 8 255) HT_ ?_
      refine done_ (done_of HT_.out (by kernel_rfl)) ?_
      try go_wp2
      go_roundg k1
      case measure => have := HK1.out; omega
      case rel => exact ⟨(wrap64 (x6_1 + 1)), (x214000_1), (x214001_1), (.slice Ao19 x214000_1.length co19), (.slice Ao20 x214001_1.length co20), qc_, H', ⟨by have := HK1.out; omega⟩, ⟨by (with_reducible repeat (first | apply Kd.V_alloc | apply Kd.V_drewN | apply Kd.V_drew)); exact HO_0.out⟩, ⟨by (with_reducible repeat (first | apply Kd.V_alloc | apply Kd.V_drewN | apply Kd.V_drew)); exact HO_214000.out⟩, ⟨by (with_reducible repeat (first | apply Kd.V_alloc | apply Kd.V_drewN | apply Kd.V_drew)); exact HO_214001.out⟩, ⟨(kk_ BK211)⟩, ⟨(kk_ BK213)⟩, ⟨hB_⟩⟩
    ·rw [if_neg c8] at H
     have c8b0 := oD_ c8
     clear c8
     simp only [Option.some.injEq, Prod.mk.injEq] at H
     obtain ⟨rfl, rfl⟩ := H
     have hnb22 := NB213_211.out
     have hnc22 := NB211_213.out
     obtain ⟨hcz23_0, hcz23_1, hfz23_0, hfz23_1⟩ := c2_ BK213
     obtain ⟨Ao24, co24, eo24⟩ := Kd.V_slice HO_214000.out
     subst eo24
     obtain ⟨hcz25_0, hcz25_1, hfz25_0, hfz25_1⟩ := c2_ BK211
     obtain ⟨Ao26, co26, eo26⟩ := Kd.V_slice HO_214001.out
     subst eo26
     go_wp2
     refine bodyPost_ret (results_cell_row rfl _ _ gb211 33 #[.slice Ao24 x214000_1.length co24, .slice Ao26 x214001_1.length co26] (0, 0) _ rfl qp_ Try.underlying33 rfl (by kernel_rfl)) rfl ?_
     exact ⟨_, _, qb_, by (with_reducible repeat (first | apply Kd.V_alloc | apply Kd.V_drewN | apply Kd.V_drew)); exact Kd.V_mono (Kd.V_far (p := ⟨gb211, 1, none⟩) (Kd.V_far (p := ⟨gb211, 0, none⟩) (Kd.V_mono HO_214000.out (fun k_ hk => (⟨hk, hk.2.1⟩ : _ ∧ k_ ≠ gb211))) (fun _ hk => hk.2) (.slice Ao24 x214000_1.length co24)) (fun _ hk => hk.2) (.slice Ao26 x214001_1.length co26)) (fun _ hk => hk.1.1), by (with_reducible repeat (first | apply Kd.V_alloc | apply Kd.V_drewN | apply Kd.V_drew)); exact Kd.V_mono (Kd.V_far (p := ⟨gb211, 1, none⟩) (Kd.V_far (p := ⟨gb211, 0, none⟩) (Kd.V_mono HO_214001.out (fun k_ hk => (⟨hk, hk.2.1⟩ : _ ∧ k_ ≠ gb211))) (fun _ hk => hk.2) (.slice Ao24 x214000_1.length co24)) (fun _ hk => hk.2) (.slice Ao26 x214001_1.length co26)) (fun _ hk => hk.1.1), hB_⟩
def Z45.f (k : Nat) (l0_0 : List Int) (l0_1 : List Int) : Option (List Int × List Int × Bool) := (Z32.f k l0_0 l0_1).bind fun t219 => (if (t219.length : Int) = 0 then (some (([] : List Int), ([] : List Int), false)) else ((Z25.f k t219).bind fun bt222 => (some (bt222.1, bt222.2, true))))
theorem Z45.mono : ∀ a0 a1 k, LeO (Z45.f k a0 a1) (Z45.f (k + 1) a0 a1) := by
 intro a0 a1 k
 unfold Z45.f
 repeat' first|exact Z25.mono _ _|exact Z32.mono _ _ _|exact lo_|refine LeO.ite ?_ ?_|refine LeO.bind ?_ (fun _ => ?_)
set_option maxHeartbeats 8000000 in
set_option maxRecDepth 100000 in
theorem Z45.calls (k : Nat) (A0_0 : Option Addr) (c0_0 : Nat) (l0_0 : List Int) (A0_1 : Option Addr) (c0_1 : Nat) (l0_1 : List Int) (r1 : List Int) (r2 : List Int) (r3 : Bool) (w : World) (hr0_0 : Kd.C (Kd.int .i64) w A0_0 l0_0.length l0_0) (hc0_0 : l0_0.length ≤ c0_0) (hr0_1 : Kd.C (Kd.int .i64) w A0_1 l0_1.length l0_1) (hc0_1 : l0_1.length ≤ c0_1) (h : Z45.f k l0_0 l0_1 = some (r1, r2, r3)) :
  Calls Try.prog 17 #[.agg #[.slice A0_0 l0_0.length c0_0, .slice A0_1 l0_1.length c0_1]] w fun e w' => ∃ v0_ v1_ : Value, e = .returned (.tuple #[.agg #[v0_, v1_], .bool r3]) ∧ Kd.V (Kd.int .i64) 3 w' w.heap.size (fun k_ => (w.heap.size ≤ k_)) v0_ r1 ∧ Kd.V (Kd.int .i64) 3 w' w.heap.size (fun k_ => (w.heap.size ≤ k_)) v1_ r2 ∧ Below w.heap.size w w' := by
 have hu33 := Try.underlying33
 have HR0_0 := A_ hr0_0
 have HC0_0 := A_ hc0_0
 clear hr0_0 hc0_0
 have HR0_1 := A_ hr0_1
 have HC0_1 := A_ hc0_1
 clear hr0_1 hc0_1
 have HB := A_ (Below.refl w.heap.size w)
 have H := h
 unfold Z45.f at H
 clear h
 obtain ⟨t219, A2, H⟩ := bi_ H
 by_cases c3 : (t219.length : Int) = 0
 ·rw [if_pos c3] at H
  have c3b0 : ((t219.length : Int) == 0) = true := beq_iff_eq.mpr c3
  have c3b1 : ((t219.length : Int) != 0) = false := bne_eq_false_iff_eq.mpr c3
  clear c3
  simp only [Option.some.injEq, Prod.mk.injEq] at H
  obtain ⟨rfl, rfl, rfl⟩ := H
  go_enter Try.func17, Try.ntmps17
  go_wp2_with (first | ((with_reducible refine gB_ (N := 1) rfl ?_); refine bx_ 1 #[.slice A0_0 l0_0.length c0_0, .slice A0_1 l0_1.length c0_1] 33 ?_; intro gb217 hg w4 hbox hb; have BK217 := A_ hbox; have GW217 := gw_ w hg; have GE217 := GW217; replace HB := b1_ hb; clear hb hbox hg) | ((with_reducible refine gB_ (N := 2) rfl ?_); refine bx_ 2 #[.slice none 0 0, .slice none 0 0] 33 ?_; intro gb218 hg w5 hbox hb; have BK218 := A_ hbox; have GW218 := gw_ w hg; have GE218 := GW218; replace HB := b1_ hb; have NB217_218 := gN_ BK217 hg; have NB218_217 := gP_ BK217 hg; replace BK217 := bb_ BK217 hb; clear hb hbox hg; have hnb6 := NB217_218.out; have hnc6 := NB218_217.out; obtain ⟨hcz7_0, hcz7_1, hfz7_0, hfz7_1⟩ := c2_ BK217) | ((with_reducible refine gA_ (f := 58) rfl ?_); refine gL_ (some 6) Try.func58 #[.agg #[.slice A0_0 l0_0.length c0_0, .slice A0_1 l0_1.length c0_1]] rfl qa_ ?_; (with_reducible refine (Z32.calls k _ _ l0_0 _ _ l0_1 t219 _ (cb_ HR0_0) HC0_0.out (cb_ HR0_1) HC0_1.out A2.out).mono ?_); rintro e w8 ⟨v220, rfl, ho0, hb⟩; refine ⟨_, rfl, ?_⟩; have HO221 := A_ (Kd.S_lower (Kd.S_newB (Kd.S_newB (Kd.S_newM (M := fun k_ => (w.heap.size ≤ k_)) ho0 (bF_ hB_) (fun k_ h_ => h_)) (kk_ BK217)) (kk_ BK218)) (bF_ hB_)); replace BK217 := bb_ BK217 hb; replace BK218 := bb_ BK218 hb; replace HB := b1_ hb; clear hb ho0; obtain ⟨Ao9, co9, eo9⟩ := Kd.S_slice HO221.out; subst eo9; obtain ⟨hcz10_0, hcz10_1, hfz10_0, hfz10_1⟩ := c2_ BK218))
  refine bodyPost_ret (results_ct rfl _ _ gb218 33 #[.slice none 0 0, .slice none 0 0] (0, 0) _ rfl qp_ Try.underlying33 rfl (by kernel_rfl)) rfl ?_
  exact ⟨_, _, qb_, (Kd.V_nil _ _ _ _ _), (Kd.V_nil _ _ _ _ _), hB_⟩
 ·rw [if_neg c3] at H
  have c3b0 : ((t219.length : Int) == 0) = false := beq_eq_false_iff_ne.mpr c3
  have c3b1 : ((t219.length : Int) != 0) = true := bne_iff_ne.mpr c3
  have c3b2 : ¬ (t219 = []) := fun h_ => c3 (by rw [h_]; rfl)
  obtain ⟨⟨t222, t225⟩, A11, H⟩ := bi_ H
  try dsimp only at H
  simp only [Option.some.injEq, Prod.mk.injEq] at H
  obtain ⟨rfl, rfl, rfl⟩ := H
  go_enter Try.func17, Try.ntmps17
  go_wp2_with (first | ((with_reducible refine gB_ (N := 1) rfl ?_); refine bx_ 1 #[.slice A0_0 l0_0.length c0_0, .slice A0_1 l0_1.length c0_1] 33 ?_; intro gb217 hg w12 hbox hb; have BK217 := A_ hbox; have GW217 := gw_ w hg; have GE217 := GW217; replace HB := b1_ hb; clear hb hbox hg) | ((with_reducible refine gB_ (N := 2) rfl ?_); refine bx_ 2 #[.slice none 0 0, .slice none 0 0] 33 ?_; intro gb218 hg w13 hbox hb; have BK218 := A_ hbox; have GW218 := gw_ w hg; have GE218 := GW218; replace HB := b1_ hb; have NB217_218 := gN_ BK217 hg; have NB218_217 := gP_ BK217 hg; replace BK217 := bb_ BK217 hb; clear hb hbox hg; have hnb14 := NB217_218.out; have hnc14 := NB218_217.out; obtain ⟨hcz15_0, hcz15_1, hfz15_0, hfz15_1⟩ := c2_ BK217) | ((with_reducible refine gA_ (f := 58) rfl ?_); refine gL_ (some 6) Try.func58 #[.agg #[.slice A0_0 l0_0.length c0_0, .slice A0_1 l0_1.length c0_1]] rfl qa_ ?_; (with_reducible refine (Z32.calls k _ _ l0_0 _ _ l0_1 t219 _ (cb_ HR0_0) HC0_0.out (cb_ HR0_1) HC0_1.out A2.out).mono ?_); rintro e w16 ⟨v220, rfl, ho0, hb⟩; refine ⟨_, rfl, ?_⟩; have HO221 := A_ (Kd.S_lower (Kd.S_newB (Kd.S_newB (Kd.S_newM (M := fun k_ => (w.heap.size ≤ k_)) ho0 (bF_ hB_) (fun k_ h_ => h_)) (kk_ BK217)) (kk_ BK218)) (bF_ hB_)); replace BK217 := bb_ BK217 hb; replace BK218 := bb_ BK218 hb; replace HB := b1_ hb; clear hb ho0; obtain ⟨Ao17, co17, eo17⟩ := Kd.S_slice HO221.out; subst eo17) | ((with_reducible refine gA_ (f := 59) rfl ?_); refine gL_ (some 12) Try.func59 #[.slice Ao17 t219.length co17, .func (.func 60) #[] #[]] rfl qa_ ?_; (with_reducible refine (Z25.calls k (fun k_ => ((((w.heap.size ≤ k_) ∧ True) ∧ k_ ≠ gb217) ∧ k_ ≠ gb218)) _ _ t219 t222 t225 _ (Kd.S_V (HO221.out)) A11.out).mono ?_); rintro e w18 ⟨v223, v226, rfl, ho0, ho1, hb⟩; refine ⟨_, rfl, ?_⟩; replace HO221 := sb_ HO221 hb; have HO224 := A_ (Kd.V_lower (Kd.V_mono (ok' := fun k_ => (w.heap.size ≤ k_) ∧ k_ ≠ gb217 ∧ k_ ≠ gb218) ho0 (fun k_ hk_ => ⟨Or.elim hk_ (fun hs_ => hs_.1.1.1) (fun hn_ => (Nat.le_trans (bF_ hB_) hn_)), Or.elim hk_ (fun hs_ => hs_.1.2) (fun hn_ => (Kd.freshB (kk_ BK217) k_ hn_)), Or.elim hk_ (fun hs_ => hs_.2) (fun hn_ => (Kd.freshB (kk_ BK218) k_ hn_))⟩)) (bF_ hB_)); have HO227 := A_ (Kd.V_lower (Kd.V_mono (ok' := fun k_ => (w.heap.size ≤ k_) ∧ k_ ≠ gb217 ∧ k_ ≠ gb218) ho1 (fun k_ hk_ => ⟨Or.elim hk_ (fun hs_ => hs_.1.1.1) (fun hn_ => (Nat.le_trans (bF_ hB_) hn_)), Or.elim hk_ (fun hs_ => hs_.1.2) (fun hn_ => (Kd.freshB (kk_ BK217) k_ hn_)), Or.elim hk_ (fun hs_ => hs_.2) (fun hn_ => (Kd.freshB (kk_ BK218) k_ hn_))⟩)) (bF_ hB_)); replace BK217 := bb_ BK217 hb; replace BK218 := bb_ BK218 hb; replace HB := b1_ hb; clear hb ho0 ho1; obtain ⟨Ao19, co19, eo19⟩ := Kd.V_slice HO224.out; subst eo19; obtain ⟨hcz20_0, hcz20_1, hfz20_0, hfz20_1⟩ := c2_ BK218; obtain ⟨Ao21, co21, eo21⟩ := Kd.V_slice HO227.out; subst eo21))
  refine bodyPost_ret (results_ct rfl _ _ gb218 33 #[.slice Ao19 t222.length co19, .slice Ao21 t225.length co21] (0, 0) _ rfl qp_ Try.underlying33 rfl (by kernel_rfl)) rfl ?_
  exact ⟨_, _, qb_, by (with_reducible repeat (first | apply Kd.V_alloc | apply Kd.V_drewN | apply Kd.V_drew)); exact Kd.V_mono (Kd.V_far (p := ⟨gb218, 1, none⟩) (Kd.V_far (p := ⟨gb218, 0, none⟩) (Kd.V_mono HO224.out (fun k_ hk => (⟨hk, hk.2.2⟩ : _ ∧ k_ ≠ gb218))) (fun _ hk => hk.2) (.slice Ao19 t222.length co19)) (fun _ hk => hk.2) (.slice Ao21 t225.length co21)) (fun _ hk => hk.1.1), by (with_reducible repeat (first | apply Kd.V_alloc | apply Kd.V_drewN | apply Kd.V_drew)); exact Kd.V_mono (Kd.V_far (p := ⟨gb218, 1, none⟩) (Kd.V_far (p := ⟨gb218, 0, none⟩) (Kd.V_mono HO227.out (fun k_ hk => (⟨hk, hk.2.2⟩ : _ ∧ k_ ≠ gb218))) (fun _ hk => hk.2) (.slice Ao19 t222.length co19)) (fun _ hk => hk.2) (.slice Ao21 t225.length co21)) (fun _ hk => hk.1.1), hB_⟩
def Z5.l0 : Nat → List Int → List Int → Int → Int → Option (Bool)
 | 0, _, _, _, _ => none
 | k + 1, x0, x1, x12, x13 => if x13 < x12 then (if 0 ≤ x13 then (if x13 < (x0.length : Int) then (if x13 < (x1.length : Int) then (if (rd x0 x13) = (rd x1 x13) then (Z5.l0 k x0 x1 x12 (wrap64 (x13 + 1))) else (some false)) else (none)) else (none)) else (none)) else (some true)
def Z5.f (k : Nat) (l0 : List Int) (l1 : List Int) : Option (Bool) := if (l0.length : Int) = (l1.length : Int) then (Z5.l0 k l0 l1 (l0.length : Int) 0) else (some false)
theorem Z5.mono_l : ∀ k, (∀ y0 y1 y2 y3, LeO (Z5.l0 k y0 y1 y2 y3) (Z5.l0 (k + 1) y0 y1 y2 y3))
 | 0 => fun _ _ _ _ r h => by simp [Z5.l0] at h
 | k + 1 => by
  have ih0 := Z5.mono_l k
  ·intro y0 y1 y2 y3
   unfold Z5.l0
   repeat' first|exact ih0 _ _ _ _|exact lo_|refine LeO.ite ?_ ?_|refine LeO.bind ?_ (fun _ => ?_)
theorem Z5.mono : ∀ a0 a1 k, LeO (Z5.f k a0 a1) (Z5.f (k + 1) a0 a1) := by
 intro a0 a1 k
 have ih0 := Z5.mono_l k
 unfold Z5.f
 repeat' first|exact ih0 _ _ _ _|exact lo_|refine LeO.ite ?_ ?_|refine LeO.bind ?_ (fun _ => ?_)
set_option maxHeartbeats 8000000 in
set_option maxRecDepth 100000 in
theorem Z5.calls (k : Nat) (A0 : Option Addr) (c0 : Nat) (l0 : List Int) (A1 : Option Addr) (c1 : Nat) (l1 : List Int) (r : Bool) (w : World) (hr0 : Kd.C (Kd.int .i64) w A0 l0.length l0) (hc0 : l0.length ≤ c0) (hr1 : Kd.C (Kd.int .i64) w A1 l1.length l1) (hc1 : l1.length ≤ c1) (h : Z5.f k l0 l1 = some r) :
  Calls Try.prog 106 #[.slice A0 l0.length c0, .slice A1 l1.length c1] w fun e w' => e = .returned (.bool r) ∧ Drawn0 w w' := by
 have HR0 := A_ hr0
 have HC0 := A_ hc0
 clear hr0 hc0
 have HR1 := A_ hr1
 have HC1 := A_ hc1
 clear hr1 hc1
 have H := h
 unfold Z5.f at H
 clear h
 by_cases c3 : (l0.length : Int) = (l1.length : Int)
 ·rw [if_pos c3] at H
  have c3b0 : ((l0.length : Int) == (l1.length : Int)) = true := beq_iff_eq.mpr c3
  have c3b1 : ((l0.length : Int) != (l1.length : Int)) = false := bne_eq_false_iff_eq.mpr c3
  have c3b2 : (l0.length == l1.length) = true := by first | simpa using c3 | (simp at c3 ⊢; omega)
  clear c3
  have H' := A_ H
  clear H
  go_enter Try.func106, Try.ntmps106
  go_wp2
  repeat (go_quiet (fail); try go_wp2)
  go_loopg [13] k (fun kq v13 w' => ∃ (x13_1 : Int), v13 = .int .i64 x13_1 ∧ Aside0 (Z5.l0 kq l0 l1 (l0.length : Int) x13_1 = some r) ∧ Aside0 (kq ≤ k) ∧ Drawn0 w w')
  case atStart => exact ⟨(0), qc_, H', ⟨nA_ _⟩, by repeat (first | exact Drawn0.refl _ | apply Drawn0.step)⟩
  case round =>
   clear H'
   obtain ⟨x13_1, rfl, HA, HK1, ⟨m1, rfl⟩⟩ := hrel
   cases gk with
   | zero => exact absurd HA.out (by simp [Z5.l0])
   | succ k1 =>
    have H := HA.out
    clear HA
    simp only [Z5.l0] at H
    by_cases c4 : x13_1 < (l0.length : Int)
    ·rw [if_pos c4] at H
     have c4b0 := oC_ c4
     clear c4
     have c5 := cp_ H
     replace H := ca_ H
     have c5b0 := oC_ c5
     clear c5
     have c6 := cp_ H
     replace H := ca_ H
     have c6b0 := oC_ c6
     clear c6
     have c7 := cp_ H
     replace H := ca_ H
     have c7b0 := oC_ c7
     clear c7
     by_cases c8 : (rd l0 x13_1) = (rd l1 x13_1)
     ·rw [if_pos c8] at H
      have c8b0 : ((rd l0 x13_1) == (rd l1 x13_1)) = true := beq_iff_eq.mpr c8
      have c8b1 : ((rd l0 x13_1) != (rd l1 x13_1)) = false := bne_eq_false_iff_eq.mpr c8
      clear c8
      have H' := A_ H
      clear H
      have p256 : 0 ≤ (x13_1 : Int) := oB_ qe_
      have q256 : x13_1 < (l0.length : Int) := oB_ qe_
      obtain ⟨ad256, e256, hx256_0⟩ := Kd.at_int HR0.out x13_1 p256 q256
      cases e256
      replace p256 := eq_true p256
      replace q256 := eq_true q256
      have p257 : 0 ≤ (x13_1 : Int) := oB_ qe_
      have q257 : x13_1 < (l1.length : Int) := oB_ qe_
      obtain ⟨ad257, e257, hx257_0⟩ := Kd.at_int HR1.out x13_1 p257 q257
      cases e257
      replace p257 := eq_true p257
      replace q257 := eq_true q257
      go_wp2
      repeat (go_quiet (fail); try go_wp2)
      go_roundg k1
      case measure => have := HK1.out; omega
      case rel => exact ⟨(wrap64 (x13_1 + 1)), qc_, H', ⟨by have := HK1.out; omega⟩, by repeat (first | exact Drawn0.refl _ | apply Drawn0.step)⟩
     ·rw [if_neg c8] at H
      have c8b0 : ((rd l0 x13_1) == (rd l1 x13_1)) = false := beq_eq_false_iff_ne.mpr c8
      have c8b1 : ((rd l0 x13_1) != (rd l1 x13_1)) = true := bne_iff_ne.mpr c8
      obtain rfl := Option.some.inj H
      have p256 : 0 ≤ (x13_1 : Int) := oB_ qe_
      have q256 : x13_1 < (l0.length : Int) := oB_ qe_
      obtain ⟨ad256, e256, hx256_0⟩ := Kd.at_int HR0.out x13_1 p256 q256
      cases e256
      replace p256 := eq_true p256
      replace q256 := eq_true q256
      have p257 : 0 ≤ (x13_1 : Int) := oB_ qe_
      have q257 : x13_1 < (l1.length : Int) := oB_ qe_
      obtain ⟨ad257, e257, hx257_0⟩ := Kd.at_int HR1.out x13_1 p257 q257
      cases e257
      replace p257 := eq_true p257
      replace q257 := eq_true q257
      go_wp2
      repeat (go_quiet (fail); try go_wp2)
      go_ret
      exact ⟨qc_, by repeat (first | exact Drawn0.refl _ | apply Drawn0.step)⟩
    ·rw [if_neg c4] at H
     have c4b0 := oD_ c4
     clear c4
     obtain rfl := Option.some.inj H
     go_wp2
     repeat (go_quiet (fail); try go_wp2)
     go_ret
     exact ⟨qc_, by repeat (first | exact Drawn0.refl _ | apply Drawn0.step)⟩
 ·rw [if_neg c3] at H
  have c3b0 : ((l0.length : Int) == (l1.length : Int)) = false := beq_eq_false_iff_ne.mpr c3
  have c3b1 : ((l0.length : Int) != (l1.length : Int)) = true := bne_iff_ne.mpr c3
  have c3b2 : (l0.length == l1.length) = false := by first | simpa using c3 | (simp at c3 ⊢; omega)
  obtain rfl := Option.some.inj H
  go_enter Try.func106, Try.ntmps106
  go_wp2
  repeat (go_quiet (fail); try go_wp2)
  go_ret
  exact ⟨qc_, by repeat (first | exact Drawn0.refl _ | apply Drawn0.step)⟩
def Z38.f (k : Nat) (l0 : List Int) (l1 : List Int) : Option (Bool) := (Z5.f k l0 l1).bind fun t258 => (some t258)
theorem Z38.mono : ∀ a0 a1 k, LeO (Z38.f k a0 a1) (Z38.f (k + 1) a0 a1) := by
 intro a0 a1 k
 unfold Z38.f
 repeat' first|exact Z5.mono _ _ _|exact lo_|refine LeO.ite ?_ ?_|refine LeO.bind ?_ (fun _ => ?_)
set_option maxHeartbeats 8000000 in
set_option maxRecDepth 100000 in
theorem Z38.calls (k : Nat) (A0 : Option Addr) (c0 : Nat) (l0 : List Int) (A1 : Option Addr) (c1 : Nat) (l1 : List Int) (r : Bool) (w : World) (hr0 : Kd.C (Kd.int .i64) w A0 l0.length l0) (hc0 : l0.length ≤ c0) (hr1 : Kd.C (Kd.int .i64) w A1 l1.length l1) (hc1 : l1.length ≤ c1) (h : Z38.f k l0 l1 = some r) :
  Calls Try.prog 56 #[.slice A0 l0.length c0, .slice A1 l1.length c1] w fun e w' => e = .returned (.bool r) ∧ Drawn0 w w' := by
 have HR0 := A_ hr0
 have HC0 := A_ hc0
 clear hr0 hc0
 have HR1 := A_ hr1
 have HC1 := A_ hc1
 clear hr1 hc1
 have H := h
 unfold Z38.f at H
 clear h
 obtain ⟨t258, A3, H⟩ := bi_ H
 obtain rfl := Option.some.inj H
 go_enter Try.func56, Try.ntmps56
 go_wp2_with (first | ((with_reducible refine gA_ (f := 106) rfl ?_); refine gL_ (some 7) Try.func106 #[.slice A0 l0.length c0, .slice A1 l1.length c1] rfl qa_ ?_; (with_reducible refine (Z5.calls k _ _ l0 _ _ l1 t258 _ (cc_ HR0) HC0.out (cc_ HR1) HC1.out A3.out).mono ?_); rintro e w' ⟨rfl, ⟨nd, rfl⟩⟩; refine ⟨_, rfl, ?_⟩))
 go_ret
 exact ⟨qc_, by repeat (first | exact Drawn0.refl _ | apply Drawn0.step)⟩
def Z18.f (k : Nat) (l0_0 : List Int) (l0_1 : List Int) (l1_0 : List Int) (l1_1 : List Int) : Option (Bool) := (Z38.f k l0_0 l1_0).bind fun t261 => (if t261 = true then ((Z38.f k l0_1 l1_1).bind fun t262 => (some t262)) else (some false))
theorem Z18.mono : ∀ a0 a1 a2 a3 k, LeO (Z18.f k a0 a1 a2 a3) (Z18.f (k + 1) a0 a1 a2 a3) := by
 intro a0 a1 a2 a3 k
 unfold Z18.f
 repeat' first|exact Z38.mono _ _ _|exact lo_|refine LeO.ite ?_ ?_|refine LeO.bind ?_ (fun _ => ?_)
set_option maxHeartbeats 8000000 in
set_option maxRecDepth 100000 in
theorem Z18.calls (k : Nat) (A0_0 : Option Addr) (c0_0 : Nat) (l0_0 : List Int) (A0_1 : Option Addr) (c0_1 : Nat) (l0_1 : List Int) (A1_0 : Option Addr) (c1_0 : Nat) (l1_0 : List Int) (A1_1 : Option Addr) (c1_1 : Nat) (l1_1 : List Int) (r : Bool) (w : World) (hr0_0 : Kd.C (Kd.int .i64) w A0_0 l0_0.length l0_0) (hc0_0 : l0_0.length ≤ c0_0) (hr0_1 : Kd.C (Kd.int .i64) w A0_1 l0_1.length l0_1) (hc0_1 : l0_1.length ≤ c0_1) (hr1_0 : Kd.C (Kd.int .i64) w A1_0 l1_0.length l1_0) (hc1_0 : l1_0.length ≤ c1_0) (hr1_1 : Kd.C (Kd.int .i64) w A1_1 l1_1.length l1_1) (hc1_1 : l1_1.length ≤ c1_1) (h : Z18.f k l0_0 l0_1 l1_0 l1_1 = some r) :
  Calls Try.prog 18 #[.agg #[.slice A0_0 l0_0.length c0_0, .slice A0_1 l0_1.length c0_1], .agg #[.slice A1_0 l1_0.length c1_0, .slice A1_1 l1_1.length c1_1]] w fun e w' => e = .returned (.bool r) ∧ Below w.heap.size w w' := by
 have hu33 := Try.underlying33
 have HR0_0 := A_ hr0_0
 have HC0_0 := A_ hc0_0
 clear hr0_0 hc0_0
 have HR0_1 := A_ hr0_1
 have HC0_1 := A_ hc0_1
 clear hr0_1 hc0_1
 have HR1_0 := A_ hr1_0
 have HC1_0 := A_ hc1_0
 clear hr1_0 hc1_0
 have HR1_1 := A_ hr1_1
 have HC1_1 := A_ hc1_1
 clear hr1_1 hc1_1
 have HB := A_ (Below.refl w.heap.size w)
 have H := h
 unfold Z18.f at H
 clear h
 obtain ⟨t261, A3, H⟩ := bi_ H
 by_cases c4 : t261 = true
 ·subst c4
  rw [if_pos rfl] at H
  obtain ⟨t262, A5, H⟩ := bi_ H
  obtain rfl := Option.some.inj H
  go_enter Try.func18, Try.ntmps18
  go_wp2_with (first | ((with_reducible refine gB_ (N := 2) rfl ?_); refine bx_ 2 #[.slice A0_0 l0_0.length c0_0, .slice A0_1 l0_1.length c0_1] 33 ?_; intro gb259 hg w6 hbox hb; have BK259 := A_ hbox; have GW259 := gw_ w hg; have GE259 := GW259; replace HB := b1_ hb; clear hb hbox hg) | ((with_reducible refine gB_ (N := 3) rfl ?_); refine bx_ 3 #[.slice A1_0 l1_0.length c1_0, .slice A1_1 l1_1.length c1_1] 33 ?_; intro gb260 hg w7 hbox hb; have BK260 := A_ hbox; have GW260 := gw_ w hg; have GE260 := GW260; replace HB := b1_ hb; have NB259_260 := gN_ BK259 hg; have NB260_259 := gP_ BK259 hg; replace BK259 := bb_ BK259 hb; clear hb hbox hg; have hnb8 := NB259_260.out; have hnc8 := NB260_259.out; obtain ⟨hcz9_0, hcz9_1, hfz9_0, hfz9_1⟩ := c2_ BK259; obtain ⟨hcz10_0, hcz10_1, hfz10_0, hfz10_1⟩ := c2_ BK260) | ((with_reducible refine gA_ (f := 56) rfl ?_); refine gL_ (some 9) Try.func56 #[.slice A0_0 l0_0.length c0_0, .slice A1_0 l1_0.length c1_0] rfl qa_ ?_; (with_reducible refine (Z38.calls k _ _ l0_0 _ _ l1_0 true _ (cb_ HR0_0) HC0_0.out (cb_ HR1_0) HC1_0.out A3.out).mono ?_); rintro e w' ⟨rfl, ⟨nd, rfl⟩⟩; refine ⟨_, rfl, ?_⟩) | (go_at_call 56; (with_reducible refine (Z38.calls k _ _ l0_1 _ _ l1_1 t262 _ (cw_ (cD_ HR0_1.out hB_)) HC0_1.out (cw_ (cD_ HR1_1.out hB_)) HC1_1.out A5.out).mono ?_); rintro e w' ⟨rfl, ⟨nd, rfl⟩⟩))
  go_ret
  exact ⟨qb_, hB_⟩
 ·replace c4 := Bool.eq_false_iff.mpr c4
  subst c4
  have H1 : (some false) = some r := by rw [if_neg (show ¬ (false = true) by decide)] at H; exact H
  clear H
  have H := H1
  clear H1
  obtain rfl := Option.some.inj H
  go_enter Try.func18, Try.ntmps18
  go_wp2_with (first | ((with_reducible refine gB_ (N := 2) rfl ?_); refine bx_ 2 #[.slice A0_0 l0_0.length c0_0, .slice A0_1 l0_1.length c0_1] 33 ?_; intro gb259 hg w11 hbox hb; have BK259 := A_ hbox; have GW259 := gw_ w hg; have GE259 := GW259; replace HB := b1_ hb; clear hb hbox hg) | ((with_reducible refine gB_ (N := 3) rfl ?_); refine bx_ 3 #[.slice A1_0 l1_0.length c1_0, .slice A1_1 l1_1.length c1_1] 33 ?_; intro gb260 hg w12 hbox hb; have BK260 := A_ hbox; have GW260 := gw_ w hg; have GE260 := GW260; replace HB := b1_ hb; have NB259_260 := gN_ BK259 hg; have NB260_259 := gP_ BK259 hg; replace BK259 := bb_ BK259 hb; clear hb hbox hg; have hnb13 := NB259_260.out; have hnc13 := NB260_259.out; obtain ⟨hcz14_0, hcz14_1, hfz14_0, hfz14_1⟩ := c2_ BK259; obtain ⟨hcz15_0, hcz15_1, hfz15_0, hfz15_1⟩ := c2_ BK260) | ((with_reducible refine gA_ (f := 56) rfl ?_); refine gL_ (some 9) Try.func56 #[.slice A0_0 l0_0.length c0_0, .slice A1_0 l1_0.length c1_0] rfl qa_ ?_; (with_reducible refine (Z38.calls k _ _ l0_0 _ _ l1_0 false _ (cb_ HR0_0) HC0_0.out (cb_ HR1_0) HC1_0.out A3.out).mono ?_); rintro e w' ⟨rfl, ⟨nd, rfl⟩⟩; refine ⟨_, rfl, ?_⟩))
  go_ret
  exact ⟨qb_, hB_⟩
def Z3.l0 : Nat → Int → List (S33) → Int → Int → List Int → List Int → Option (Int)
 | 0, _, _, _, _, _, _ => none
 | k + 1, x5, x14, x15, x16, x754000, x754001 => if x16 < x15 then (if 0 ≤ x16 then (if x16 < (x14.length : Int) then ((Z18.f k ((rd_T33 x14 x16).f0) ((rd_T33 x14 x16).f1) x754000 x754001).bind fun t759 => (if t759 = true then (Z3.l0 k (wrap64 (x5 + 1)) x14 x15 (wrap64 (x16 + 1)) x754000 x754001) else (Z3.l0 k x5 x14 x15 (wrap64 (x16 + 1)) x754000 x754001))) else (none)) else (none)) else (some x5)
def Z3.f (k : Nat) (l0_0 : List Int) (l0_1 : List Int) : Option (Int) := (Z45.f k l0_0 l0_1).bind fun bt746 => ((Z32.f k l0_0 l0_1).bind fun t754 => (Z3.l0 k 0 t754 (t754.length : Int) 0 bt746.1 bt746.2.1))
theorem Z3.mono_l : ∀ k, (∀ y0 y1 y2 y3 y4 y5, LeO (Z3.l0 k y0 y1 y2 y3 y4 y5) (Z3.l0 (k + 1) y0 y1 y2 y3 y4 y5))
 | 0 => fun _ _ _ _ _ _ r h => by simp [Z3.l0] at h
 | k + 1 => by
  have ih0 := Z3.mono_l k
  ·intro y0 y1 y2 y3 y4 y5
   unfold Z3.l0
   repeat' first|exact ih0 _ _ _ _ _ _|exact Z45.mono _ _ _|exact Z18.mono _ _ _ _ _|exact Z32.mono _ _ _|exact lo_|refine LeO.ite ?_ ?_|refine LeO.bind ?_ (fun _ => ?_)
theorem Z3.mono : ∀ a0 a1 k, LeO (Z3.f k a0 a1) (Z3.f (k + 1) a0 a1) := by
 intro a0 a1 k
 have ih0 := Z3.mono_l k
 unfold Z3.f
 repeat' first|exact ih0 _ _ _ _ _ _|exact Z45.mono _ _ _|exact Z18.mono _ _ _ _ _|exact Z32.mono _ _ _|exact lo_|refine LeO.ite ?_ ?_|refine LeO.bind ?_ (fun _ => ?_)
set_option maxHeartbeats 8000000 in
set_option maxRecDepth 100000 in
theorem Z3.calls (k : Nat) (A0_0 : Option Addr) (c0_0 : Nat) (l0_0 : List Int) (A0_1 : Option Addr) (c0_1 : Nat) (l0_1 : List Int) (r : Int) (w : World) (hr0_0 : Kd.C (Kd.int .i64) w A0_0 l0_0.length l0_0) (hc0_0 : l0_0.length ≤ c0_0) (hr0_1 : Kd.C (Kd.int .i64) w A0_1 l0_1.length l0_1) (hc0_1 : l0_1.length ≤ c0_1) (h : Z3.f k l0_0 l0_1 = some r) :
  Calls Try.prog 28 #[.agg #[.slice A0_0 l0_0.length c0_0, .slice A0_1 l0_1.length c0_1]] w fun e w' => e = .returned (.int .i64 r) ∧ Below w.heap.size w w' := by
 have hu33 := Try.underlying33
 have HR0_0 := A_ hr0_0
 have HC0_0 := A_ hc0_0
 clear hr0_0 hc0_0
 have HR0_1 := A_ hr0_1
 have HC0_1 := A_ hc0_1
 clear hr0_1 hc0_1
 have HB := A_ (Below.refl w.heap.size w)
 have H := h
 unfold Z3.f at H
 clear h
 obtain ⟨⟨t746, t749, t752⟩, A2, H⟩ := bi_ H
 try dsimp only at H
 obtain ⟨t754, A3, H⟩ := bi_ H
 have H' := A_ H
 clear H
 go_enter Try.func28, Try.ntmps28
 go_wp2_with (first | ((with_reducible refine gB_ (N := 1) rfl ?_); refine bx_ 1 #[.slice A0_0 l0_0.length c0_0, .slice A0_1 l0_1.length c0_1] 33 ?_; intro gb745 hg w4 hbox hb; have BK745 := A_ hbox; have GW745 := gw_ w hg; have GE745 := GW745; replace HB := b1_ hb; clear hb hbox hg; obtain ⟨hcz5_0, hcz5_1, hfz5_0, hfz5_1⟩ := c2_ BK745) | ((with_reducible refine gA_ (f := 17) rfl ?_); refine gL_ (some 10) Try.func17 #[.agg #[.slice A0_0 l0_0.length c0_0, .slice A0_1 l0_1.length c0_1]] rfl qa_ ?_; (with_reducible refine (Z45.calls k _ _ l0_0 _ _ l0_1 t746 t749 t752 _ (cb_ HR0_0) HC0_0.out (cb_ HR0_1) HC0_1.out A2.out).mono ?_); rintro e w6 ⟨v747, v750, rfl, ho0, ho1, hb⟩; refine ⟨_, rfl, ?_⟩; have HO748 := A_ (Kd.V_lower (Kd.V_mono (ok' := fun k_ => k_ ≠ gb745) ho0 (fun k_ hk_ => (Kd.freshB (kk_ BK745) k_ hk_))) (bF_ hB_)); have HO751 := A_ (Kd.V_lower (Kd.V_mono (ok' := fun k_ => k_ ≠ gb745) ho1 (fun k_ hk_ => (Kd.freshB (kk_ BK745) k_ hk_))) (bF_ hB_)); replace BK745 := bb_ BK745 hb; replace HB := b1_ hb; clear hb ho0 ho1) | ((with_reducible refine gB_ (N := 3) rfl ?_); refine bx_ 3 #[.slice none 0 0, .slice none 0 0] 33 ?_; intro gb753 hg w7 hbox hb; replace HO748 := A_ (Kd.V_below (Kd.V_elderB (by (with_reducible repeat (first | apply Kd.V_alloc | apply Kd.V_drewN | apply Kd.V_drew)); exact HO748.out) gb753 (Nat.le_of_eq hg.symm)) hb); replace HO751 := A_ (Kd.V_below (Kd.V_elderB (by (with_reducible repeat (first | apply Kd.V_alloc | apply Kd.V_drewN | apply Kd.V_drew)); exact HO751.out) gb753 (Nat.le_of_eq hg.symm)) hb); have BK753 := A_ hbox; have GW753 := gw_ w hg; have GE753 := GW753; replace HB := b1_ hb; have NB745_753 := gN_ BK745 hg; have NB753_745 := gP_ BK745 hg; replace BK745 := bb_ BK745 hb; clear hb hbox hg; obtain ⟨Ao8, co8, eo8⟩ := Kd.V_slice HO748.out; subst eo8; have hnb9 := NB753_745.out; have hnc9 := NB745_753.out; obtain ⟨hcz10_0, hcz10_1, hfz10_0, hfz10_1⟩ := c2_ BK753; obtain ⟨Ao11, co11, eo11⟩ := Kd.V_slice HO751.out; subst eo11; obtain ⟨hcz12_0, hcz12_1, hfz12_0, hfz12_1⟩ := c2_ BK745) | ((with_reducible refine gA_ (f := 58) rfl ?_); refine gL_ (some 14) Try.func58 #[.agg #[.slice A0_0 l0_0.length c0_0, .slice A0_1 l0_1.length c0_1]] rfl qa_ ?_; (with_reducible refine (Z32.calls k _ _ l0_0 _ _ l0_1 t754 _ (cD_ HR0_0.out hB_) HC0_0.out (cD_ HR0_1.out hB_) HC0_1.out A3.out).mono ?_); rintro e w13 ⟨v755, rfl, ho0, hb⟩; refine ⟨_, rfl, ?_⟩; replace HO748 := A_ (Kd.V_elder' (by (with_reducible repeat (first | apply Kd.V_alloc | apply Kd.V_drewN | apply Kd.V_drew)); exact (Kd.V_mono (Kd.V_far (p := ⟨gb753, 1, none⟩) (Kd.V_far (p := ⟨gb753, 0, none⟩) (Kd.V_mono HO748.out (fun k_ hk => (⟨hk, hk.2⟩ : _ ∧ k_ ≠ gb753))) (fun _ hk => hk.2) (.slice Ao8 t746.length co8)) (fun _ hk => hk.2) (.slice Ao11 t749.length co11)) (fun _ h_ => h_.1))) (Kd.S_base ho0) hb); replace HO751 := A_ (Kd.V_elder' (by (with_reducible repeat (first | apply Kd.V_alloc | apply Kd.V_drewN | apply Kd.V_drew)); exact (Kd.V_mono (Kd.V_far (p := ⟨gb753, 1, none⟩) (Kd.V_far (p := ⟨gb753, 0, none⟩) (Kd.V_mono HO751.out (fun k_ hk => (⟨hk, hk.2⟩ : _ ∧ k_ ≠ gb753))) (fun _ hk => hk.2) (.slice Ao8 t746.length co8)) (fun _ hk => hk.2) (.slice Ao11 t749.length co11)) (fun _ h_ => h_.1))) (Kd.S_base ho0) hb); have HO756 := A_ (Kd.S_lower (Kd.S_newB (Kd.S_newB ho0 (g := gb745) (o := .cells #[.slice A0_0 l0_0.length c0_0, .slice A0_1 l0_1.length c0_1] 33 (0, 0)) (by (with_reducible repeat (first | refine kA_ ?_ _ | refine kB_ ?_ | refine kC_ ?_ _)); refine blk_far ?_ NB745_753.out _; (with_reducible repeat (first | refine kA_ ?_ _ | refine kB_ ?_ | refine kC_ ?_ _)); refine blk_far ?_ NB745_753.out _; (with_reducible repeat (first | refine kA_ ?_ _ | refine kB_ ?_ | refine kC_ ?_ _)); exact BK745.out)) (g := gb753) (o := .cells #[.slice Ao8 t746.length co8, .slice Ao11 t749.length co11] 33 (0, 0)) qp_) (bF_ hB_)); replace BK745 := A_ (kE_ (g := gb745) (o := .cells #[.slice A0_0 l0_0.length c0_0, .slice A0_1 l0_1.length c0_1] 33 (0, 0)) (by (with_reducible repeat (first | refine kA_ ?_ _ | refine kB_ ?_ | refine kC_ ?_ _)); refine blk_far ?_ NB745_753.out _; (with_reducible repeat (first | refine kA_ ?_ _ | refine kB_ ?_ | refine kC_ ?_ _)); refine blk_far ?_ NB745_753.out _; (with_reducible repeat (first | refine kA_ ?_ _ | refine kB_ ?_ | refine kC_ ?_ _)); exact BK745.out) hb); replace BK753 := A_ (kE_ (g := gb753) (o := .cells #[.slice Ao8 t746.length co8, .slice Ao11 t749.length co11] 33 (0, 0)) qp_ hb); replace HB := b1_ hb; clear hb ho0; obtain ⟨Ao14, co14, eo14⟩ := Kd.S_slice HO756.out; subst eo14))
 go_loopg [5, 16] k (fun kq v5 v16 w' => ∃ (x5_1 : Int) (x16_1 : Int), v5 = .int .i64 x5_1 ∧ v16 = .int .i64 x16_1 ∧ Aside0 (Z3.l0 kq x5_1 t754 (t754.length : Int) x16_1 t746 t749 = some r) ∧ Aside0 (kq ≤ k) ∧ Aside0 (Kd.S k33 33 w' w.heap.size (fun k_ => k_ ≠ gb745 ∧ k_ ≠ gb753) (.slice Ao14 t754.length co14) t754) ∧ Aside0 (Kd.V (Kd.int .i64) 3 w' w.heap.size (fun k_ => some k_ ≠ ((.slice Ao14 t754.length co14) : Value).ownBlock ∧ k_ ≠ gb745 ∧ k_ ≠ gb753) (.slice Ao8 t746.length co8) t746) ∧ Aside0 (Kd.V (Kd.int .i64) 3 w' w.heap.size (fun k_ => some k_ ≠ ((.slice Ao14 t754.length co14) : Value).ownBlock ∧ k_ ≠ gb745 ∧ k_ ≠ gb753) (.slice Ao11 t749.length co11) t749) ∧ Aside0 (w'.heap[gb745]? = some (.cells #[(.slice A0_0 l0_0.length c0_0), (.slice A0_1 l0_1.length c0_1)] 33 (0, 0))) ∧ Aside0 (w'.heap[gb753]? = some (.cells #[(.slice Ao8 t746.length co8), (.slice Ao11 t749.length co11)] 33 (0, 0))) ∧ Aside0 (Below w.heap.size w w'))
 case atStart => exact ⟨(0), (0), qc_, qc_, H', ⟨nA_ _⟩, ⟨(sw_ (Kd.S_mono HO756.out (fun _ hk => ⟨hk.1.2, hk.2⟩)))⟩, ⟨by (with_reducible repeat (first | apply Kd.V_alloc | apply Kd.V_drewN | apply Kd.V_drew)); exact Kd.V_mono HO748.out (fun _ hk => ⟨hk.2, ⟨hk.1.1, hk.1.2⟩⟩)⟩, ⟨by (with_reducible repeat (first | apply Kd.V_alloc | apply Kd.V_drewN | apply Kd.V_drew)); exact Kd.V_mono HO751.out (fun _ hk => ⟨hk.2, ⟨hk.1.1, hk.1.2⟩⟩)⟩, ⟨(kk_ BK745)⟩, ⟨(kk_ BK753)⟩, ⟨hB_⟩⟩
 case round =>
  clear H'
  obtain ⟨x5_1, x16_1, rfl, rfl, HA, HK1, HO_14, HO_754000, HO_754001, BK745, BK753, HB⟩ := hrel
  cases gk with
  | zero => exact absurd HA.out (by simp [Z3.l0])
  | succ k1 =>
   have H := HA.out
   clear HA
   simp only [Z3.l0] at H
   by_cases c15 : x16_1 < (t754.length : Int)
   ·rw [if_pos c15] at H
    have c15b0 := oC_ c15
    clear c15
    have c16 := cp_ H
    replace H := ca_ H
    have c16b0 := oC_ c16
    clear c16
    have c17 := cp_ H
    replace H := ca_ H
    have c17b0 := oC_ c17
    clear c17
    obtain ⟨t759, A18, H⟩ := bi_ H
    by_cases c19 : t759 = true
    ·subst c19
     rw [if_pos rfl] at H
     have H' := A_ H
     clear H
     have p757 : 0 ≤ (x16_1 : Int) := oB_ qe_
     have q757 : x16_1 < (t754.length : Int) := oB_ qe_
     obtain ⟨ad757, A757_0, c757_0, A757_1, c757_1, e757, hx757_0, hx757_1, hl757_0, hi757_0, hl757_1, hi757_1⟩ := at_T33 (Kd.S_reads' HO_14.out).2.2 x16_1 p757 q757
     cases e757
     obtain ⟨ce757, hce757, hMe757, hcc757⟩ := Kd.S_get HO_14.out z33 x16_1 p757 (by first | exact q757 | exact oB_ qe_ | (have e_ := (Kd.S_reads' HO_14.out).1; omega))
     obtain ⟨ve757_0, ve757_1, rfl, ge757_0, ge757_1⟩ := k33_openM hMe757
     have hv757_0 := hcc757 0 _ rfl
     rw [Nat.add_zero] at hv757_0
     replace hv757_0 := Option.some.inj (hv757_0.symm.trans hx757_0)
     rw [hv757_0] at ge757_0
     have HL757_0 := A_ (show Kd.R (Kd.int .i64) 3 _ _ _ _ ((rd_T33 t754 x16_1).f0) from ge757_0)
     clear hv757_0 ge757_0
     have hv757_1 := hcc757 1 _ rfl
     rw [add_field _ _ 1 (by omega)] at hv757_1
     replace hv757_1 := Option.some.inj (hv757_1.symm.trans hx757_1)
     rw [hv757_1] at ge757_1
     have HL757_1 := A_ (show Kd.R (Kd.int .i64) 3 _ _ _ _ ((rd_T33 t754 x16_1).f1) from ge757_1)
     clear hv757_1 ge757_1
     clear hcc757 hce757
     have HR757_0 := A_ hi757_0
     have HC757_0 := A_ hl757_0
     clear hi757_0 hl757_0
     have HR757_1 := A_ hi757_1
     have HC757_1 := A_ hl757_1
     clear hi757_1 hl757_1
     replace p757 := eq_true p757
     replace q757 := eq_true q757
     go_wp2_with (first | ((with_reducible refine gB_ (N := 7) rfl ?_); refine bx_ 7 #[.slice none 0 0, .slice none 0 0] 33 ?_; intro gb758 hg w20 hbox hb; replace HO_14 := A_ (Kd.S_below (Kd.S_elderB (ss_ HO_14) gb758 (Nat.le_of_eq hg.symm)) hb); replace HO_754000 := A_ (Kd.V_below (Kd.V_elderB (by (with_reducible repeat (first | apply Kd.V_alloc | apply Kd.V_drewN | apply Kd.V_drew)); exact HO_754000.out) gb758 (Nat.le_of_eq hg.symm)) hb); replace HO_754001 := A_ (Kd.V_below (Kd.V_elderB (by (with_reducible repeat (first | apply Kd.V_alloc | apply Kd.V_drewN | apply Kd.V_drew)); exact HO_754001.out) gb758 (Nat.le_of_eq hg.symm)) hb); replace HL757_0 := rb_ HL757_0 hb; replace HL757_1 := rb_ HL757_1 hb; replace HR757_0 := A_ (cD_ (by repeat (first | (with_reducible exact HR757_0.out) | (with_reducible refine cA_ ?_ _) | (with_reducible refine cB_ ?_ _) | (with_reducible refine cC_ ?_) | exact HR757_0.out)) hb); replace HR757_1 := A_ (cD_ (by repeat (first | (with_reducible exact HR757_1.out) | (with_reducible refine cA_ ?_ _) | (with_reducible refine cB_ ?_ _) | (with_reducible refine cC_ ?_) | exact HR757_1.out)) hb); have BK758 := A_ hbox; have GW758 := gw_ w hg; have GE758 := GW758; replace HB := b1_ hb; have NB745_758 := gN_ BK745 hg; have NB758_745 := gP_ BK745 hg; replace BK745 := bb_ BK745 hb; have NB753_758 := gN_ BK753 hg; have NB758_753 := gP_ BK753 hg; replace BK753 := bb_ BK753 hb; clear hb hbox hg; have hnb21 := NB758_745.out; have hnc21 := NB745_758.out; have hnb22 := NB758_753.out; have hnc22 := NB753_758.out; obtain ⟨hcz23_0, hcz23_1, hfz23_0, hfz23_1⟩ := c2_ BK758; have hnb24 := NB753_745.out; have hnc24 := NB745_753.out; obtain ⟨hcz25_0, hcz25_1, hfz25_0, hfz25_1⟩ := c2_ BK753) | ((with_reducible refine gA_ (f := 18) rfl ?_); refine gL_ (some 22) Try.func18 #[.agg #[.slice A757_0 ((rd_T33 t754 x16_1).f0).length c757_0, .slice A757_1 ((rd_T33 t754 x16_1).f1).length c757_1], .agg #[.slice Ao8 t746.length co8, .slice Ao11 t749.length co11]] rfl qa_ ?_; (with_reducible refine (Z18.calls k1 _ _ ((rd_T33 t754 x16_1).f0) _ _ ((rd_T33 t754 x16_1).f1) _ _ t746 _ _ t749 true _ ?side1 ?side2 ?side3 ?side4 ?side5 ?side6 ?side7 ?side8 A18.out).mono ?_); (case side1 => repeat (first | exact ((Kd.R_reads' (rw_ (Kd.R_mono (Kd.R_far (p := ⟨gb758, 1, none⟩) (Kd.R_far (p := ⟨gb758, 0, none⟩) (Kd.R_types HL757_0.out BK758.out (by decide)) (fun _ hk => hk.2) (.slice A757_0 ((rd_T33 t754 x16_1).f0).length c757_0)) (fun _ hk => hk.2) (.slice A757_1 ((rd_T33 t754 x16_1).f1).length c757_1)) (fun _ h_ => h_.1)))).2.2) | (with_reducible first | refine cA_ ?_ _ | refine cB_ ?_ _ | refine cC_ ?_))); (case side2 => exact HC757_0.out); (case side3 => repeat (first | exact ((Kd.R_reads' (rw_ (Kd.R_mono (Kd.R_far (p := ⟨gb758, 1, none⟩) (Kd.R_far (p := ⟨gb758, 0, none⟩) (Kd.R_types HL757_1.out BK758.out (by decide)) (fun _ hk => hk.2) (.slice A757_0 ((rd_T33 t754 x16_1).f0).length c757_0)) (fun _ hk => hk.2) (.slice A757_1 ((rd_T33 t754 x16_1).f1).length c757_1)) (fun _ h_ => h_.1)))).2.2) | (with_reducible first | refine cA_ ?_ _ | refine cB_ ?_ _ | refine cC_ ?_))); (case side4 => exact HC757_1.out); (case side5 => refine (Kd.V_reads' (e := 3) (base := w.heap.size) (ok := fun k_ => ((some k_ ≠ (.slice (some ad757) t754.length co14 : Value).ownBlock ∧ (k_ ≠ gb745 ∧ k_ ≠ gb753)) ∧ k_ ≠ gb758)) (n := t746.length) (c := co8) ?_).2.2; exact (by (with_reducible repeat (first | apply Kd.V_alloc | apply Kd.V_drewN | apply Kd.V_drew)); exact (Kd.V_mono (Kd.V_far (p := ⟨gb758, 1, none⟩) (Kd.V_far (p := ⟨gb758, 0, none⟩) (Kd.V_mono HO_754000.out (fun k_ hk => (⟨hk, hk.2⟩ : _ ∧ k_ ≠ gb758))) (fun _ hk => hk.2) (.slice A757_0 ((rd_T33 t754 x16_1).f0).length c757_0)) (fun _ hk => hk.2) (.slice A757_1 ((rd_T33 t754 x16_1).f1).length c757_1)) (fun _ h_ => h_.1)))); (case side6 => exact (Kd.V_reads' HO_754000.out).2.1); (case side7 => refine (Kd.V_reads' (e := 3) (base := w.heap.size) (ok := fun k_ => ((some k_ ≠ (.slice (some ad757) t754.length co14 : Value).ownBlock ∧ (k_ ≠ gb745 ∧ k_ ≠ gb753)) ∧ k_ ≠ gb758)) (n := t749.length) (c := co11) ?_).2.2; exact (by (with_reducible repeat (first | apply Kd.V_alloc | apply Kd.V_drewN | apply Kd.V_drew)); exact (Kd.V_mono (Kd.V_far (p := ⟨gb758, 1, none⟩) (Kd.V_far (p := ⟨gb758, 0, none⟩) (Kd.V_mono HO_754001.out (fun k_ hk => (⟨hk, hk.2⟩ : _ ∧ k_ ≠ gb758))) (fun _ hk => hk.2) (.slice A757_0 ((rd_T33 t754 x16_1).f0).length c757_0)) (fun _ hk => hk.2) (.slice A757_1 ((rd_T33 t754 x16_1).f1).length c757_1)) (fun _ h_ => h_.1)))); (case side8 => exact (Kd.V_reads' HO_754001.out).2.1); rintro e w26 ⟨rfl, hb⟩; refine ⟨_, rfl, ?_⟩; replace HO_14 := A_ (Kd.S_below (sw_ (Kd.S_mono (Kd.S_far (p := ⟨gb758, 1, none⟩) (Kd.S_far (p := ⟨gb758, 0, none⟩) (Kd.S_mono HO_14.out (fun k_ hk => (⟨hk, hk.2⟩ : _ ∧ k_ ≠ gb758))) (fun _ hk => hk.2) (.slice A757_0 ((rd_T33 t754 x16_1).f0).length c757_0)) (fun _ hk => hk.2) (.slice A757_1 ((rd_T33 t754 x16_1).f1).length c757_1)) (fun _ h_ => h_.1))) hb); replace HO_754000 := A_ (Kd.V_below (by (with_reducible repeat (first | apply Kd.V_alloc | apply Kd.V_drewN | apply Kd.V_drew)); exact (Kd.V_mono (Kd.V_far (p := ⟨gb758, 1, none⟩) (Kd.V_far (p := ⟨gb758, 0, none⟩) (Kd.V_mono HO_754000.out (fun k_ hk => (⟨hk, hk.2⟩ : _ ∧ k_ ≠ gb758))) (fun _ hk => hk.2) (.slice A757_0 ((rd_T33 t754 x16_1).f0).length c757_0)) (fun _ hk => hk.2) (.slice A757_1 ((rd_T33 t754 x16_1).f1).length c757_1)) (fun _ h_ => h_.1))) hb); replace HO_754001 := A_ (Kd.V_below (by (with_reducible repeat (first | apply Kd.V_alloc | apply Kd.V_drewN | apply Kd.V_drew)); exact (Kd.V_mono (Kd.V_far (p := ⟨gb758, 1, none⟩) (Kd.V_far (p := ⟨gb758, 0, none⟩) (Kd.V_mono HO_754001.out (fun k_ hk => (⟨hk, hk.2⟩ : _ ∧ k_ ≠ gb758))) (fun _ hk => hk.2) (.slice A757_0 ((rd_T33 t754 x16_1).f0).length c757_0)) (fun _ hk => hk.2) (.slice A757_1 ((rd_T33 t754 x16_1).f1).length c757_1)) (fun _ h_ => h_.1))) hb); replace BK745 := A_ (kE_ (g := gb745) (o := .cells #[.slice A0_0 l0_0.length c0_0, .slice A0_1 l0_1.length c0_1] 33 (0, 0)) (by (with_reducible repeat (first | refine kA_ ?_ _ | refine kB_ ?_ | refine kC_ ?_ _)); refine blk_far ?_ NB745_758.out _; (with_reducible repeat (first | refine kA_ ?_ _ | refine kB_ ?_ | refine kC_ ?_ _)); refine blk_far ?_ NB745_758.out _; (with_reducible repeat (first | refine kA_ ?_ _ | refine kB_ ?_ | refine kC_ ?_ _)); exact BK745.out) hb); replace BK753 := A_ (kE_ (g := gb753) (o := .cells #[.slice Ao8 t746.length co8, .slice Ao11 t749.length co11] 33 (0, 0)) (by (with_reducible repeat (first | refine kA_ ?_ _ | refine kB_ ?_ | refine kC_ ?_ _)); refine blk_far ?_ NB753_758.out _; (with_reducible repeat (first | refine kA_ ?_ _ | refine kB_ ?_ | refine kC_ ?_ _)); refine blk_far ?_ NB753_758.out _; (with_reducible repeat (first | refine kA_ ?_ _ | refine kB_ ?_ | refine kC_ ?_ _)); exact BK753.out) hb); replace HR757_0 := A_ (cD_ ((Kd.R_reads' (rw_ (Kd.R_mono (Kd.R_far (p := ⟨gb758, 1, none⟩) (Kd.R_far (p := ⟨gb758, 0, none⟩) (Kd.R_types HL757_0.out BK758.out (by decide)) (fun _ hk => hk.2) (.slice A757_0 ((rd_T33 t754 x16_1).f0).length c757_0)) (fun _ hk => hk.2) (.slice A757_1 ((rd_T33 t754 x16_1).f1).length c757_1)) (fun _ h_ => h_.1)))).2.2) hb); replace HL757_0 := A_ (rD_ (rw_ (Kd.R_mono (Kd.R_far (p := ⟨gb758, 1, none⟩) (Kd.R_far (p := ⟨gb758, 0, none⟩) (Kd.R_types HL757_0.out BK758.out (by decide)) (fun _ hk => hk.2) (.slice A757_0 ((rd_T33 t754 x16_1).f0).length c757_0)) (fun _ hk => hk.2) (.slice A757_1 ((rd_T33 t754 x16_1).f1).length c757_1)) (fun _ h_ => h_.1))) hb); replace HR757_1 := A_ (cD_ ((Kd.R_reads' (rw_ (Kd.R_mono (Kd.R_far (p := ⟨gb758, 1, none⟩) (Kd.R_far (p := ⟨gb758, 0, none⟩) (Kd.R_types HL757_1.out BK758.out (by decide)) (fun _ hk => hk.2) (.slice A757_0 ((rd_T33 t754 x16_1).f0).length c757_0)) (fun _ hk => hk.2) (.slice A757_1 ((rd_T33 t754 x16_1).f1).length c757_1)) (fun _ h_ => h_.1)))).2.2) hb); replace HL757_1 := A_ (rD_ (rw_ (Kd.R_mono (Kd.R_far (p := ⟨gb758, 1, none⟩) (Kd.R_far (p := ⟨gb758, 0, none⟩) (Kd.R_types HL757_1.out BK758.out (by decide)) (fun _ hk => hk.2) (.slice A757_0 ((rd_T33 t754 x16_1).f0).length c757_0)) (fun _ hk => hk.2) (.slice A757_1 ((rd_T33 t754 x16_1).f1).length c757_1)) (fun _ h_ => h_.1))) hb); replace BK758 := A_ (kE_ (g := gb758) (o := .cells #[.slice A757_0 ((rd_T33 t754 x16_1).f0).length c757_0, .slice A757_1 ((rd_T33 t754 x16_1).f1).length c757_1] 33 (0, 0)) qp_ hb); replace HB := b1_ hb; clear hb))
     go_roundg k1
     case measure => have := HK1.out; omega
     case rel => exact ⟨(wrap64 (x5_1 + 1)), (wrap64 (x16_1 + 1)), qc_, qc_, H', ⟨by have := HK1.out; omega⟩, ⟨(sw_ (Kd.S_mono HO_14.out (fun _ hk => ⟨hk.1.1, hk.1.2⟩)))⟩, ⟨by (with_reducible repeat (first | apply Kd.V_alloc | apply Kd.V_drewN | apply Kd.V_drew)); exact Kd.V_mono HO_754000.out (fun _ hk => ⟨hk.1.1, ⟨hk.1.2.1, hk.1.2.2⟩⟩)⟩, ⟨by (with_reducible repeat (first | apply Kd.V_alloc | apply Kd.V_drewN | apply Kd.V_drew)); exact Kd.V_mono HO_754001.out (fun _ hk => ⟨hk.1.1, ⟨hk.1.2.1, hk.1.2.2⟩⟩)⟩, ⟨(kk_ BK745)⟩, ⟨(kk_ BK753)⟩, ⟨hB_⟩⟩
    ·replace c19 := Bool.eq_false_iff.mpr c19
     subst c19
     have H1 : (Z3.l0 k1 x5_1 t754 (t754.length : Int) (wrap64 (x16_1 + 1)) t746 t749) = some r := by rw [if_neg (show ¬ (false = true) by decide)] at H; exact H
     clear H
     have H := H1
     clear H1
     have H' := A_ H
     clear H
     have p757 : 0 ≤ (x16_1 : Int) := oB_ qe_
     have q757 : x16_1 < (t754.length : Int) := oB_ qe_
     obtain ⟨ad757, A757_0, c757_0, A757_1, c757_1, e757, hx757_0, hx757_1, hl757_0, hi757_0, hl757_1, hi757_1⟩ := at_T33 (Kd.S_reads' HO_14.out).2.2 x16_1 p757 q757
     cases e757
     obtain ⟨ce757, hce757, hMe757, hcc757⟩ := Kd.S_get HO_14.out z33 x16_1 p757 (by first | exact q757 | exact oB_ qe_ | (have e_ := (Kd.S_reads' HO_14.out).1; omega))
     obtain ⟨ve757_0, ve757_1, rfl, ge757_0, ge757_1⟩ := k33_openM hMe757
     have hv757_0 := hcc757 0 _ rfl
     rw [Nat.add_zero] at hv757_0
     replace hv757_0 := Option.some.inj (hv757_0.symm.trans hx757_0)
     rw [hv757_0] at ge757_0
     have HL757_0 := A_ (show Kd.R (Kd.int .i64) 3 _ _ _ _ ((rd_T33 t754 x16_1).f0) from ge757_0)
     clear hv757_0 ge757_0
     have hv757_1 := hcc757 1 _ rfl
     rw [add_field _ _ 1 (by omega)] at hv757_1
     replace hv757_1 := Option.some.inj (hv757_1.symm.trans hx757_1)
     rw [hv757_1] at ge757_1
     have HL757_1 := A_ (show Kd.R (Kd.int .i64) 3 _ _ _ _ ((rd_T33 t754 x16_1).f1) from ge757_1)
     clear hv757_1 ge757_1
     clear hcc757 hce757
     have HR757_0 := A_ hi757_0
     have HC757_0 := A_ hl757_0
     clear hi757_0 hl757_0
     have HR757_1 := A_ hi757_1
     have HC757_1 := A_ hl757_1
     clear hi757_1 hl757_1
     replace p757 := eq_true p757
     replace q757 := eq_true q757
     go_wp2_with (first | ((with_reducible refine gB_ (N := 7) rfl ?_); refine bx_ 7 #[.slice none 0 0, .slice none 0 0] 33 ?_; intro gb758 hg w27 hbox hb; replace HO_14 := A_ (Kd.S_below (Kd.S_elderB (ss_ HO_14) gb758 (Nat.le_of_eq hg.symm)) hb); replace HO_754000 := A_ (Kd.V_below (Kd.V_elderB (by (with_reducible repeat (first | apply Kd.V_alloc | apply Kd.V_drewN | apply Kd.V_drew)); exact HO_754000.out) gb758 (Nat.le_of_eq hg.symm)) hb); replace HO_754001 := A_ (Kd.V_below (Kd.V_elderB (by (with_reducible repeat (first | apply Kd.V_alloc | apply Kd.V_drewN | apply Kd.V_drew)); exact HO_754001.out) gb758 (Nat.le_of_eq hg.symm)) hb); replace HL757_0 := rb_ HL757_0 hb; replace HL757_1 := rb_ HL757_1 hb; replace HR757_0 := A_ (cD_ (by repeat (first | (with_reducible exact HR757_0.out) | (with_reducible refine cA_ ?_ _) | (with_reducible refine cB_ ?_ _) | (with_reducible refine cC_ ?_) | exact HR757_0.out)) hb); replace HR757_1 := A_ (cD_ (by repeat (first | (with_reducible exact HR757_1.out) | (with_reducible refine cA_ ?_ _) | (with_reducible refine cB_ ?_ _) | (with_reducible refine cC_ ?_) | exact HR757_1.out)) hb); have BK758 := A_ hbox; have GW758 := gw_ w hg; have GE758 := GW758; replace HB := b1_ hb; have NB745_758 := gN_ BK745 hg; have NB758_745 := gP_ BK745 hg; replace BK745 := bb_ BK745 hb; have NB753_758 := gN_ BK753 hg; have NB758_753 := gP_ BK753 hg; replace BK753 := bb_ BK753 hb; clear hb hbox hg; have hnb28 := NB758_745.out; have hnc28 := NB745_758.out; have hnb29 := NB758_753.out; have hnc29 := NB753_758.out; obtain ⟨hcz30_0, hcz30_1, hfz30_0, hfz30_1⟩ := c2_ BK758; have hnb31 := NB753_745.out; have hnc31 := NB745_753.out; obtain ⟨hcz32_0, hcz32_1, hfz32_0, hfz32_1⟩ := c2_ BK753) | ((with_reducible refine gA_ (f := 18) rfl ?_); refine gL_ (some 22) Try.func18 #[.agg #[.slice A757_0 ((rd_T33 t754 x16_1).f0).length c757_0, .slice A757_1 ((rd_T33 t754 x16_1).f1).length c757_1], .agg #[.slice Ao8 t746.length co8, .slice Ao11 t749.length co11]] rfl qa_ ?_; (with_reducible refine (Z18.calls k1 _ _ ((rd_T33 t754 x16_1).f0) _ _ ((rd_T33 t754 x16_1).f1) _ _ t746 _ _ t749 false _ ?side1 ?side2 ?side3 ?side4 ?side5 ?side6 ?side7 ?side8 A18.out).mono ?_); (case side1 => repeat (first | exact ((Kd.R_reads' (rw_ (Kd.R_mono (Kd.R_far (p := ⟨gb758, 1, none⟩) (Kd.R_far (p := ⟨gb758, 0, none⟩) (Kd.R_types HL757_0.out BK758.out (by decide)) (fun _ hk => hk.2) (.slice A757_0 ((rd_T33 t754 x16_1).f0).length c757_0)) (fun _ hk => hk.2) (.slice A757_1 ((rd_T33 t754 x16_1).f1).length c757_1)) (fun _ h_ => h_.1)))).2.2) | (with_reducible first | refine cA_ ?_ _ | refine cB_ ?_ _ | refine cC_ ?_))); (case side2 => exact HC757_0.out); (case side3 => repeat (first | exact ((Kd.R_reads' (rw_ (Kd.R_mono (Kd.R_far (p := ⟨gb758, 1, none⟩) (Kd.R_far (p := ⟨gb758, 0, none⟩) (Kd.R_types HL757_1.out BK758.out (by decide)) (fun _ hk => hk.2) (.slice A757_0 ((rd_T33 t754 x16_1).f0).length c757_0)) (fun _ hk => hk.2) (.slice A757_1 ((rd_T33 t754 x16_1).f1).length c757_1)) (fun _ h_ => h_.1)))).2.2) | (with_reducible first | refine cA_ ?_ _ | refine cB_ ?_ _ | refine cC_ ?_))); (case side4 => exact HC757_1.out); (case side5 => refine (Kd.V_reads' (e := 3) (base := w.heap.size) (ok := fun k_ => ((some k_ ≠ (.slice (some ad757) t754.length co14 : Value).ownBlock ∧ (k_ ≠ gb745 ∧ k_ ≠ gb753)) ∧ k_ ≠ gb758)) (n := t746.length) (c := co8) ?_).2.2; exact (by (with_reducible repeat (first | apply Kd.V_alloc | apply Kd.V_drewN | apply Kd.V_drew)); exact (Kd.V_mono (Kd.V_far (p := ⟨gb758, 1, none⟩) (Kd.V_far (p := ⟨gb758, 0, none⟩) (Kd.V_mono HO_754000.out (fun k_ hk => (⟨hk, hk.2⟩ : _ ∧ k_ ≠ gb758))) (fun _ hk => hk.2) (.slice A757_0 ((rd_T33 t754 x16_1).f0).length c757_0)) (fun _ hk => hk.2) (.slice A757_1 ((rd_T33 t754 x16_1).f1).length c757_1)) (fun _ h_ => h_.1)))); (case side6 => exact (Kd.V_reads' HO_754000.out).2.1); (case side7 => refine (Kd.V_reads' (e := 3) (base := w.heap.size) (ok := fun k_ => ((some k_ ≠ (.slice (some ad757) t754.length co14 : Value).ownBlock ∧ (k_ ≠ gb745 ∧ k_ ≠ gb753)) ∧ k_ ≠ gb758)) (n := t749.length) (c := co11) ?_).2.2; exact (by (with_reducible repeat (first | apply Kd.V_alloc | apply Kd.V_drewN | apply Kd.V_drew)); exact (Kd.V_mono (Kd.V_far (p := ⟨gb758, 1, none⟩) (Kd.V_far (p := ⟨gb758, 0, none⟩) (Kd.V_mono HO_754001.out (fun k_ hk => (⟨hk, hk.2⟩ : _ ∧ k_ ≠ gb758))) (fun _ hk => hk.2) (.slice A757_0 ((rd_T33 t754 x16_1).f0).length c757_0)) (fun _ hk => hk.2) (.slice A757_1 ((rd_T33 t754 x16_1).f1).length c757_1)) (fun _ h_ => h_.1)))); (case side8 => exact (Kd.V_reads' HO_754001.out).2.1); rintro e w33 ⟨rfl, hb⟩; refine ⟨_, rfl, ?_⟩; replace HO_14 := A_ (Kd.S_below (sw_ (Kd.S_mono (Kd.S_far (p := ⟨gb758, 1, none⟩) (Kd.S_far (p := ⟨gb758, 0, none⟩) (Kd.S_mono HO_14.out (fun k_ hk => (⟨hk, hk.2⟩ : _ ∧ k_ ≠ gb758))) (fun _ hk => hk.2) (.slice A757_0 ((rd_T33 t754 x16_1).f0).length c757_0)) (fun _ hk => hk.2) (.slice A757_1 ((rd_T33 t754 x16_1).f1).length c757_1)) (fun _ h_ => h_.1))) hb); replace HO_754000 := A_ (Kd.V_below (by (with_reducible repeat (first | apply Kd.V_alloc | apply Kd.V_drewN | apply Kd.V_drew)); exact (Kd.V_mono (Kd.V_far (p := ⟨gb758, 1, none⟩) (Kd.V_far (p := ⟨gb758, 0, none⟩) (Kd.V_mono HO_754000.out (fun k_ hk => (⟨hk, hk.2⟩ : _ ∧ k_ ≠ gb758))) (fun _ hk => hk.2) (.slice A757_0 ((rd_T33 t754 x16_1).f0).length c757_0)) (fun _ hk => hk.2) (.slice A757_1 ((rd_T33 t754 x16_1).f1).length c757_1)) (fun _ h_ => h_.1))) hb); replace HO_754001 := A_ (Kd.V_below (by (with_reducible repeat (first | apply Kd.V_alloc | apply Kd.V_drewN | apply Kd.V_drew)); exact (Kd.V_mono (Kd.V_far (p := ⟨gb758, 1, none⟩) (Kd.V_far (p := ⟨gb758, 0, none⟩) (Kd.V_mono HO_754001.out (fun k_ hk => (⟨hk, hk.2⟩ : _ ∧ k_ ≠ gb758))) (fun _ hk => hk.2) (.slice A757_0 ((rd_T33 t754 x16_1).f0).length c757_0)) (fun _ hk => hk.2) (.slice A757_1 ((rd_T33 t754 x16_1).f1).length c757_1)) (fun _ h_ => h_.1))) hb); replace BK745 := A_ (kE_ (g := gb745) (o := .cells #[.slice A0_0 l0_0.length c0_0, .slice A0_1 l0_1.length c0_1] 33 (0, 0)) (by (with_reducible repeat (first | refine kA_ ?_ _ | refine kB_ ?_ | refine kC_ ?_ _)); refine blk_far ?_ NB745_758.out _; (with_reducible repeat (first | refine kA_ ?_ _ | refine kB_ ?_ | refine kC_ ?_ _)); refine blk_far ?_ NB745_758.out _; (with_reducible repeat (first | refine kA_ ?_ _ | refine kB_ ?_ | refine kC_ ?_ _)); exact BK745.out) hb); replace BK753 := A_ (kE_ (g := gb753) (o := .cells #[.slice Ao8 t746.length co8, .slice Ao11 t749.length co11] 33 (0, 0)) (by (with_reducible repeat (first | refine kA_ ?_ _ | refine kB_ ?_ | refine kC_ ?_ _)); refine blk_far ?_ NB753_758.out _; (with_reducible repeat (first | refine kA_ ?_ _ | refine kB_ ?_ | refine kC_ ?_ _)); refine blk_far ?_ NB753_758.out _; (with_reducible repeat (first | refine kA_ ?_ _ | refine kB_ ?_ | refine kC_ ?_ _)); exact BK753.out) hb); replace HR757_0 := A_ (cD_ ((Kd.R_reads' (rw_ (Kd.R_mono (Kd.R_far (p := ⟨gb758, 1, none⟩) (Kd.R_far (p := ⟨gb758, 0, none⟩) (Kd.R_types HL757_0.out BK758.out (by decide)) (fun _ hk => hk.2) (.slice A757_0 ((rd_T33 t754 x16_1).f0).length c757_0)) (fun _ hk => hk.2) (.slice A757_1 ((rd_T33 t754 x16_1).f1).length c757_1)) (fun _ h_ => h_.1)))).2.2) hb); replace HL757_0 := A_ (rD_ (rw_ (Kd.R_mono (Kd.R_far (p := ⟨gb758, 1, none⟩) (Kd.R_far (p := ⟨gb758, 0, none⟩) (Kd.R_types HL757_0.out BK758.out (by decide)) (fun _ hk => hk.2) (.slice A757_0 ((rd_T33 t754 x16_1).f0).length c757_0)) (fun _ hk => hk.2) (.slice A757_1 ((rd_T33 t754 x16_1).f1).length c757_1)) (fun _ h_ => h_.1))) hb); replace HR757_1 := A_ (cD_ ((Kd.R_reads' (rw_ (Kd.R_mono (Kd.R_far (p := ⟨gb758, 1, none⟩) (Kd.R_far (p := ⟨gb758, 0, none⟩) (Kd.R_types HL757_1.out BK758.out (by decide)) (fun _ hk => hk.2) (.slice A757_0 ((rd_T33 t754 x16_1).f0).length c757_0)) (fun _ hk => hk.2) (.slice A757_1 ((rd_T33 t754 x16_1).f1).length c757_1)) (fun _ h_ => h_.1)))).2.2) hb); replace HL757_1 := A_ (rD_ (rw_ (Kd.R_mono (Kd.R_far (p := ⟨gb758, 1, none⟩) (Kd.R_far (p := ⟨gb758, 0, none⟩) (Kd.R_types HL757_1.out BK758.out (by decide)) (fun _ hk => hk.2) (.slice A757_0 ((rd_T33 t754 x16_1).f0).length c757_0)) (fun _ hk => hk.2) (.slice A757_1 ((rd_T33 t754 x16_1).f1).length c757_1)) (fun _ h_ => h_.1))) hb); replace BK758 := A_ (kE_ (g := gb758) (o := .cells #[.slice A757_0 ((rd_T33 t754 x16_1).f0).length c757_0, .slice A757_1 ((rd_T33 t754 x16_1).f1).length c757_1] 33 (0, 0)) qp_ hb); replace HB := b1_ hb; clear hb))
     go_roundg k1
     case measure => have := HK1.out; omega
     case rel => exact ⟨(x5_1), (wrap64 (x16_1 + 1)), qc_, qc_, H', ⟨by have := HK1.out; omega⟩, ⟨(sw_ (Kd.S_mono HO_14.out (fun _ hk => ⟨hk.1.1, hk.1.2⟩)))⟩, ⟨by (with_reducible repeat (first | apply Kd.V_alloc | apply Kd.V_drewN | apply Kd.V_drew)); exact Kd.V_mono HO_754000.out (fun _ hk => ⟨hk.1.1, ⟨hk.1.2.1, hk.1.2.2⟩⟩)⟩, ⟨by (with_reducible repeat (first | apply Kd.V_alloc | apply Kd.V_drewN | apply Kd.V_drew)); exact Kd.V_mono HO_754001.out (fun _ hk => ⟨hk.1.1, ⟨hk.1.2.1, hk.1.2.2⟩⟩)⟩, ⟨(kk_ BK745)⟩, ⟨(kk_ BK753)⟩, ⟨hB_⟩⟩
   ·rw [if_neg c15] at H
    have c15b0 := oD_ c15
    clear c15
    obtain rfl := Option.some.inj H
    go_wp2
    go_ret
    exact ⟨qb_, hB_⟩
def Z7.f (k : Nat) (l0_0 : List Int) (l0_1 : List Int) (l1_0 : List Int) (l1_1 : List Int) : Option (Bool) := (Z45.f k l0_0 l0_1).bind fun bt762 => ((Z45.f k l1_0 l1_1).bind fun bt770 => (if bt762.2.2 = true then (if bt770.2.2 = true then ((Z18.f k bt762.1 bt762.2.1 bt770.1 bt770.2.1).bind fun t778 => (some t778)) else (some false)) else (some false)))
theorem Z7.mono : ∀ a0 a1 a2 a3 k, LeO (Z7.f k a0 a1 a2 a3) (Z7.f (k + 1) a0 a1 a2 a3) := by
 intro a0 a1 a2 a3 k
 unfold Z7.f
 repeat' first|exact Z45.mono _ _ _|exact Z18.mono _ _ _ _ _|exact lo_|refine LeO.ite ?_ ?_|refine LeO.bind ?_ (fun _ => ?_)
set_option maxHeartbeats 8000000 in
set_option maxRecDepth 100000 in
theorem Z7.calls (k : Nat) (A0_0 : Option Addr) (c0_0 : Nat) (l0_0 : List Int) (A0_1 : Option Addr) (c0_1 : Nat) (l0_1 : List Int) (A1_0 : Option Addr) (c1_0 : Nat) (l1_0 : List Int) (A1_1 : Option Addr) (c1_1 : Nat) (l1_1 : List Int) (r : Bool) (w : World) (hr0_0 : Kd.C (Kd.int .i64) w A0_0 l0_0.length l0_0) (hc0_0 : l0_0.length ≤ c0_0) (hr0_1 : Kd.C (Kd.int .i64) w A0_1 l0_1.length l0_1) (hc0_1 : l0_1.length ≤ c0_1) (hr1_0 : Kd.C (Kd.int .i64) w A1_0 l1_0.length l1_0) (hc1_0 : l1_0.length ≤ c1_0) (hr1_1 : Kd.C (Kd.int .i64) w A1_1 l1_1.length l1_1) (hc1_1 : l1_1.length ≤ c1_1) (h : Z7.f k l0_0 l0_1 l1_0 l1_1 = some r) :
  Calls Try.prog 81 #[.agg #[.slice A0_0 l0_0.length c0_0, .slice A0_1 l0_1.length c0_1], .agg #[.slice A1_0 l1_0.length c1_0, .slice A1_1 l1_1.length c1_1]] w fun e w' => e = .returned (.bool r) ∧ Below w.heap.size w w' := by
 have hu33 := Try.underlying33
 have HR0_0 := A_ hr0_0
 have HC0_0 := A_ hc0_0
 clear hr0_0 hc0_0
 have HR0_1 := A_ hr0_1
 have HC0_1 := A_ hc0_1
 clear hr0_1 hc0_1
 have HR1_0 := A_ hr1_0
 have HC1_0 := A_ hc1_0
 clear hr1_0 hc1_0
 have HR1_1 := A_ hr1_1
 have HC1_1 := A_ hc1_1
 clear hr1_1 hc1_1
 have HB := A_ (Below.refl w.heap.size w)
 have H := h
 unfold Z7.f at H
 clear h
 obtain ⟨⟨t762, t765, t768⟩, A3, H⟩ := bi_ H
 try dsimp only at H
 obtain ⟨⟨t770, t773, t776⟩, A4, H⟩ := bi_ H
 try dsimp only at H
 by_cases c5 : t768 = true
 ·subst c5
  rw [if_pos rfl] at H
  by_cases c6 : t776 = true
  ·subst c6
   rw [if_pos rfl] at H
   obtain ⟨t778, A7, H⟩ := bi_ H
   obtain rfl := Option.some.inj H
   go_enter Try.func81, Try.ntmps81
   go_wp2_with (first | ((with_reducible refine gB_ (N := 2) rfl ?_); refine bx_ 2 #[.slice A0_0 l0_0.length c0_0, .slice A0_1 l0_1.length c0_1] 33 ?_; intro gb760 hg w8 hbox hb; have BK760 := A_ hbox; have GW760 := gw_ w hg; have GE760 := GW760; replace HB := b1_ hb; clear hb hbox hg) | ((with_reducible refine gB_ (N := 3) rfl ?_); refine bx_ 3 #[.slice A1_0 l1_0.length c1_0, .slice A1_1 l1_1.length c1_1] 33 ?_; intro gb761 hg w9 hbox hb; have BK761 := A_ hbox; have GW761 := gw_ w hg; have GE761 := GW761; replace HB := b1_ hb; have NB760_761 := gN_ BK760 hg; have NB761_760 := gP_ BK760 hg; replace BK760 := bb_ BK760 hb; clear hb hbox hg; have hnb10 := NB760_761.out; have hnc10 := NB761_760.out; obtain ⟨hcz11_0, hcz11_1, hfz11_0, hfz11_1⟩ := c2_ BK760) | ((with_reducible refine gA_ (f := 17) rfl ?_); refine gL_ (some 11) Try.func17 #[.agg #[.slice A0_0 l0_0.length c0_0, .slice A0_1 l0_1.length c0_1]] rfl qa_ ?_; (with_reducible refine (Z45.calls k _ _ l0_0 _ _ l0_1 t762 t765 true _ (cb_ HR0_0) HC0_0.out (cb_ HR0_1) HC0_1.out A3.out).mono ?_); rintro e w12 ⟨v763, v766, rfl, ho0, ho1, hb⟩; refine ⟨_, rfl, ?_⟩; have HO764 := A_ (Kd.V_lower (Kd.V_mono (ok' := fun k_ => k_ ≠ gb760 ∧ k_ ≠ gb761) ho0 (fun k_ hk_ => ⟨(Kd.freshB (kk_ BK760) k_ hk_), (Kd.freshB (kk_ BK761) k_ hk_)⟩)) (bF_ hB_)); have HO767 := A_ (Kd.V_lower (Kd.V_mono (ok' := fun k_ => k_ ≠ gb760 ∧ k_ ≠ gb761) ho1 (fun k_ hk_ => ⟨(Kd.freshB (kk_ BK760) k_ hk_), (Kd.freshB (kk_ BK761) k_ hk_)⟩)) (bF_ hB_)); replace BK760 := bb_ BK760 hb; replace BK761 := bb_ BK761 hb; replace HB := b1_ hb; clear hb ho0 ho1) | ((with_reducible refine gB_ (N := 5) rfl ?_); refine bx_ 5 #[.slice none 0 0, .slice none 0 0] 33 ?_; intro gb769 hg w13 hbox hb; replace HO764 := A_ (Kd.V_below (Kd.V_elderB (by (with_reducible repeat (first | apply Kd.V_alloc | apply Kd.V_drewN | apply Kd.V_drew)); exact HO764.out) gb769 (Nat.le_of_eq hg.symm)) hb); replace HO767 := A_ (Kd.V_below (Kd.V_elderB (by (with_reducible repeat (first | apply Kd.V_alloc | apply Kd.V_drewN | apply Kd.V_drew)); exact HO767.out) gb769 (Nat.le_of_eq hg.symm)) hb); have BK769 := A_ hbox; have GW769 := gw_ w hg; have GE769 := GW769; replace HB := b1_ hb; have NB760_769 := gN_ BK760 hg; have NB769_760 := gP_ BK760 hg; replace BK760 := bb_ BK760 hb; have NB761_769 := gN_ BK761 hg; have NB769_761 := gP_ BK761 hg; replace BK761 := bb_ BK761 hb; clear hb hbox hg; obtain ⟨Ao14, co14, eo14⟩ := Kd.V_slice HO764.out; subst eo14; have hnb15 := NB769_760.out; have hnc15 := NB760_769.out; have hnb16 := NB769_761.out; have hnc16 := NB761_769.out; obtain ⟨hcz17_0, hcz17_1, hfz17_0, hfz17_1⟩ := c2_ BK769; obtain ⟨Ao18, co18, eo18⟩ := Kd.V_slice HO767.out; subst eo18; obtain ⟨hcz19_0, hcz19_1, hfz19_0, hfz19_1⟩ := c2_ BK761) | ((with_reducible refine gA_ (f := 17) rfl ?_); refine gL_ (some 16) Try.func17 #[.agg #[.slice A1_0 l1_0.length c1_0, .slice A1_1 l1_1.length c1_1]] rfl qa_ ?_; (with_reducible refine (Z45.calls k _ _ l1_0 _ _ l1_1 t770 t773 true _ (cD_ HR1_0.out hB_) HC1_0.out (cD_ HR1_1.out hB_) HC1_1.out A4.out).mono ?_); rintro e w20 ⟨v771, v774, rfl, ho0, ho1, hb⟩; refine ⟨_, rfl, ?_⟩; replace HO764 := A_ (Kd.V_below (by (with_reducible repeat (first | apply Kd.V_alloc | apply Kd.V_drewN | apply Kd.V_drew)); exact (Kd.V_mono (Kd.V_far (p := ⟨gb769, 1, none⟩) (Kd.V_far (p := ⟨gb769, 0, none⟩) (Kd.V_mono HO764.out (fun k_ hk => (⟨hk, hk.2⟩ : _ ∧ k_ ≠ gb769))) (fun _ hk => hk.2) (.slice Ao14 t762.length co14)) (fun _ hk => hk.2) (.slice Ao18 t765.length co18)) (fun _ h_ => h_.1))) hb); replace HO767 := A_ (Kd.V_below (by (with_reducible repeat (first | apply Kd.V_alloc | apply Kd.V_drewN | apply Kd.V_drew)); exact (Kd.V_mono (Kd.V_far (p := ⟨gb769, 1, none⟩) (Kd.V_far (p := ⟨gb769, 0, none⟩) (Kd.V_mono HO767.out (fun k_ hk => (⟨hk, hk.2⟩ : _ ∧ k_ ≠ gb769))) (fun _ hk => hk.2) (.slice Ao14 t762.length co14)) (fun _ hk => hk.2) (.slice Ao18 t765.length co18)) (fun _ h_ => h_.1))) hb); have HO772 := A_ (Kd.V_lower (Kd.V_mono (ok' := fun k_ => k_ ≠ gb760 ∧ k_ ≠ gb761 ∧ k_ ≠ gb769) ho0 (fun k_ hk_ => ⟨(Kd.freshB (g := gb760) (o := .cells #[.slice A0_0 l0_0.length c0_0, .slice A0_1 l0_1.length c0_1] 33 (0, 0)) (by (with_reducible repeat (first | refine kA_ ?_ _ | refine kB_ ?_ | refine kC_ ?_ _)); refine blk_far ?_ NB760_769.out _; (with_reducible repeat (first | refine kA_ ?_ _ | refine kB_ ?_ | refine kC_ ?_ _)); refine blk_far ?_ NB760_769.out _; (with_reducible repeat (first | refine kA_ ?_ _ | refine kB_ ?_ | refine kC_ ?_ _)); exact BK760.out) k_ hk_), (Kd.freshB (g := gb761) (o := .cells #[.slice A1_0 l1_0.length c1_0, .slice A1_1 l1_1.length c1_1] 33 (0, 0)) (by (with_reducible repeat (first | refine kA_ ?_ _ | refine kB_ ?_ | refine kC_ ?_ _)); refine blk_far ?_ NB761_769.out _; (with_reducible repeat (first | refine kA_ ?_ _ | refine kB_ ?_ | refine kC_ ?_ _)); refine blk_far ?_ NB761_769.out _; (with_reducible repeat (first | refine kA_ ?_ _ | refine kB_ ?_ | refine kC_ ?_ _)); exact BK761.out) k_ hk_), (Kd.freshB (g := gb769) (o := .cells #[.slice Ao14 t762.length co14, .slice Ao18 t765.length co18] 33 (0, 0)) qp_ k_ hk_)⟩)) (bF_ hB_)); have HO775 := A_ (Kd.V_lower (Kd.V_mono (ok' := fun k_ => k_ ≠ gb760 ∧ k_ ≠ gb761 ∧ k_ ≠ gb769) ho1 (fun k_ hk_ => ⟨(Kd.freshB (g := gb760) (o := .cells #[.slice A0_0 l0_0.length c0_0, .slice A0_1 l0_1.length c0_1] 33 (0, 0)) (by (with_reducible repeat (first | refine kA_ ?_ _ | refine kB_ ?_ | refine kC_ ?_ _)); refine blk_far ?_ NB760_769.out _; (with_reducible repeat (first | refine kA_ ?_ _ | refine kB_ ?_ | refine kC_ ?_ _)); refine blk_far ?_ NB760_769.out _; (with_reducible repeat (first | refine kA_ ?_ _ | refine kB_ ?_ | refine kC_ ?_ _)); exact BK760.out) k_ hk_), (Kd.freshB (g := gb761) (o := .cells #[.slice A1_0 l1_0.length c1_0, .slice A1_1 l1_1.length c1_1] 33 (0, 0)) (by (with_reducible repeat (first | refine kA_ ?_ _ | refine kB_ ?_ | refine kC_ ?_ _)); refine blk_far ?_ NB761_769.out _; (with_reducible repeat (first | refine kA_ ?_ _ | refine kB_ ?_ | refine kC_ ?_ _)); refine blk_far ?_ NB761_769.out _; (with_reducible repeat (first | refine kA_ ?_ _ | refine kB_ ?_ | refine kC_ ?_ _)); exact BK761.out) k_ hk_), (Kd.freshB (g := gb769) (o := .cells #[.slice Ao14 t762.length co14, .slice Ao18 t765.length co18] 33 (0, 0)) qp_ k_ hk_)⟩)) (bF_ hB_)); replace BK760 := A_ (kE_ (g := gb760) (o := .cells #[.slice A0_0 l0_0.length c0_0, .slice A0_1 l0_1.length c0_1] 33 (0, 0)) (by (with_reducible repeat (first | refine kA_ ?_ _ | refine kB_ ?_ | refine kC_ ?_ _)); refine blk_far ?_ NB760_769.out _; (with_reducible repeat (first | refine kA_ ?_ _ | refine kB_ ?_ | refine kC_ ?_ _)); refine blk_far ?_ NB760_769.out _; (with_reducible repeat (first | refine kA_ ?_ _ | refine kB_ ?_ | refine kC_ ?_ _)); exact BK760.out) hb); replace BK761 := A_ (kE_ (g := gb761) (o := .cells #[.slice A1_0 l1_0.length c1_0, .slice A1_1 l1_1.length c1_1] 33 (0, 0)) (by (with_reducible repeat (first | refine kA_ ?_ _ | refine kB_ ?_ | refine kC_ ?_ _)); refine blk_far ?_ NB761_769.out _; (with_reducible repeat (first | refine kA_ ?_ _ | refine kB_ ?_ | refine kC_ ?_ _)); refine blk_far ?_ NB761_769.out _; (with_reducible repeat (first | refine kA_ ?_ _ | refine kB_ ?_ | refine kC_ ?_ _)); exact BK761.out) hb); replace BK769 := A_ (kE_ (g := gb769) (o := .cells #[.slice Ao14 t762.length co14, .slice Ao18 t765.length co18] 33 (0, 0)) qp_ hb); replace HB := b1_ hb; clear hb ho0 ho1) | ((with_reducible refine gB_ (N := 7) rfl ?_); refine bx_ 7 #[.slice none 0 0, .slice none 0 0] 33 ?_; intro gb777 hg w21 hbox hb; replace HO764 := A_ (Kd.V_below (Kd.V_elderB (by (with_reducible repeat (first | apply Kd.V_alloc | apply Kd.V_drewN | apply Kd.V_drew)); exact HO764.out) gb777 (Nat.le_of_eq hg.symm)) hb); replace HO767 := A_ (Kd.V_below (Kd.V_elderB (by (with_reducible repeat (first | apply Kd.V_alloc | apply Kd.V_drewN | apply Kd.V_drew)); exact HO767.out) gb777 (Nat.le_of_eq hg.symm)) hb); replace HO772 := A_ (Kd.V_below (Kd.V_elderB (by (with_reducible repeat (first | apply Kd.V_alloc | apply Kd.V_drewN | apply Kd.V_drew)); exact HO772.out) gb777 (Nat.le_of_eq hg.symm)) hb); replace HO775 := A_ (Kd.V_below (Kd.V_elderB (by (with_reducible repeat (first | apply Kd.V_alloc | apply Kd.V_drewN | apply Kd.V_drew)); exact HO775.out) gb777 (Nat.le_of_eq hg.symm)) hb); have BK777 := A_ hbox; have GW777 := gw_ w hg; have GE777 := GW777; replace HB := b1_ hb; have NB760_777 := gN_ BK760 hg; have NB777_760 := gP_ BK760 hg; replace BK760 := bb_ BK760 hb; have NB761_777 := gN_ BK761 hg; have NB777_761 := gP_ BK761 hg; replace BK761 := bb_ BK761 hb; have NB769_777 := gN_ BK769 hg; have NB777_769 := gP_ BK769 hg; replace BK769 := bb_ BK769 hb; clear hb hbox hg; obtain ⟨Ao22, co22, eo22⟩ := Kd.V_slice HO772.out; subst eo22; have hnb23 := NB777_760.out; have hnc23 := NB760_777.out; have hnb24 := NB777_761.out; have hnc24 := NB761_777.out; have hnb25 := NB777_769.out; have hnc25 := NB769_777.out; obtain ⟨hcz26_0, hcz26_1, hfz26_0, hfz26_1⟩ := c2_ BK777; obtain ⟨Ao27, co27, eo27⟩ := Kd.V_slice HO775.out; subst eo27; obtain ⟨hcz28_0, hcz28_1, hfz28_0, hfz28_1⟩ := c2_ BK769) | (go_at_call 18; (with_reducible refine (Z18.calls k _ _ t762 _ _ t765 _ _ t770 _ _ t773 t778 _ ?side1 ?side2 ?side3 ?side4 ?side5 ?side6 ?side7 ?side8 A7.out).mono ?_); (case side1 => refine (Kd.V_reads' (e := 3) (base := w.heap.size) (ok := fun k_ => (((k_ ≠ gb760 ∧ k_ ≠ gb761) ∧ k_ ≠ gb769) ∧ k_ ≠ gb777)) (n := t762.length) (c := co14) ?_).2.2; exact (by (with_reducible repeat (first | apply Kd.V_alloc | apply Kd.V_drewN | apply Kd.V_drew)); exact (Kd.V_mono (Kd.V_far (p := ⟨gb777, 1, none⟩) (Kd.V_far (p := ⟨gb777, 0, none⟩) (Kd.V_mono HO764.out (fun k_ hk => (⟨hk, hk.2⟩ : _ ∧ k_ ≠ gb777))) (fun _ hk => hk.2) (.slice Ao22 t770.length co22)) (fun _ hk => hk.2) (.slice Ao27 t773.length co27)) (fun _ h_ => h_.1)))); (case side2 => exact (Kd.V_reads' HO764.out).2.1); (case side3 => refine (Kd.V_reads' (e := 3) (base := w.heap.size) (ok := fun k_ => (((k_ ≠ gb760 ∧ k_ ≠ gb761) ∧ k_ ≠ gb769) ∧ k_ ≠ gb777)) (n := t765.length) (c := co18) ?_).2.2; exact (by (with_reducible repeat (first | apply Kd.V_alloc | apply Kd.V_drewN | apply Kd.V_drew)); exact (Kd.V_mono (Kd.V_far (p := ⟨gb777, 1, none⟩) (Kd.V_far (p := ⟨gb777, 0, none⟩) (Kd.V_mono HO767.out (fun k_ hk => (⟨hk, hk.2⟩ : _ ∧ k_ ≠ gb777))) (fun _ hk => hk.2) (.slice Ao22 t770.length co22)) (fun _ hk => hk.2) (.slice Ao27 t773.length co27)) (fun _ h_ => h_.1)))); (case side4 => exact (Kd.V_reads' HO767.out).2.1); (case side5 => refine (Kd.V_reads' (e := 3) (base := w.heap.size) (ok := fun k_ => ((k_ ≠ gb760 ∧ (k_ ≠ gb761 ∧ k_ ≠ gb769)) ∧ k_ ≠ gb777)) (n := t770.length) (c := co22) ?_).2.2; exact (by (with_reducible repeat (first | apply Kd.V_alloc | apply Kd.V_drewN | apply Kd.V_drew)); exact (Kd.V_mono (Kd.V_far (p := ⟨gb777, 1, none⟩) (Kd.V_far (p := ⟨gb777, 0, none⟩) (Kd.V_mono HO772.out (fun k_ hk => (⟨hk, hk.2⟩ : _ ∧ k_ ≠ gb777))) (fun _ hk => hk.2) (.slice Ao22 t770.length co22)) (fun _ hk => hk.2) (.slice Ao27 t773.length co27)) (fun _ h_ => h_.1)))); (case side6 => exact (Kd.V_reads' HO772.out).2.1); (case side7 => refine (Kd.V_reads' (e := 3) (base := w.heap.size) (ok := fun k_ => ((k_ ≠ gb760 ∧ (k_ ≠ gb761 ∧ k_ ≠ gb769)) ∧ k_ ≠ gb777)) (n := t773.length) (c := co27) ?_).2.2; exact (by (with_reducible repeat (first | apply Kd.V_alloc | apply Kd.V_drewN | apply Kd.V_drew)); exact (Kd.V_mono (Kd.V_far (p := ⟨gb777, 1, none⟩) (Kd.V_far (p := ⟨gb777, 0, none⟩) (Kd.V_mono HO775.out (fun k_ hk => (⟨hk, hk.2⟩ : _ ∧ k_ ≠ gb777))) (fun _ hk => hk.2) (.slice Ao22 t770.length co22)) (fun _ hk => hk.2) (.slice Ao27 t773.length co27)) (fun _ h_ => h_.1)))); (case side8 => exact (Kd.V_reads' HO775.out).2.1); rintro e w29 ⟨rfl, hb⟩; replace HO764 := A_ (Kd.V_below (by (with_reducible repeat (first | apply Kd.V_alloc | apply Kd.V_drewN | apply Kd.V_drew)); exact (Kd.V_mono (Kd.V_far (p := ⟨gb777, 1, none⟩) (Kd.V_far (p := ⟨gb777, 0, none⟩) (Kd.V_mono HO764.out (fun k_ hk => (⟨hk, hk.2⟩ : _ ∧ k_ ≠ gb777))) (fun _ hk => hk.2) (.slice Ao22 t770.length co22)) (fun _ hk => hk.2) (.slice Ao27 t773.length co27)) (fun _ h_ => h_.1))) hb); replace HO767 := A_ (Kd.V_below (by (with_reducible repeat (first | apply Kd.V_alloc | apply Kd.V_drewN | apply Kd.V_drew)); exact (Kd.V_mono (Kd.V_far (p := ⟨gb777, 1, none⟩) (Kd.V_far (p := ⟨gb777, 0, none⟩) (Kd.V_mono HO767.out (fun k_ hk => (⟨hk, hk.2⟩ : _ ∧ k_ ≠ gb777))) (fun _ hk => hk.2) (.slice Ao22 t770.length co22)) (fun _ hk => hk.2) (.slice Ao27 t773.length co27)) (fun _ h_ => h_.1))) hb); replace HO772 := A_ (Kd.V_below (by (with_reducible repeat (first | apply Kd.V_alloc | apply Kd.V_drewN | apply Kd.V_drew)); exact (Kd.V_mono (Kd.V_far (p := ⟨gb777, 1, none⟩) (Kd.V_far (p := ⟨gb777, 0, none⟩) (Kd.V_mono HO772.out (fun k_ hk => (⟨hk, hk.2⟩ : _ ∧ k_ ≠ gb777))) (fun _ hk => hk.2) (.slice Ao22 t770.length co22)) (fun _ hk => hk.2) (.slice Ao27 t773.length co27)) (fun _ h_ => h_.1))) hb); replace HO775 := A_ (Kd.V_below (by (with_reducible repeat (first | apply Kd.V_alloc | apply Kd.V_drewN | apply Kd.V_drew)); exact (Kd.V_mono (Kd.V_far (p := ⟨gb777, 1, none⟩) (Kd.V_far (p := ⟨gb777, 0, none⟩) (Kd.V_mono HO775.out (fun k_ hk => (⟨hk, hk.2⟩ : _ ∧ k_ ≠ gb777))) (fun _ hk => hk.2) (.slice Ao22 t770.length co22)) (fun _ hk => hk.2) (.slice Ao27 t773.length co27)) (fun _ h_ => h_.1))) hb); replace BK760 := A_ (kE_ (g := gb760) (o := .cells #[.slice A0_0 l0_0.length c0_0, .slice A0_1 l0_1.length c0_1] 33 (0, 0)) (by (with_reducible repeat (first | refine kA_ ?_ _ | refine kB_ ?_ | refine kC_ ?_ _)); refine blk_far ?_ NB760_777.out _; (with_reducible repeat (first | refine kA_ ?_ _ | refine kB_ ?_ | refine kC_ ?_ _)); refine blk_far ?_ NB760_777.out _; (with_reducible repeat (first | refine kA_ ?_ _ | refine kB_ ?_ | refine kC_ ?_ _)); exact BK760.out) hb); replace BK761 := A_ (kE_ (g := gb761) (o := .cells #[.slice A1_0 l1_0.length c1_0, .slice A1_1 l1_1.length c1_1] 33 (0, 0)) (by (with_reducible repeat (first | refine kA_ ?_ _ | refine kB_ ?_ | refine kC_ ?_ _)); refine blk_far ?_ NB761_777.out _; (with_reducible repeat (first | refine kA_ ?_ _ | refine kB_ ?_ | refine kC_ ?_ _)); refine blk_far ?_ NB761_777.out _; (with_reducible repeat (first | refine kA_ ?_ _ | refine kB_ ?_ | refine kC_ ?_ _)); exact BK761.out) hb); replace BK769 := A_ (kE_ (g := gb769) (o := .cells #[.slice Ao14 t762.length co14, .slice Ao18 t765.length co18] 33 (0, 0)) (by (with_reducible repeat (first | refine kA_ ?_ _ | refine kB_ ?_ | refine kC_ ?_ _)); refine blk_far ?_ NB769_777.out _; (with_reducible repeat (first | refine kA_ ?_ _ | refine kB_ ?_ | refine kC_ ?_ _)); refine blk_far ?_ NB769_777.out _; (with_reducible repeat (first | refine kA_ ?_ _ | refine kB_ ?_ | refine kC_ ?_ _)); exact BK769.out) hb); replace BK777 := A_ (kE_ (g := gb777) (o := .cells #[.slice Ao22 t770.length co22, .slice Ao27 t773.length co27] 33 (0, 0)) qp_ hb); replace HB := b1_ hb; clear hb))
   go_ret
   exact ⟨qb_, hB_⟩
  ·replace c6 := Bool.eq_false_iff.mpr c6
   subst c6
   have H1 : (some false) = some r := by rw [if_neg (show ¬ (false = true) by decide)] at H; exact H
   clear H
   have H := H1
   clear H1
   obtain rfl := Option.some.inj H
   go_enter Try.func81, Try.ntmps81
   go_wp2_with (first | ((with_reducible refine gB_ (N := 2) rfl ?_); refine bx_ 2 #[.slice A0_0 l0_0.length c0_0, .slice A0_1 l0_1.length c0_1] 33 ?_; intro gb760 hg w30 hbox hb; have BK760 := A_ hbox; have GW760 := gw_ w hg; have GE760 := GW760; replace HB := b1_ hb; clear hb hbox hg) | ((with_reducible refine gB_ (N := 3) rfl ?_); refine bx_ 3 #[.slice A1_0 l1_0.length c1_0, .slice A1_1 l1_1.length c1_1] 33 ?_; intro gb761 hg w31 hbox hb; have BK761 := A_ hbox; have GW761 := gw_ w hg; have GE761 := GW761; replace HB := b1_ hb; have NB760_761 := gN_ BK760 hg; have NB761_760 := gP_ BK760 hg; replace BK760 := bb_ BK760 hb; clear hb hbox hg; have hnb32 := NB760_761.out; have hnc32 := NB761_760.out; obtain ⟨hcz33_0, hcz33_1, hfz33_0, hfz33_1⟩ := c2_ BK760) | ((with_reducible refine gA_ (f := 17) rfl ?_); refine gL_ (some 11) Try.func17 #[.agg #[.slice A0_0 l0_0.length c0_0, .slice A0_1 l0_1.length c0_1]] rfl qa_ ?_; (with_reducible refine (Z45.calls k _ _ l0_0 _ _ l0_1 t762 t765 true _ (cb_ HR0_0) HC0_0.out (cb_ HR0_1) HC0_1.out A3.out).mono ?_); rintro e w34 ⟨v763, v766, rfl, ho0, ho1, hb⟩; refine ⟨_, rfl, ?_⟩; have HO764 := A_ (Kd.V_lower (Kd.V_mono (ok' := fun k_ => k_ ≠ gb760 ∧ k_ ≠ gb761) ho0 (fun k_ hk_ => ⟨(Kd.freshB (kk_ BK760) k_ hk_), (Kd.freshB (kk_ BK761) k_ hk_)⟩)) (bF_ hB_)); have HO767 := A_ (Kd.V_lower (Kd.V_mono (ok' := fun k_ => k_ ≠ gb760 ∧ k_ ≠ gb761) ho1 (fun k_ hk_ => ⟨(Kd.freshB (kk_ BK760) k_ hk_), (Kd.freshB (kk_ BK761) k_ hk_)⟩)) (bF_ hB_)); replace BK760 := bb_ BK760 hb; replace BK761 := bb_ BK761 hb; replace HB := b1_ hb; clear hb ho0 ho1) | ((with_reducible refine gB_ (N := 5) rfl ?_); refine bx_ 5 #[.slice none 0 0, .slice none 0 0] 33 ?_; intro gb769 hg w35 hbox hb; replace HO764 := A_ (Kd.V_below (Kd.V_elderB (by (with_reducible repeat (first | apply Kd.V_alloc | apply Kd.V_drewN | apply Kd.V_drew)); exact HO764.out) gb769 (Nat.le_of_eq hg.symm)) hb); replace HO767 := A_ (Kd.V_below (Kd.V_elderB (by (with_reducible repeat (first | apply Kd.V_alloc | apply Kd.V_drewN | apply Kd.V_drew)); exact HO767.out) gb769 (Nat.le_of_eq hg.symm)) hb); have BK769 := A_ hbox; have GW769 := gw_ w hg; have GE769 := GW769; replace HB := b1_ hb; have NB760_769 := gN_ BK760 hg; have NB769_760 := gP_ BK760 hg; replace BK760 := bb_ BK760 hb; have NB761_769 := gN_ BK761 hg; have NB769_761 := gP_ BK761 hg; replace BK761 := bb_ BK761 hb; clear hb hbox hg; obtain ⟨Ao36, co36, eo36⟩ := Kd.V_slice HO764.out; subst eo36; have hnb37 := NB769_760.out; have hnc37 := NB760_769.out; have hnb38 := NB769_761.out; have hnc38 := NB761_769.out; obtain ⟨hcz39_0, hcz39_1, hfz39_0, hfz39_1⟩ := c2_ BK769; obtain ⟨Ao40, co40, eo40⟩ := Kd.V_slice HO767.out; subst eo40; obtain ⟨hcz41_0, hcz41_1, hfz41_0, hfz41_1⟩ := c2_ BK761) | ((with_reducible refine gA_ (f := 17) rfl ?_); refine gL_ (some 16) Try.func17 #[.agg #[.slice A1_0 l1_0.length c1_0, .slice A1_1 l1_1.length c1_1]] rfl qa_ ?_; (with_reducible refine (Z45.calls k _ _ l1_0 _ _ l1_1 t770 t773 false _ (cD_ HR1_0.out hB_) HC1_0.out (cD_ HR1_1.out hB_) HC1_1.out A4.out).mono ?_); rintro e w42 ⟨v771, v774, rfl, ho0, ho1, hb⟩; refine ⟨_, rfl, ?_⟩; replace HO764 := A_ (Kd.V_below (by (with_reducible repeat (first | apply Kd.V_alloc | apply Kd.V_drewN | apply Kd.V_drew)); exact (Kd.V_mono (Kd.V_far (p := ⟨gb769, 1, none⟩) (Kd.V_far (p := ⟨gb769, 0, none⟩) (Kd.V_mono HO764.out (fun k_ hk => (⟨hk, hk.2⟩ : _ ∧ k_ ≠ gb769))) (fun _ hk => hk.2) (.slice Ao36 t762.length co36)) (fun _ hk => hk.2) (.slice Ao40 t765.length co40)) (fun _ h_ => h_.1))) hb); replace HO767 := A_ (Kd.V_below (by (with_reducible repeat (first | apply Kd.V_alloc | apply Kd.V_drewN | apply Kd.V_drew)); exact (Kd.V_mono (Kd.V_far (p := ⟨gb769, 1, none⟩) (Kd.V_far (p := ⟨gb769, 0, none⟩) (Kd.V_mono HO767.out (fun k_ hk => (⟨hk, hk.2⟩ : _ ∧ k_ ≠ gb769))) (fun _ hk => hk.2) (.slice Ao36 t762.length co36)) (fun _ hk => hk.2) (.slice Ao40 t765.length co40)) (fun _ h_ => h_.1))) hb); have HO772 := A_ (Kd.V_lower (Kd.V_mono (ok' := fun k_ => k_ ≠ gb760 ∧ k_ ≠ gb761 ∧ k_ ≠ gb769) ho0 (fun k_ hk_ => ⟨(Kd.freshB (g := gb760) (o := .cells #[.slice A0_0 l0_0.length c0_0, .slice A0_1 l0_1.length c0_1] 33 (0, 0)) (by (with_reducible repeat (first | refine kA_ ?_ _ | refine kB_ ?_ | refine kC_ ?_ _)); refine blk_far ?_ NB760_769.out _; (with_reducible repeat (first | refine kA_ ?_ _ | refine kB_ ?_ | refine kC_ ?_ _)); refine blk_far ?_ NB760_769.out _; (with_reducible repeat (first | refine kA_ ?_ _ | refine kB_ ?_ | refine kC_ ?_ _)); exact BK760.out) k_ hk_), (Kd.freshB (g := gb761) (o := .cells #[.slice A1_0 l1_0.length c1_0, .slice A1_1 l1_1.length c1_1] 33 (0, 0)) (by (with_reducible repeat (first | refine kA_ ?_ _ | refine kB_ ?_ | refine kC_ ?_ _)); refine blk_far ?_ NB761_769.out _; (with_reducible repeat (first | refine kA_ ?_ _ | refine kB_ ?_ | refine kC_ ?_ _)); refine blk_far ?_ NB761_769.out _; (with_reducible repeat (first | refine kA_ ?_ _ | refine kB_ ?_ | refine kC_ ?_ _)); exact BK761.out) k_ hk_), (Kd.freshB (g := gb769) (o := .cells #[.slice Ao36 t762.length co36, .slice Ao40 t765.length co40] 33 (0, 0)) qp_ k_ hk_)⟩)) (bF_ hB_)); have HO775 := A_ (Kd.V_lower (Kd.V_mono (ok' := fun k_ => k_ ≠ gb760 ∧ k_ ≠ gb761 ∧ k_ ≠ gb769) ho1 (fun k_ hk_ => ⟨(Kd.freshB (g := gb760) (o := .cells #[.slice A0_0 l0_0.length c0_0, .slice A0_1 l0_1.length c0_1] 33 (0, 0)) (by (with_reducible repeat (first | refine kA_ ?_ _ | refine kB_ ?_ | refine kC_ ?_ _)); refine blk_far ?_ NB760_769.out _; (with_reducible repeat (first | refine kA_ ?_ _ | refine kB_ ?_ | refine kC_ ?_ _)); refine blk_far ?_ NB760_769.out _; (with_reducible repeat (first | refine kA_ ?_ _ | refine kB_ ?_ | refine kC_ ?_ _)); exact BK760.out) k_ hk_), (Kd.freshB (g := gb761) (o := .cells #[.slice A1_0 l1_0.length c1_0, .slice A1_1 l1_1.length c1_1] 33 (0, 0)) (by (with_reducible repeat (first | refine kA_ ?_ _ | refine kB_ ?_ | refine kC_ ?_ _)); refine blk_far ?_ NB761_769.out _; (with_reducible repeat (first | refine kA_ ?_ _ | refine kB_ ?_ | refine kC_ ?_ _)); refine blk_far ?_ NB761_769.out _; (with_reducible repeat (first | refine kA_ ?_ _ | refine kB_ ?_ | refine kC_ ?_ _)); exact BK761.out) k_ hk_), (Kd.freshB (g := gb769) (o := .cells #[.slice Ao36 t762.length co36, .slice Ao40 t765.length co40] 33 (0, 0)) qp_ k_ hk_)⟩)) (bF_ hB_)); replace BK760 := A_ (kE_ (g := gb760) (o := .cells #[.slice A0_0 l0_0.length c0_0, .slice A0_1 l0_1.length c0_1] 33 (0, 0)) (by (with_reducible repeat (first | refine kA_ ?_ _ | refine kB_ ?_ | refine kC_ ?_ _)); refine blk_far ?_ NB760_769.out _; (with_reducible repeat (first | refine kA_ ?_ _ | refine kB_ ?_ | refine kC_ ?_ _)); refine blk_far ?_ NB760_769.out _; (with_reducible repeat (first | refine kA_ ?_ _ | refine kB_ ?_ | refine kC_ ?_ _)); exact BK760.out) hb); replace BK761 := A_ (kE_ (g := gb761) (o := .cells #[.slice A1_0 l1_0.length c1_0, .slice A1_1 l1_1.length c1_1] 33 (0, 0)) (by (with_reducible repeat (first | refine kA_ ?_ _ | refine kB_ ?_ | refine kC_ ?_ _)); refine blk_far ?_ NB761_769.out _; (with_reducible repeat (first | refine kA_ ?_ _ | refine kB_ ?_ | refine kC_ ?_ _)); refine blk_far ?_ NB761_769.out _; (with_reducible repeat (first | refine kA_ ?_ _ | refine kB_ ?_ | refine kC_ ?_ _)); exact BK761.out) hb); replace BK769 := A_ (kE_ (g := gb769) (o := .cells #[.slice Ao36 t762.length co36, .slice Ao40 t765.length co40] 33 (0, 0)) qp_ hb); replace HB := b1_ hb; clear hb ho0 ho1) | ((with_reducible refine gB_ (N := 7) rfl ?_); refine bx_ 7 #[.slice none 0 0, .slice none 0 0] 33 ?_; intro gb777 hg w43 hbox hb; replace HO764 := A_ (Kd.V_below (Kd.V_elderB (by (with_reducible repeat (first | apply Kd.V_alloc | apply Kd.V_drewN | apply Kd.V_drew)); exact HO764.out) gb777 (Nat.le_of_eq hg.symm)) hb); replace HO767 := A_ (Kd.V_below (Kd.V_elderB (by (with_reducible repeat (first | apply Kd.V_alloc | apply Kd.V_drewN | apply Kd.V_drew)); exact HO767.out) gb777 (Nat.le_of_eq hg.symm)) hb); replace HO772 := A_ (Kd.V_below (Kd.V_elderB (by (with_reducible repeat (first | apply Kd.V_alloc | apply Kd.V_drewN | apply Kd.V_drew)); exact HO772.out) gb777 (Nat.le_of_eq hg.symm)) hb); replace HO775 := A_ (Kd.V_below (Kd.V_elderB (by (with_reducible repeat (first | apply Kd.V_alloc | apply Kd.V_drewN | apply Kd.V_drew)); exact HO775.out) gb777 (Nat.le_of_eq hg.symm)) hb); have BK777 := A_ hbox; have GW777 := gw_ w hg; have GE777 := GW777; replace HB := b1_ hb; have NB760_777 := gN_ BK760 hg; have NB777_760 := gP_ BK760 hg; replace BK760 := bb_ BK760 hb; have NB761_777 := gN_ BK761 hg; have NB777_761 := gP_ BK761 hg; replace BK761 := bb_ BK761 hb; have NB769_777 := gN_ BK769 hg; have NB777_769 := gP_ BK769 hg; replace BK769 := bb_ BK769 hb; clear hb hbox hg; obtain ⟨Ao44, co44, eo44⟩ := Kd.V_slice HO772.out; subst eo44; have hnb45 := NB777_760.out; have hnc45 := NB760_777.out; have hnb46 := NB777_761.out; have hnc46 := NB761_777.out; have hnb47 := NB777_769.out; have hnc47 := NB769_777.out; obtain ⟨hcz48_0, hcz48_1, hfz48_0, hfz48_1⟩ := c2_ BK777; obtain ⟨Ao49, co49, eo49⟩ := Kd.V_slice HO775.out; subst eo49))
   go_ret
   exact ⟨qb_, hB_⟩
 ·replace c5 := Bool.eq_false_iff.mpr c5
  subst c5
  have H1 : (some false) = some r := by rw [if_neg (show ¬ (false = true) by decide)] at H; exact H
  clear H
  have H := H1
  clear H1
  obtain rfl := Option.some.inj H
  go_enter Try.func81, Try.ntmps81
  go_wp2_with (first | ((with_reducible refine gB_ (N := 2) rfl ?_); refine bx_ 2 #[.slice A0_0 l0_0.length c0_0, .slice A0_1 l0_1.length c0_1] 33 ?_; intro gb760 hg w50 hbox hb; have BK760 := A_ hbox; have GW760 := gw_ w hg; have GE760 := GW760; replace HB := b1_ hb; clear hb hbox hg) | ((with_reducible refine gB_ (N := 3) rfl ?_); refine bx_ 3 #[.slice A1_0 l1_0.length c1_0, .slice A1_1 l1_1.length c1_1] 33 ?_; intro gb761 hg w51 hbox hb; have BK761 := A_ hbox; have GW761 := gw_ w hg; have GE761 := GW761; replace HB := b1_ hb; have NB760_761 := gN_ BK760 hg; have NB761_760 := gP_ BK760 hg; replace BK760 := bb_ BK760 hb; clear hb hbox hg; have hnb52 := NB760_761.out; have hnc52 := NB761_760.out; obtain ⟨hcz53_0, hcz53_1, hfz53_0, hfz53_1⟩ := c2_ BK760) | ((with_reducible refine gA_ (f := 17) rfl ?_); refine gL_ (some 11) Try.func17 #[.agg #[.slice A0_0 l0_0.length c0_0, .slice A0_1 l0_1.length c0_1]] rfl qa_ ?_; (with_reducible refine (Z45.calls k _ _ l0_0 _ _ l0_1 t762 t765 false _ (cb_ HR0_0) HC0_0.out (cb_ HR0_1) HC0_1.out A3.out).mono ?_); rintro e w54 ⟨v763, v766, rfl, ho0, ho1, hb⟩; refine ⟨_, rfl, ?_⟩; have HO764 := A_ (Kd.V_lower (Kd.V_mono (ok' := fun k_ => k_ ≠ gb760 ∧ k_ ≠ gb761) ho0 (fun k_ hk_ => ⟨(Kd.freshB (kk_ BK760) k_ hk_), (Kd.freshB (kk_ BK761) k_ hk_)⟩)) (bF_ hB_)); have HO767 := A_ (Kd.V_lower (Kd.V_mono (ok' := fun k_ => k_ ≠ gb760 ∧ k_ ≠ gb761) ho1 (fun k_ hk_ => ⟨(Kd.freshB (kk_ BK760) k_ hk_), (Kd.freshB (kk_ BK761) k_ hk_)⟩)) (bF_ hB_)); replace BK760 := bb_ BK760 hb; replace BK761 := bb_ BK761 hb; replace HB := b1_ hb; clear hb ho0 ho1) | ((with_reducible refine gB_ (N := 5) rfl ?_); refine bx_ 5 #[.slice none 0 0, .slice none 0 0] 33 ?_; intro gb769 hg w55 hbox hb; replace HO764 := A_ (Kd.V_below (Kd.V_elderB (by (with_reducible repeat (first | apply Kd.V_alloc | apply Kd.V_drewN | apply Kd.V_drew)); exact HO764.out) gb769 (Nat.le_of_eq hg.symm)) hb); replace HO767 := A_ (Kd.V_below (Kd.V_elderB (by (with_reducible repeat (first | apply Kd.V_alloc | apply Kd.V_drewN | apply Kd.V_drew)); exact HO767.out) gb769 (Nat.le_of_eq hg.symm)) hb); have BK769 := A_ hbox; have GW769 := gw_ w hg; have GE769 := GW769; replace HB := b1_ hb; have NB760_769 := gN_ BK760 hg; have NB769_760 := gP_ BK760 hg; replace BK760 := bb_ BK760 hb; have NB761_769 := gN_ BK761 hg; have NB769_761 := gP_ BK761 hg; replace BK761 := bb_ BK761 hb; clear hb hbox hg; obtain ⟨Ao56, co56, eo56⟩ := Kd.V_slice HO764.out; subst eo56; have hnb57 := NB769_760.out; have hnc57 := NB760_769.out; have hnb58 := NB769_761.out; have hnc58 := NB761_769.out; obtain ⟨hcz59_0, hcz59_1, hfz59_0, hfz59_1⟩ := c2_ BK769; obtain ⟨Ao60, co60, eo60⟩ := Kd.V_slice HO767.out; subst eo60; obtain ⟨hcz61_0, hcz61_1, hfz61_0, hfz61_1⟩ := c2_ BK761) | ((with_reducible refine gA_ (f := 17) rfl ?_); refine gL_ (some 16) Try.func17 #[.agg #[.slice A1_0 l1_0.length c1_0, .slice A1_1 l1_1.length c1_1]] rfl qa_ ?_; (with_reducible refine (Z45.calls k _ _ l1_0 _ _ l1_1 t770 t773 t776 _ (cD_ HR1_0.out hB_) HC1_0.out (cD_ HR1_1.out hB_) HC1_1.out A4.out).mono ?_); rintro e w62 ⟨v771, v774, rfl, ho0, ho1, hb⟩; refine ⟨_, rfl, ?_⟩; replace HO764 := A_ (Kd.V_below (by (with_reducible repeat (first | apply Kd.V_alloc | apply Kd.V_drewN | apply Kd.V_drew)); exact (Kd.V_mono (Kd.V_far (p := ⟨gb769, 1, none⟩) (Kd.V_far (p := ⟨gb769, 0, none⟩) (Kd.V_mono HO764.out (fun k_ hk => (⟨hk, hk.2⟩ : _ ∧ k_ ≠ gb769))) (fun _ hk => hk.2) (.slice Ao56 t762.length co56)) (fun _ hk => hk.2) (.slice Ao60 t765.length co60)) (fun _ h_ => h_.1))) hb); replace HO767 := A_ (Kd.V_below (by (with_reducible repeat (first | apply Kd.V_alloc | apply Kd.V_drewN | apply Kd.V_drew)); exact (Kd.V_mono (Kd.V_far (p := ⟨gb769, 1, none⟩) (Kd.V_far (p := ⟨gb769, 0, none⟩) (Kd.V_mono HO767.out (fun k_ hk => (⟨hk, hk.2⟩ : _ ∧ k_ ≠ gb769))) (fun _ hk => hk.2) (.slice Ao56 t762.length co56)) (fun _ hk => hk.2) (.slice Ao60 t765.length co60)) (fun _ h_ => h_.1))) hb); have HO772 := A_ (Kd.V_lower (Kd.V_mono (ok' := fun k_ => k_ ≠ gb760 ∧ k_ ≠ gb761 ∧ k_ ≠ gb769) ho0 (fun k_ hk_ => ⟨(Kd.freshB (g := gb760) (o := .cells #[.slice A0_0 l0_0.length c0_0, .slice A0_1 l0_1.length c0_1] 33 (0, 0)) (by (with_reducible repeat (first | refine kA_ ?_ _ | refine kB_ ?_ | refine kC_ ?_ _)); refine blk_far ?_ NB760_769.out _; (with_reducible repeat (first | refine kA_ ?_ _ | refine kB_ ?_ | refine kC_ ?_ _)); refine blk_far ?_ NB760_769.out _; (with_reducible repeat (first | refine kA_ ?_ _ | refine kB_ ?_ | refine kC_ ?_ _)); exact BK760.out) k_ hk_), (Kd.freshB (g := gb761) (o := .cells #[.slice A1_0 l1_0.length c1_0, .slice A1_1 l1_1.length c1_1] 33 (0, 0)) (by (with_reducible repeat (first | refine kA_ ?_ _ | refine kB_ ?_ | refine kC_ ?_ _)); refine blk_far ?_ NB761_769.out _; (with_reducible repeat (first | refine kA_ ?_ _ | refine kB_ ?_ | refine kC_ ?_ _)); refine blk_far ?_ NB761_769.out _; (with_reducible repeat (first | refine kA_ ?_ _ | refine kB_ ?_ | refine kC_ ?_ _)); exact BK761.out) k_ hk_), (Kd.freshB (g := gb769) (o := .cells #[.slice Ao56 t762.length co56, .slice Ao60 t765.length co60] 33 (0, 0)) qp_ k_ hk_)⟩)) (bF_ hB_)); have HO775 := A_ (Kd.V_lower (Kd.V_mono (ok' := fun k_ => k_ ≠ gb760 ∧ k_ ≠ gb761 ∧ k_ ≠ gb769) ho1 (fun k_ hk_ => ⟨(Kd.freshB (g := gb760) (o := .cells #[.slice A0_0 l0_0.length c0_0, .slice A0_1 l0_1.length c0_1] 33 (0, 0)) (by (with_reducible repeat (first | refine kA_ ?_ _ | refine kB_ ?_ | refine kC_ ?_ _)); refine blk_far ?_ NB760_769.out _; (with_reducible repeat (first | refine kA_ ?_ _ | refine kB_ ?_ | refine kC_ ?_ _)); refine blk_far ?_ NB760_769.out _; (with_reducible repeat (first | refine kA_ ?_ _ | refine kB_ ?_ | refine kC_ ?_ _)); exact BK760.out) k_ hk_), (Kd.freshB (g := gb761) (o := .cells #[.slice A1_0 l1_0.length c1_0, .slice A1_1 l1_1.length c1_1] 33 (0, 0)) (by (with_reducible repeat (first | refine kA_ ?_ _ | refine kB_ ?_ | refine kC_ ?_ _)); refine blk_far ?_ NB761_769.out _; (with_reducible repeat (first | refine kA_ ?_ _ | refine kB_ ?_ | refine kC_ ?_ _)); refine blk_far ?_ NB761_769.out _; (with_reducible repeat (first | refine kA_ ?_ _ | refine kB_ ?_ | refine kC_ ?_ _)); exact BK761.out) k_ hk_), (Kd.freshB (g := gb769) (o := .cells #[.slice Ao56 t762.length co56, .slice Ao60 t765.length co60] 33 (0, 0)) qp_ k_ hk_)⟩)) (bF_ hB_)); replace BK760 := A_ (kE_ (g := gb760) (o := .cells #[.slice A0_0 l0_0.length c0_0, .slice A0_1 l0_1.length c0_1] 33 (0, 0)) (by (with_reducible repeat (first | refine kA_ ?_ _ | refine kB_ ?_ | refine kC_ ?_ _)); refine blk_far ?_ NB760_769.out _; (with_reducible repeat (first | refine kA_ ?_ _ | refine kB_ ?_ | refine kC_ ?_ _)); refine blk_far ?_ NB760_769.out _; (with_reducible repeat (first | refine kA_ ?_ _ | refine kB_ ?_ | refine kC_ ?_ _)); exact BK760.out) hb); replace BK761 := A_ (kE_ (g := gb761) (o := .cells #[.slice A1_0 l1_0.length c1_0, .slice A1_1 l1_1.length c1_1] 33 (0, 0)) (by (with_reducible repeat (first | refine kA_ ?_ _ | refine kB_ ?_ | refine kC_ ?_ _)); refine blk_far ?_ NB761_769.out _; (with_reducible repeat (first | refine kA_ ?_ _ | refine kB_ ?_ | refine kC_ ?_ _)); refine blk_far ?_ NB761_769.out _; (with_reducible repeat (first | refine kA_ ?_ _ | refine kB_ ?_ | refine kC_ ?_ _)); exact BK761.out) hb); replace BK769 := A_ (kE_ (g := gb769) (o := .cells #[.slice Ao56 t762.length co56, .slice Ao60 t765.length co60] 33 (0, 0)) qp_ hb); replace HB := b1_ hb; clear hb ho0 ho1) | ((with_reducible refine gB_ (N := 7) rfl ?_); refine bx_ 7 #[.slice none 0 0, .slice none 0 0] 33 ?_; intro gb777 hg w63 hbox hb; replace HO764 := A_ (Kd.V_below (Kd.V_elderB (by (with_reducible repeat (first | apply Kd.V_alloc | apply Kd.V_drewN | apply Kd.V_drew)); exact HO764.out) gb777 (Nat.le_of_eq hg.symm)) hb); replace HO767 := A_ (Kd.V_below (Kd.V_elderB (by (with_reducible repeat (first | apply Kd.V_alloc | apply Kd.V_drewN | apply Kd.V_drew)); exact HO767.out) gb777 (Nat.le_of_eq hg.symm)) hb); replace HO772 := A_ (Kd.V_below (Kd.V_elderB (by (with_reducible repeat (first | apply Kd.V_alloc | apply Kd.V_drewN | apply Kd.V_drew)); exact HO772.out) gb777 (Nat.le_of_eq hg.symm)) hb); replace HO775 := A_ (Kd.V_below (Kd.V_elderB (by (with_reducible repeat (first | apply Kd.V_alloc | apply Kd.V_drewN | apply Kd.V_drew)); exact HO775.out) gb777 (Nat.le_of_eq hg.symm)) hb); have BK777 := A_ hbox; have GW777 := gw_ w hg; have GE777 := GW777; replace HB := b1_ hb; have NB760_777 := gN_ BK760 hg; have NB777_760 := gP_ BK760 hg; replace BK760 := bb_ BK760 hb; have NB761_777 := gN_ BK761 hg; have NB777_761 := gP_ BK761 hg; replace BK761 := bb_ BK761 hb; have NB769_777 := gN_ BK769 hg; have NB777_769 := gP_ BK769 hg; replace BK769 := bb_ BK769 hb; clear hb hbox hg; obtain ⟨Ao64, co64, eo64⟩ := Kd.V_slice HO772.out; subst eo64; have hnb65 := NB777_760.out; have hnc65 := NB760_777.out; have hnb66 := NB777_761.out; have hnc66 := NB761_777.out; have hnb67 := NB777_769.out; have hnc67 := NB769_777.out; obtain ⟨hcz68_0, hcz68_1, hfz68_0, hfz68_1⟩ := c2_ BK777; obtain ⟨Ao69, co69, eo69⟩ := Kd.V_slice HO775.out; subst eo69))
  go_ret
  exact ⟨qb_, hB_⟩
def Z28.f (k : Nat) (l0_0 : List Int) (l0_1 : List Int) (a1 : ByteArray) : Option (Bool) := (Z47.f k l0_0 l0_1 a1).bind fun bt780 => (if bt780.2.2 = true then ((Z7.f k bt780.1 bt780.2.1 l0_0 l0_1).bind fun t788 => (some t788)) else (some false))
theorem Z28.mono : ∀ a0 a1 a2 k, LeO (Z28.f k a0 a1 a2) (Z28.f (k + 1) a0 a1 a2) := by
 intro a0 a1 a2 k
 unfold Z28.f
 repeat' first|exact Z7.mono _ _ _ _ _|exact Z47.mono _ _ _ _|exact lo_|refine LeO.ite ?_ ?_|refine LeO.bind ?_ (fun _ => ?_)
set_option maxHeartbeats 8000000 in
set_option maxRecDepth 100000 in
theorem Z28.calls (k : Nat) (A0_0 : Option Addr) (c0_0 : Nat) (l0_0 : List Int) (A0_1 : Option Addr) (c0_1 : Nat) (l0_1 : List Int) (a1 : ByteArray) (r : Bool) (w : World) (hr0_0 : Kd.C (Kd.int .i64) w A0_0 l0_0.length l0_0) (hc0_0 : l0_0.length ≤ c0_0) (hr0_1 : Kd.C (Kd.int .i64) w A0_1 l0_1.length l0_1) (hc0_1 : l0_1.length ≤ c0_1) (h : Z28.f k l0_0 l0_1 a1 = some r) :
  Calls Try.prog 34 #[.agg #[.slice A0_0 l0_0.length c0_0, .slice A0_1 l0_1.length c0_1], .string a1] w fun e w' => e = .returned (.bool r) ∧ Below w.heap.size w w' := by
 have hu33 := Try.underlying33
 have HR0_0 := A_ hr0_0
 have HC0_0 := A_ hc0_0
 clear hr0_0 hc0_0
 have HR0_1 := A_ hr0_1
 have HC0_1 := A_ hc0_1
 clear hr0_1 hc0_1
 have HB := A_ (Below.refl w.heap.size w)
 have H := h
 unfold Z28.f at H
 clear h
 obtain ⟨⟨t780, t783, t786⟩, A3, H⟩ := bi_ H
 try dsimp only at H
 by_cases c4 : t786 = true
 ·subst c4
  rw [if_pos rfl] at H
  obtain ⟨t788, A5, H⟩ := bi_ H
  obtain rfl := Option.some.inj H
  go_enter Try.func34, Try.ntmps34
  go_wp2_with (first | ((with_reducible refine gB_ (N := 2) rfl ?_); refine bx_ 2 #[.slice A0_0 l0_0.length c0_0, .slice A0_1 l0_1.length c0_1] 33 ?_; intro gb779 hg w6 hbox hb; have BK779 := A_ hbox; have GW779 := gw_ w hg; have GE779 := GW779; replace HB := b1_ hb; clear hb hbox hg; obtain ⟨hcz7_0, hcz7_1, hfz7_0, hfz7_1⟩ := c2_ BK779) | ((with_reducible refine gA_ (f := 21) rfl ?_); refine gL_ (some 10) Try.func21 #[.agg #[.slice A0_0 l0_0.length c0_0, .slice A0_1 l0_1.length c0_1], .string a1] rfl qa_ ?_; (with_reducible refine (Z47.calls k _ _ l0_0 _ _ l0_1 a1 t780 t783 true _ (cb_ HR0_0) HC0_0.out (cb_ HR0_1) HC0_1.out A3.out).mono ?_); rintro e w8 ⟨v781, v784, rfl, ho0, ho1, hb⟩; refine ⟨_, rfl, ?_⟩; have HO782 := rl_ w ho0; have HO785 := rl_ w ho1; replace BK779 := bb_ BK779 hb; replace HB := b1_ hb; clear hb ho0 ho1) | ((with_reducible refine gB_ (N := 5) rfl ?_); refine bx_ 5 #[.slice none 0 0, .slice none 0 0] 33 ?_; intro gb787 hg w9 hbox hb; replace HO782 := rb_ HO782 hb; replace HO785 := rb_ HO785 hb; have BK787 := A_ hbox; have GW787 := gw_ w hg; have GE787 := GW787; replace HB := b1_ hb; have NB779_787 := gN_ BK779 hg; have NB787_779 := gP_ BK779 hg; replace BK779 := bb_ BK779 hb; clear hb hbox hg; obtain ⟨Ao10, co10, eo10⟩ := Kd.R_slice HO782.out; subst eo10; have hnb11 := NB787_779.out; have hnc11 := NB779_787.out; obtain ⟨hcz12_0, hcz12_1, hfz12_0, hfz12_1⟩ := c2_ BK787; obtain ⟨Ao13, co13, eo13⟩ := Kd.R_slice HO785.out; subst eo13; obtain ⟨hcz14_0, hcz14_1, hfz14_0, hfz14_1⟩ := c2_ BK779) | (go_at_call 81; (with_reducible refine (Z7.calls k _ _ t780 _ _ t783 _ _ l0_0 _ _ l0_1 t788 _ ?side1 ?side2 ?side3 ?side4 ?side5 ?side6 ?side7 ?side8 A5.out).mono ?_); (case side1 => refine (Kd.R_reads' (e := 3) (base := w.heap.size) (ok := fun k_ => some k_ ≠ (.slice Ao13 t783.length co13 : Value).ownBlock) (n := t780.length) (c := co10) ?_).2.2; exact (rw_ (fa_ HO782 BK787))); (case side2 => exact (Kd.R_reads' HO782.out).2.1); (case side3 => refine (Kd.R_reads' (e := 3) (base := w.heap.size) (ok := fun k_ => some k_ ≠ (.slice Ao10 t780.length co10 : Value).ownBlock) (n := t783.length) (c := co13) ?_).2.2; exact (rw_ (fa_ HO785 BK787))); (case side4 => exact (Kd.R_reads' HO785.out).2.1); (case side5 => exact cD_ HR0_0.out hB_); (case side6 => exact HC0_0.out); (case side7 => exact cD_ HR0_1.out hB_); (case side8 => exact HC0_1.out); rintro e w15 ⟨rfl, hb⟩; replace HO782 := A_ (rD_ (rw_ (fa_ HO782 BK787)) hb); replace HO785 := A_ (rD_ (rw_ (fa_ HO785 BK787)) hb); replace BK779 := A_ (kE_ (g := gb779) (o := .cells #[.slice A0_0 l0_0.length c0_0, .slice A0_1 l0_1.length c0_1] 33 (0, 0)) (by (with_reducible repeat (first | refine kA_ ?_ _ | refine kB_ ?_ | refine kC_ ?_ _)); refine blk_far ?_ NB779_787.out _; (with_reducible repeat (first | refine kA_ ?_ _ | refine kB_ ?_ | refine kC_ ?_ _)); refine blk_far ?_ NB779_787.out _; (with_reducible repeat (first | refine kA_ ?_ _ | refine kB_ ?_ | refine kC_ ?_ _)); exact BK779.out) hb); replace BK787 := A_ (kE_ (g := gb787) (o := .cells #[.slice Ao10 t780.length co10, .slice Ao13 t783.length co13] 33 (0, 0)) qp_ hb); replace HB := b1_ hb; clear hb))
  go_ret
  exact ⟨qb_, hB_⟩
 ·replace c4 := Bool.eq_false_iff.mpr c4
  subst c4
  have H1 : (some false) = some r := by rw [if_neg (show ¬ (false = true) by decide)] at H; exact H
  clear H
  have H := H1
  clear H1
  obtain rfl := Option.some.inj H
  go_enter Try.func34, Try.ntmps34
  go_wp2_with (first | ((with_reducible refine gB_ (N := 2) rfl ?_); refine bx_ 2 #[.slice A0_0 l0_0.length c0_0, .slice A0_1 l0_1.length c0_1] 33 ?_; intro gb779 hg w16 hbox hb; have BK779 := A_ hbox; have GW779 := gw_ w hg; have GE779 := GW779; replace HB := b1_ hb; clear hb hbox hg; obtain ⟨hcz17_0, hcz17_1, hfz17_0, hfz17_1⟩ := c2_ BK779) | ((with_reducible refine gA_ (f := 21) rfl ?_); refine gL_ (some 10) Try.func21 #[.agg #[.slice A0_0 l0_0.length c0_0, .slice A0_1 l0_1.length c0_1], .string a1] rfl qa_ ?_; (with_reducible refine (Z47.calls k _ _ l0_0 _ _ l0_1 a1 t780 t783 false _ (cb_ HR0_0) HC0_0.out (cb_ HR0_1) HC0_1.out A3.out).mono ?_); rintro e w18 ⟨v781, v784, rfl, ho0, ho1, hb⟩; refine ⟨_, rfl, ?_⟩; have HO782 := rl_ w ho0; have HO785 := rl_ w ho1; replace BK779 := bb_ BK779 hb; replace HB := b1_ hb; clear hb ho0 ho1) | ((with_reducible refine gB_ (N := 5) rfl ?_); refine bx_ 5 #[.slice none 0 0, .slice none 0 0] 33 ?_; intro gb787 hg w19 hbox hb; replace HO782 := rb_ HO782 hb; replace HO785 := rb_ HO785 hb; have BK787 := A_ hbox; have GW787 := gw_ w hg; have GE787 := GW787; replace HB := b1_ hb; have NB779_787 := gN_ BK779 hg; have NB787_779 := gP_ BK779 hg; replace BK779 := bb_ BK779 hb; clear hb hbox hg; obtain ⟨Ao20, co20, eo20⟩ := Kd.R_slice HO782.out; subst eo20; have hnb21 := NB787_779.out; have hnc21 := NB779_787.out; obtain ⟨hcz22_0, hcz22_1, hfz22_0, hfz22_1⟩ := c2_ BK787; obtain ⟨Ao23, co23, eo23⟩ := Kd.R_slice HO785.out; subst eo23))
  go_ret
  exact ⟨qb_, hB_⟩
def Z16.f (k : Nat) (l0_0 : List Int) (l0_1 : List Int) : Option (Bool) := (Z28.f k l0_0 l0_1 (⟨#[83, 83]⟩ : ByteArray)).bind fun t790 => (some t790)
theorem Z16.mono : ∀ a0 a1 k, LeO (Z16.f k a0 a1) (Z16.f (k + 1) a0 a1) := by
 intro a0 a1 k
 unfold Z16.f
 repeat' first|exact Z28.mono _ _ _ _|exact lo_|refine LeO.ite ?_ ?_|refine LeO.bind ?_ (fun _ => ?_)
set_option maxHeartbeats 8000000 in
set_option maxRecDepth 100000 in
theorem Z16.calls (k : Nat) (A0_0 : Option Addr) (c0_0 : Nat) (l0_0 : List Int) (A0_1 : Option Addr) (c0_1 : Nat) (l0_1 : List Int) (r : Bool) (w : World) (hr0_0 : Kd.C (Kd.int .i64) w A0_0 l0_0.length l0_0) (hc0_0 : l0_0.length ≤ c0_0) (hr0_1 : Kd.C (Kd.int .i64) w A0_1 l0_1.length l0_1) (hc0_1 : l0_1.length ≤ c0_1) (h : Z16.f k l0_0 l0_1 = some r) :
  Calls Try.prog 29 #[.agg #[.slice A0_0 l0_0.length c0_0, .slice A0_1 l0_1.length c0_1]] w fun e w' => e = .returned (.bool r) ∧ Below w.heap.size w w' := by
 have hu33 := Try.underlying33
 have HR0_0 := A_ hr0_0
 have HC0_0 := A_ hc0_0
 clear hr0_0 hc0_0
 have HR0_1 := A_ hr0_1
 have HC0_1 := A_ hc0_1
 clear hr0_1 hc0_1
 have HB := A_ (Below.refl w.heap.size w)
 have H := h
 unfold Z16.f at H
 clear h
 obtain ⟨t790, A2, H⟩ := bi_ H
 obtain rfl := Option.some.inj H
 go_enter Try.func29, Try.ntmps29
 go_wp2_with (first | ((with_reducible refine gB_ (N := 1) rfl ?_); refine bx_ 1 #[.slice A0_0 l0_0.length c0_0, .slice A0_1 l0_1.length c0_1] 33 ?_; intro gb789 hg w3 hbox hb; have BK789 := A_ hbox; have GW789 := gw_ w hg; have GE789 := GW789; replace HB := b1_ hb; clear hb hbox hg; obtain ⟨hcz4_0, hcz4_1, hfz4_0, hfz4_1⟩ := c2_ BK789) | ((with_reducible refine gA_ (f := 34) rfl ?_); refine gL_ (some 4) Try.func34 #[.agg #[.slice A0_0 l0_0.length c0_0, .slice A0_1 l0_1.length c0_1], .string (⟨#[83, 83]⟩ : ByteArray)] rfl qa_ ?_; (with_reducible refine (Z28.calls k _ _ l0_0 _ _ l0_1 (⟨#[83, 83]⟩ : ByteArray) t790 _ (cb_ HR0_0) HC0_0.out (cb_ HR0_1) HC0_1.out A2.out).mono ?_); rintro e w5 ⟨rfl, hb⟩; refine ⟨_, rfl, ?_⟩; replace BK789 := bb_ BK789 hb; replace HB := b1_ hb; clear hb))
 go_ret
 exact ⟨qb_, hB_⟩
end Go.Proofs.Ytoijcallajegfaa.A
end
