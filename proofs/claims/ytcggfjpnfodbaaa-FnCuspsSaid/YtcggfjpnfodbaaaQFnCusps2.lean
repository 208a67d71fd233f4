/- Lemmas for the row FnCusps: the program's functions told as plain functions, and plain mathematics. No conditions. -/
import Derived.Test.YtcggfjpnfodbaaaQFnCusps1
section
namespace Go.Proofs.Ytcggfjpnfodbaaa.A
open Go.RowKit Go.Proofs.YtcggfjpnfodbaaaW.PrintWords Go.Proofs.YtcggfjpnfodbaaaW.PrintLast Go.Proofs.YtcggfjpnfodbaaaW.PrintMore
attribute [local go_sem] max2_int min2_int max_two min_two max_three min_three max_four min_four
set_option linter.unusedVariables false
set_option linter.unusedSimpArgs false
mutual
def Z26.j0 : Nat → List Int → List Int → Bool → Option (List Int)
 | 0, _, _, _ => none
 | k + 1, x0, x1, x22 => if x22 = true then (some ([] : List Int)) else (if 0 ≤ (x0.length : Int) then (if ((x0.length : Int) : Int).toNat ≤ 35184372088832 then (Z26.l0 k x1 (List.replicate ((x0.length : Int) : Int).toNat 0) x0 (x0.length : Int) 0) else (none)) else (none))
def Z26.l0 : Nat → List Int → List Int → List Int → Int → Int → Option (List Int)
 | 0, _, _, _, _, _ => none
 | k + 1, x1, x5, x26, x27, x28 => if x28 < x27 then (if 0 ≤ x28 then (if x28 < (x26.length : Int) then (if x28 < (x1.length : Int) then (if 0 ≤ (rd x26 x28) then (if (rd x26 x28) < (x1.length : Int) then (if 0 ≤ (rd x1 x28) then (if (rd x1 x28) < (x5.length : Int) then (Z26.l0 k x1 (x5.set ((rd x1 x28) : Int).toNat (rd x1 (rd x26 x28))) x26 x27 (wrap64 (x28 + 1))) else (none)) else (none)) else (none)) else (none)) else (none)) else (none)) else (none)) else (some x5)
end
def Z26.f (k : Nat) (l0 : List Int) (l1 : List Int) : Option (List Int) := (Z49.f k l0).bind fun t241 => (if t241 = true then ((Z49.f k l1).bind fun t242 => (if t242 = true then (Z26.j0 k l0 l1 ((l0.length : Int) != (l1.length : Int))) else (Z26.j0 k l0 l1 true))) else (Z26.j0 k l0 l1 true))
theorem Z26.mono_l : ∀ k, (∀ y0 y1 y2, LeO (Z26.j0 k y0 y1 y2) (Z26.j0 (k + 1) y0 y1 y2)) ∧ (∀ y0 y1 y2 y3 y4, LeO (Z26.l0 k y0 y1 y2 y3 y4) (Z26.l0 (k + 1) y0 y1 y2 y3 y4))
 | 0 => ⟨fun _ _ _ r h => by simp [Z26.j0] at h, fun _ _ _ _ _ r h => by simp [Z26.l0] at h⟩
 | k + 1 => by
  obtain ⟨ih0, ih1⟩ := Z26.mono_l k
  refine ⟨?_, ?_⟩
  ·intro y0 y1 y2
   unfold Z26.j0
   repeat' first|exact ih0 _ _ _|exact ih1 _ _ _ _ _|exact Z49.mono _ _|exact lo_|refine LeO.ite ?_ ?_|refine LeO.bind ?_ (fun _ => ?_)
  ·intro y0 y1 y2 y3 y4
   unfold Z26.l0
   repeat' first|exact ih0 _ _ _|exact ih1 _ _ _ _ _|exact Z49.mono _ _|exact lo_|refine LeO.ite ?_ ?_|refine LeO.bind ?_ (fun _ => ?_)
theorem Z26.mono : ∀ a0 a1 k, LeO (Z26.f k a0 a1) (Z26.f (k + 1) a0 a1) := by
 intro a0 a1 k
 obtain ⟨ih0, ih1⟩ := Z26.mono_l k
 unfold Z26.f
 repeat' first|exact ih0 _ _ _|exact ih1 _ _ _ _ _|exact Z49.mono _ _|exact lo_|refine LeO.ite ?_ ?_|refine LeO.bind ?_ (fun _ => ?_)
def Z26.T7 : Bool × List (List Nat × List Nat) := (true, [([], []), ([], []), ([], []), ([1, 2], [1, 2]), ([3], [3]), ([], []), ([], []), ([5, 6], [5, 6]), ([7], [7]), ([0, 4, 0, 1, 2, 3, 4, 5, 6, 7, 8], [0, 4]), ([9, 8, 0, 1, 2, 3, 4, 5, 6, 7, 8], [8, 9])])
def Z26.B7 : List Nat := [0, 0, 0, 6, 14, 0, 0, 96, 224, 511, 1023]
theorem Z26.tab7 : rtab .any (opsOf Try.f144 7) = Z26.T7 := by kernel_rfl
theorem Z26.bits7 : waitsOk Z26.T7.2 Z26.B7 = true := by kernel_rfl
set_option maxHeartbeats 8000000 in
set_option maxRecDepth 100000 in
theorem Z26.calls (k : Nat) (A0 : Option Addr) (c0 : Nat) (l0 : List Int) (A1 : Option Addr) (c1 : Nat) (l1 : List Int) (r : List Int) (w : World) (hr0 : Kd.C (Kd.int .i64) w A0 l0.length l0) (hc0 : l0.length ≤ c0) (hr1 : Kd.C (Kd.int .i64) w A1 l1.length l1) (hc1 : l1.length ≤ c1) (h : Z26.f k l0 l1 = some r) :
  Calls Try.prog 144 #[.slice A0 l0.length c0, .slice A1 l1.length c1] w fun e w' => ∃ v0_ : Value, e = .returned (v0_) ∧ Kd.R (Kd.int .i64) 3 w' w.heap.size (fun _ => True) v0_ r ∧ Below w.heap.size w w' := by
 have HR0 := A_ hr0
 have HC0 := A_ hc0
 clear hr0 hc0
 have HR1 := A_ hr1
 have HC1 := A_ hc1
 clear hr1 hc1
 have HB := A_ (Below.refl w.heap.size w)
 have H := h
 unfold Z26.f at H
 clear h
 have HC3 := A_ H
 clear H
 go_enter Try.func144, Try.ntmps144
 go_upto_region 1 with (fail)
 go_cut [22] (fun v22 wc => ∃ (kq : Nat) (x22_2 : Bool), v22 = .bool x22_2 ∧ Aside0 (Z26.j0 kq l0 l1 x22_2 = some r) ∧ Aside0 (kq ≤ k) ∧ Aside0 (Below w.heap.size w wc))
 case first =>
  have H := HC3.out
  clear HC3
  obtain ⟨t241, A4, H⟩ := bi_ H
  by_cases c5 : t241 = true
  ·subst c5
   rw [if_pos rfl] at H
   obtain ⟨t242, A6, H⟩ := bi_ H
   by_cases c7 : t242 = true
   ·subst c7
    rw [if_pos rfl] at H
    have H' := A_ H
    clear H
    go_wp2_with (first | ((with_reducible refine gA_ (f := 107) rfl ?_); refine gL_ (some 9) Try.func107 #[.slice A0 l0.length c0] rfl qa_ ?_; (with_reducible refine (Z49.calls k _ _ l0 true _ (cb_ HR0) HC0.out A4.out).mono ?_); rintro e w8 ⟨rfl, hb⟩; refine ⟨_, rfl, ?_⟩; replace HB := b1_ hb; clear hb) | (go_at_call 107; (with_reducible refine (Z49.calls k _ _ l1 true _ (cb_ HR1) HC1.out A6.out).mono ?_); rintro e w9 ⟨rfl, hb⟩; replace HB := b1_ hb; clear hb))
    go_meet
    case rel => exact ⟨_, (((l0.length : Int) != (l1.length : Int))), qc_, H', ⟨qd_⟩, ⟨hB_⟩⟩
   ·replace c7 := Bool.eq_false_iff.mpr c7
    subst c7
    have H1 : (Z26.j0 k l0 l1 true) = some r := by rw [if_neg (show ¬ (false = true) by decide)] at H; exact H
    clear H
    have H := H1
    clear H1
    have H' := A_ H
    clear H
    go_wp2_with (first | ((with_reducible refine gA_ (f := 107) rfl ?_); refine gL_ (some 9) Try.func107 #[.slice A0 l0.length c0] rfl qa_ ?_; (with_reducible refine (Z49.calls k _ _ l0 true _ (cb_ HR0) HC0.out A4.out).mono ?_); rintro e w10 ⟨rfl, hb⟩; refine ⟨_, rfl, ?_⟩; replace HB := b1_ hb; clear hb) | (go_at_call 107; (with_reducible refine (Z49.calls k _ _ l1 false _ (cb_ HR1) HC1.out A6.out).mono ?_); rintro e w11 ⟨rfl, hb⟩; replace HB := b1_ hb; clear hb))
    go_meet
    case rel => exact ⟨_, (true), qc_, H', ⟨qd_⟩, ⟨hB_⟩⟩
  ·replace c5 := Bool.eq_false_iff.mpr c5
   subst c5
   have H1 : (Z26.j0 k l0 l1 true) = some r := by rw [if_neg (show ¬ (false = true) by decide)] at H; exact H
   clear H
   have H := H1
   clear H1
   have H' := A_ H
   clear H
   go_wp2_with (first | ((with_reducible refine gA_ (f := 107) rfl ?_); refine gL_ (some 9) Try.func107 #[.slice A0 l0.length c0] rfl qa_ ?_; (with_reducible refine (Z49.calls k _ _ l0 false _ (cb_ HR0) HC0.out A4.out).mono ?_); rintro e w12 ⟨rfl, hb⟩; refine ⟨_, rfl, ?_⟩; replace HB := b1_ hb; clear hb))
   go_meet
   case rel => exact ⟨_, (true), qc_, H', ⟨qd_⟩, ⟨hB_⟩⟩
 case rest =>
  clear HC3
  obtain ⟨kq, x22_2, rfl, HA, HJ2, HB⟩ := hcut
  cases kq with
  | zero => exact absurd HA.out (by simp [Z26.j0])
  | succ kj2 =>
   have H := HA.out
   clear HA
   simp only [Z26.j0] at H
   by_cases c13 : x22_2 = true
   ·subst c13
    rw [if_pos rfl] at H
    obtain rfl := Option.some.inj H
    go_wp2
    go_ret
    exact ⟨_, qb_, by first | exact Kd.R_nil _ _ _ _ _ | exact Kd.N_nil _ _ _ _ _ | exact Kd.V_nil _ _ _ _ _ | exact Kd.Q_nil _ _ _ _ _ | exact Kd.S_nil _ _ _ _ _, hB_⟩
   ·replace c13 := Bool.eq_false_iff.mpr c13
    subst c13
    have H1 : (if 0 ≤ (l0.length : Int) then (if ((l0.length : Int) : Int).toNat ≤ 35184372088832 then (Z26.l0 kj2 l1 (List.replicate ((l0.length : Int) : Int).toNat 0) l0 (l0.length : Int) 0) else (none)) else (none)) = some r := by rw [if_neg (show ¬ (false = true) by decide)] at H; exact H
    clear H
    have H := H1
    clear H1
    have c14 := cp_ H
    replace H := ca_ H
    have c14b0 := eq_true c14
    have c14b1 := oC_ c14
    clear c14
    have c15 := cp_ H
    replace H := ca_ H
    have c15b0 := eq_true c15
    have c15b1 := oC_ c15
    clear c15
    obtain ⟨y243, hy243⟩ : ∃ y_ : List Int, y_ = (List.replicate ((l0.length : Int) : Int).toNat 0) := ⟨_, rfl⟩
    replace H : (Z26.l0 kj2 l1 y243 l0 (l0.length : Int) 0) = some r := by first | (rw [hy243]; exact H) | exact H
    have Ny243 := A_ hy243
    clear hy243
    have H' := A_ H
    clear H
    go_wp2_with (first | ((with_reducible refine gB_ (N := 25) rfl ?_); (try (refine gate_guard (by rfl) ?_; dsimp only)); refine Kd.R_make (Kd.int .i64) _ 3 rfl (N := 25) rfl 23 _ _ rfl (l0.length : Int) rfl rfl Try.underlying23 (.int .i64 0) 8 info3 rfl (by decide) (by omega) 0 (ok := fun _ => True) (okp := fun _ => True) rfl (fun _ hk => hk) trivial (oB_ qe_) (Nat.le_trans (Nat.mul_le_mul_right _ (oB_ qe_ : (l0.length : Int).toNat ≤ 35184372088832)) (by omega)) (Below.refl _ _) (nA_ _) ?_; intro v244 w16 ho17 hb hg_ hnew_; clear hg_ hnew_; (first | rw [← Ny243.out] at ho17 | (simp only [Int.reduceToNat] at ho17; rw [← Ny243.out] at ho17)); have HO245 := rl_ w ho17; replace HB := b1_ hb; clear hb ho17))
    go_loopg [28] kj2 (fun kq v28 w' => ∃ (x5_2 : List Int) (x28_2 : Int), v28 = .int .i64 x28_2 ∧ Aside0 (Z26.l0 kq l1 x5_2 l0 (l0.length : Int) x28_2 = some r) ∧ Aside0 (kq ≤ kj2) ∧ Aside0 (Kd.R (Kd.int .i64) 3 w' w.heap.size (fun _ => True) v244 x5_2) ∧ Aside0 (Below w.heap.size w w'))
    case atStart => exact ⟨(y243), (0), qc_, H', ⟨nA_ _⟩, ⟨(rr_ HO245)⟩, ⟨hB_⟩⟩
    case round =>
     clear H'
     obtain ⟨x5_2, x28_2, rfl, HA, HK2, HO_5, HB⟩ := hrel
     cases gk with
     | zero => exact absurd HA.out (by simp [Z26.l0])
     | succ k2 =>
      have H := HA.out
      clear HA
      simp only [Z26.l0] at H
      by_cases c18 : x28_2 < (l0.length : Int)
      ·rw [if_pos c18] at H
       have c18b0 := oC_ c18
       clear c18
       have c19 := cp_ H
       replace H := ca_ H
       have c19b0 := oC_ c19
       clear c19
       have c20 := cp_ H
       replace H := ca_ H
       have c20b0 := oC_ c20
       clear c20
       have c21 := cp_ H
       replace H := ca_ H
       have c21b0 := oC_ c21
       clear c21
       have c22 := cp_ H
       replace H := ca_ H
       have c22b0 := oC_ c22
       clear c22
       have c23 := cp_ H
       replace H := ca_ H
       have c23b0 := oC_ c23
       clear c23
       have c24 := cp_ H
       replace H := ca_ H
       have c24b0 := oC_ c24
       clear c24
       have c25 := cp_ H
       replace H := ca_ H
       have c25b0 := oC_ c25
       clear c25
       obtain ⟨y249, hy249⟩ : ∃ y_ : List Int, y_ = (x5_2.set ((rd l1 x28_2) : Int).toNat (rd l1 (rd l0 x28_2))) := ⟨_, rfl⟩
       replace H : (Z26.l0 k2 l1 y249 l0 (l0.length : Int) (wrap64 (x28_2 + 1))) = some r := by first | (rw [hy249]; exact H) | exact H
       have Ny249 := A_ hy249
       clear hy249
       have H' := A_ H
       clear H
       have p246 : 0 ≤ (x28_2 : Int) := oB_ qe_
       have q246 : x28_2 < (l0.length : Int) := oB_ qe_
       obtain ⟨ad246, e246, hx246_0⟩ := Kd.at_int HR0.out x28_2 p246 q246
       cases e246
       replace hx246_0 := (HB.out.cell (World.block_lt_of_cell? w _ hx246_0)).trans hx246_0
       replace p246 := eq_true p246
       replace q246 := eq_true q246
       try go_wp2
       replace HO_5 := A_ (rC_ HO_5.out)
       replace HB := A_ (bC_ HB.out)
       have p247 : 0 ≤ (x28_2 : Int) := oB_ qe_
       have q247 : x28_2 < (l1.length : Int) := oB_ qe_
       obtain ⟨ad247, e247, hx247_0⟩ := Kd.at_int HR1.out x28_2 p247 q247
       have hw247_0 := hx247_0
       cases e247
       replace hx247_0 := (HB.out.cell (World.block_lt_of_cell? w _ hx247_0)).trans hx247_0
       replace p247 := eq_true p247
       replace q247 := eq_true q247
       have p248 : 0 ≤ ((rd l0 x28_2) : Int) := oB_ qe_
       have q248 : (rd l0 x28_2) < (l1.length : Int) := oB_ qe_
       obtain ⟨ad248, e248, hx248_0⟩ := Kd.at_int HR1.out (rd l0 x28_2) p248 q248
       have hw248_0 := hx248_0
       obtain rfl : ad247 = ad248 := (by injection e248)
       replace hx248_0 := (HB.out.cell (World.block_lt_of_cell? w _ hx248_0)).trans hx248_0
       replace p248 := eq_true p248
       replace q248 := eq_true q248
       have p26 : 0 ≤ ((rd l1 x28_2) : Int) := oB_ qe_
       have q26 : ((rd l1 x28_2) : Int) < ((x5_2.length : Int) : Int) := oB_ qe_
       obtain ⟨go26, co26, eo26, gb26, gl26, cl26, HG26⟩ := Kd.R_form HO_5.out (by omega)
       (first | cases eo26 | (injection eo26 with ea_ en_ ec_; (first | subst ea_ | (injection ea_ with ea_; subst ea_)); subst ec_; clear en_))
       have GB26 := A_ gb26
       have GG26 := A_ HG26
       clear gb26 gl26 HG26
       obtain ⟨hx26_0, hf26_0⟩ := Kd.R_celln 0 HO_5.out ((rd l1 x28_2) : Int) p26 q26
       replace p26 := eq_true p26
       replace q26 := eq_true q26
       have HP28 := Kd.R_putn HO_5.out ((rd l1 x28_2) : Int) (rd l1 (rd l0 x28_2))
       rw [← Ny249.out] at HP28
       have HQ28 := A_ HP28
       clear HP28
       refine start_ (n := 11) (S := fun w' => w'.cell? (ad247.add (x28_2).toNat) = some (.int .i64 (rd l1 x28_2)) ∧ w'.cell? (ad247.add ((rd l0 x28_2)).toNat) = some (.int .i64 (rd l1 (rd l0 x28_2)))) (ds := [10]) (bl_ 11 0) (by kernel_rfl) rfl (by kernel_rfl) ⟨((HB.out.cell (World.block_lt_of_cell? w _ hw247_0)).trans hw247_0), ((HB.out.cell (World.block_lt_of_cell? w _ hw248_0)).trans hw248_0)⟩ (fun hHeld => ?_); refine with_tabW Z26.tab7 Z26.bits7 (fun HT_ HW_ => ?_)
       generalize wr.drew = w27 at HO_5 HB GG26 HQ28 hf26_0 hx247_0 hx248_0 hx26_0 hHeld ⊢
       refine pu_ 0 (some 33) (bl_ 11 1) HT_ ?_
       refine pu_ 1 (some 34) (bl_ 11 3) HT_ ?_
       refine pu_ 2 (some 35) (bl_ 11 7) HT_ ?_
       refine pu_ 3 (some 36) (bl_ 11 15) HT_ ?_
       refine pu_ 5 (some 38) (bl_ 11 47) HT_ ?_
       refine pu_ 6 (some 39) (bl_ 11 111) HT_ ?_
       refine pu_ 7 (some 40) (bl_ 11 239) HT_ ?_
       refine ta_ 4 (some 37) (bl_ 11 255) HT_ HW_ hHeld ?_
       refine ta_ 8 (some 41) (bl_ 11 511) HT_ HW_ hHeld ?_
       refine pu_ 9 (some 42) (bl_ 11 1023) HT_ ?_
       refine last_ (i := 10) (N := none) (bl_ 11 2047) rfl rfl (one_of HT_.out (by kernel_rfl)) (by decide) (fun K hK => ?_)
       refine skip_ (w1 := ?_) (by rfl) rfl ?_ ?_
       rotate_left
       ·go_simp
        rfl
       refine hK.out _ _ ?_
       clear hK K
       refine done_ (done_of HT_.out (by kernel_rfl)) ?_
       try go_wp2
       go_roundg k2
       case measure => have := HJ2.out; have := HK2.out; omega
       case rel => exact ⟨(y249), (wrap64 (x28_2 + 1)), qc_, H', ⟨by have := HJ2.out; have := HK2.out; omega⟩, ⟨(rr_ HQ28)⟩, ⟨by repeat (first | (with_reducible first | exact HB.out | apply bA_ | apply bB_ | apply bC_ | refine bD_ ?_ GB26.out) | exact HB.out)⟩⟩
      ·rw [if_neg c18] at H
       have c18b0 := oD_ c18
       clear c18
       obtain rfl := Option.some.inj H
       go_wp2
       go_ret
       exact ⟨_, qb_, (rr_ HO_5), hB_⟩
end Go.Proofs.Ytcggfjpnfodbaaa.A
end
section
namespace Go.Proofs.Ytcggfjpnfodbaaa.A
open Go.RowKit Go.Proofs.YtcggfjpnfodbaaaW.PrintWords Go.Proofs.YtcggfjpnfodbaaaW.PrintLast Go.Proofs.YtcggfjpnfodbaaaW.PrintMore
attribute [local go_sem] max2_int min2_int max_two min_two max_three min_three max_four min_four
set_option linter.unusedVariables false
set_option linter.unusedSimpArgs false
def Z9.j0 : Nat → List Int → Bool → List Int → List Int → Option (List Int × List Int × Bool)
 | 0, _, _, _, _ => none
 | k + 1, x1, x21, x251000, x251001 => if x21 = true then (some (([] : List Int), ([] : List Int), false)) else ((Z26.f k x251000 x1).bind fun t254 => ((Z26.f k x251001 x1).bind fun t257 => (some (t254, t257, true))))
def Z9.f (k : Nat) (l0_0 : List Int) (l0_1 : List Int) (l1 : List Int) : Option (List Int × List Int × Bool) := (Z29.f k l0_0 l0_1).bind fun t252 => (if t252 = true then ((Z49.f k l1).bind fun t253 => (if t253 = true then (Z9.j0 k l1 ((l1.length : Int) != (l0_0.length : Int)) l0_0 l0_1) else (Z9.j0 k l1 true l0_0 l0_1))) else (Z9.j0 k l1 true l0_0 l0_1))
theorem Z9.mono_l : ∀ k, (∀ y0 y1 y2 y3, LeO (Z9.j0 k y0 y1 y2 y3) (Z9.j0 (k + 1) y0 y1 y2 y3))
 | 0 => fun _ _ _ _ r h => by simp [Z9.j0] at h
 | k + 1 => by
  have ih0 := Z9.mono_l k
  ·intro y0 y1 y2 y3
   unfold Z9.j0
   repeat' first|exact ih0 _ _ _ _|exact Z49.mono _ _|exact Z26.mono _ _ _|exact Z29.mono _ _ _|exact lo_|refine LeO.ite ?_ ?_|refine LeO.bind ?_ (fun _ => ?_)
theorem Z9.mono : ∀ a0 a1 a2 k, LeO (Z9.f k a0 a1 a2) (Z9.f (k + 1) a0 a1 a2) := by
 intro a0 a1 a2 k
 have ih0 := Z9.mono_l k
 unfold Z9.f
 repeat' first|exact ih0 _ _ _ _|exact Z49.mono _ _|exact Z26.mono _ _ _|exact Z29.mono _ _ _|exact lo_|refine LeO.ite ?_ ?_|refine LeO.bind ?_ (fun _ => ?_)
def Z9.T3 : Bool × List (List Nat × List Nat) := (true, [([], []), ([0], [0]), ([], []), ([1, 2], [1, 2]), ([], []), ([4], [4]), ([], []), ([5, 6, 3], [5, 6]), ([3, 7], [3, 7]), ([8, 7, 0, 1, 2, 3, 4, 5, 6, 7, 8], [8]), ([9, 0, 1, 2, 3, 4, 5, 6, 7, 8, 9], [])])
def Z9.B3 : List Nat := [0, 1, 0, 7, 0, 16, 0, 127, 255, 511, 1023]
theorem Z9.tab3 : rtab .any (opsOf Try.f113 3) = Z9.T3 := by kernel_rfl
theorem Z9.bits3 : waitsOk Z9.T3.2 Z9.B3 = true := by kernel_rfl
set_option maxHeartbeats 8000000 in
set_option maxRecDepth 100000 in
theorem Z9.calls (k : Nat) (A0_0 : Option Addr) (c0_0 : Nat) (l0_0 : List Int) (A0_1 : Option Addr) (c0_1 : Nat) (l0_1 : List Int) (A1 : Option Addr) (c1 : Nat) (l1 : List Int) (r1 : List Int) (r2 : List Int) (r3 : Bool) (w : World) (hr0_0 : Kd.C (Kd.int .i64) w A0_0 l0_0.length l0_0) (hc0_0 : l0_0.length ≤ c0_0) (hr0_1 : Kd.C (Kd.int .i64) w A0_1 l0_1.length l0_1) (hc0_1 : l0_1.length ≤ c0_1) (hr1 : Kd.C (Kd.int .i64) w A1 l1.length l1) (hc1 : l1.length ≤ c1) (h : Z9.f k l0_0 l0_1 l1 = some (r1, r2, r3)) :
  Calls Try.prog 113 #[.agg #[.slice A0_0 l0_0.length c0_0, .slice A0_1 l0_1.length c0_1], .slice A1 l1.length c1] w fun e w' => ∃ v0_ v1_ : Value, e = .returned (.tuple #[.agg #[v0_, v1_], .bool r3]) ∧ Kd.R (Kd.int .i64) 3 w' w.heap.size (fun k_ => some k_ ≠ (v1_ : Value).ownBlock) v0_ r1 ∧ Kd.R (Kd.int .i64) 3 w' w.heap.size (fun k_ => some k_ ≠ (v0_ : Value).ownBlock) v1_ r2 ∧ Below w.heap.size w w' := by
 have hu25 := Try.underlying25
 have HR0_0 := A_ hr0_0
 have HC0_0 := A_ hc0_0
 clear hr0_0 hc0_0
 have HR0_1 := A_ hr0_1
 have HC0_1 := A_ hc0_1
 clear hr0_1 hc0_1
 have HR1 := A_ hr1
 have HC1 := A_ hc1
 clear hr1 hc1
 have HB := A_ (Below.refl w.heap.size w)
 have H := h
 unfold Z9.f at H
 clear h
 have HC3 := A_ H
 clear H
 go_enter Try.func113, Try.ntmps113
 go_upto_region 1 with (first | ((with_reducible refine gB_ (N := 2) rfl ?_); (try (refine gate_guard (by rfl) ?_; dsimp only)); refine bx_ 2 #[.slice A0_0 l0_0.length c0_0, .slice A0_1 l0_1.length c0_1] 25 ?_; intro gb250 hg w4 hbox hb; have BK250 := A_ hbox; have GW250 := gw_ w hg; have GE250 := GW250; replace HB := b1_ hb; clear hb hbox hg) | ((with_reducible refine gB_ (N := 4) rfl ?_); (try (refine gate_guard (by rfl) ?_; dsimp only)); refine bx_ 4 #[.slice none 0 0, .slice none 0 0] 25 ?_; intro gb251 hg w5 hbox hb; have BK251 := A_ hbox; have GW251 := gw_ w hg; have GE251 := GW251; replace HB := b1_ hb; have NB250_251 := gN_ BK250 hg; have NB251_250 := gP_ BK250 hg; replace BK250 := bb_ BK250 hb; clear hb hbox hg))
 (try simp only [Act.put, sA_, sB_, sC_])
 go_cut [21] (fun v21 wc => ∃ (kq : Nat) (x21_2 : Bool), v21 = .bool x21_2 ∧ Aside0 (Z9.j0 kq l1 x21_2 l0_0 l0_1 = some (r1, r2, r3)) ∧ Aside0 (kq ≤ k) ∧ Aside0 (wc.heap[gb250]? = some (.cells #[(.slice A0_0 l0_0.length c0_0), (.slice A0_1 l0_1.length c0_1)] 25 (0, 0))) ∧ Aside0 (wc.heap[gb251]? = some (.cells #[(.slice none 0 0), (.slice none 0 0)] 25 (0, 0))) ∧ Aside0 (Below w.heap.size w wc))
 case first =>
  have H := HC3.out
  clear HC3
  obtain ⟨t252, A6, H⟩ := bi_ H
  by_cases c7 : t252 = true
  ·subst c7
   rw [if_pos rfl] at H
   obtain ⟨t253, A8, H⟩ := bi_ H
   by_cases c9 : t253 = true
   ·subst c9
    rw [if_pos rfl] at H
    have H' := A_ H
    clear H
    have hnb10 := NB250_251.out
    have hnc10 := NB251_250.out
    obtain ⟨hcz11_0, hcz11_1, hfz11_0, hfz11_1⟩ := c2_ BK250
    go_wp2_with (first | ((with_reducible refine gA_ (f := 66) rfl ?_); refine gL_ (some 7) Try.func66 #[.agg #[.slice A0_0 l0_0.length c0_0, .slice A0_1 l0_1.length c0_1]] rfl qa_ ?_; (with_reducible refine (Z29.calls k _ _ l0_0 _ _ l0_1 true _ (cb_ HR0_0) HC0_0.out (cb_ HR0_1) HC0_1.out A6.out).mono ?_); rintro e w12 ⟨rfl, hb⟩; refine ⟨_, rfl, ?_⟩; replace BK250 := bb_ BK250 hb; replace BK251 := bb_ BK251 hb; replace HB := b1_ hb; clear hb) | (go_at_call 107; (with_reducible refine (Z49.calls k _ _ l1 true _ (cb_ HR1) HC1.out A8.out).mono ?_); rintro e w13 ⟨rfl, hb⟩; replace BK250 := bb_ BK250 hb; replace BK251 := bb_ BK251 hb; replace HB := b1_ hb; clear hb; obtain ⟨hcz14_0, hcz14_1, hfz14_0, hfz14_1⟩ := c2_ BK250))
    go_meet
    case rel => exact ⟨_, (((l1.length : Int) != (l0_0.length : Int))), qc_, H', ⟨qd_⟩, ⟨(kk_ BK250)⟩, ⟨(kk_ BK251)⟩, ⟨hB_⟩⟩
   ·replace c9 := Bool.eq_false_iff.mpr c9
    subst c9
    have H1 : (Z9.j0 k l1 true l0_0 l0_1) = some (r1, r2, r3) := by rw [if_neg (show ¬ (false = true) by decide)] at H; exact H
    clear H
    have H := H1
    clear H1
    have H' := A_ H
    clear H
    have hnb15 := NB250_251.out
    have hnc15 := NB251_250.out
    obtain ⟨hcz16_0, hcz16_1, hfz16_0, hfz16_1⟩ := c2_ BK250
    go_wp2_with (first | ((with_reducible refine gA_ (f := 66) rfl ?_); refine gL_ (some 7) Try.func66 #[.agg #[.slice A0_0 l0_0.length c0_0, .slice A0_1 l0_1.length c0_1]] rfl qa_ ?_; (with_reducible refine (Z29.calls k _ _ l0_0 _ _ l0_1 true _ (cb_ HR0_0) HC0_0.out (cb_ HR0_1) HC0_1.out A6.out).mono ?_); rintro e w17 ⟨rfl, hb⟩; refine ⟨_, rfl, ?_⟩; replace BK250 := bb_ BK250 hb; replace BK251 := bb_ BK251 hb; replace HB := b1_ hb; clear hb) | (go_at_call 107; (with_reducible refine (Z49.calls k _ _ l1 false _ (cb_ HR1) HC1.out A8.out).mono ?_); rintro e w18 ⟨rfl, hb⟩; replace BK250 := bb_ BK250 hb; replace BK251 := bb_ BK251 hb; replace HB := b1_ hb; clear hb))
    go_meet
    case rel => exact ⟨_, (true), qc_, H', ⟨qd_⟩, ⟨(kk_ BK250)⟩, ⟨(kk_ BK251)⟩, ⟨hB_⟩⟩
  ·replace c7 := Bool.eq_false_iff.mpr c7
   subst c7
   have H1 : (Z9.j0 k l1 true l0_0 l0_1) = some (r1, r2, r3) := by rw [if_neg (show ¬ (false = true) by decide)] at H; exact H
   clear H
   have H := H1
   clear H1
   have H' := A_ H
   clear H
   have hnb19 := NB250_251.out
   have hnc19 := NB251_250.out
   obtain ⟨hcz20_0, hcz20_1, hfz20_0, hfz20_1⟩ := c2_ BK250
   go_wp2_with (first | ((with_reducible refine gA_ (f := 66) rfl ?_); refine gL_ (some 7) Try.func66 #[.agg #[.slice A0_0 l0_0.length c0_0, .slice A0_1 l0_1.length c0_1]] rfl qa_ ?_; (with_reducible refine (Z29.calls k _ _ l0_0 _ _ l0_1 false _ (cb_ HR0_0) HC0_0.out (cb_ HR0_1) HC0_1.out A6.out).mono ?_); rintro e w21 ⟨rfl, hb⟩; refine ⟨_, rfl, ?_⟩; replace BK250 := bb_ BK250 hb; replace BK251 := bb_ BK251 hb; replace HB := b1_ hb; clear hb))
   go_meet
   case rel => exact ⟨_, (true), qc_, H', ⟨qd_⟩, ⟨(kk_ BK250)⟩, ⟨(kk_ BK251)⟩, ⟨hB_⟩⟩
 case rest =>
  clear HC3
  obtain ⟨kq, x21_2, rfl, HA, HJ2, BK250, BK251, HB⟩ := hcut
  cases kq with
  | zero => exact absurd HA.out (by simp [Z9.j0])
  | succ kj2 =>
   have H := HA.out
   clear HA
   simp only [Z9.j0] at H
   by_cases c22 : x21_2 = true
   ·subst c22
    rw [if_pos rfl] at H
    simp only [Option.some.injEq, Prod.mk.injEq] at H
    obtain ⟨rfl, rfl, rfl⟩ := H
    have hnb23 := NB251_250.out
    have hnc23 := NB250_251.out
    obtain ⟨hcz24_0, hcz24_1, hfz24_0, hfz24_1⟩ := c2_ BK251
    go_wp2
    refine bodyPost_ret (results_ct rfl _ _ gb251 25 #[.slice none 0 0, .slice none 0 0] (0, 0) _ rfl qp_ Try.underlying25 rfl (by kernel_rfl)) rfl ?_
    exact ⟨_, _, qb_, by first | exact Kd.R_nil _ _ _ _ _ | exact Kd.N_nil _ _ _ _ _ | exact Kd.V_nil _ _ _ _ _ | exact Kd.Q_nil _ _ _ _ _ | exact Kd.S_nil _ _ _ _ _, by first | exact Kd.R_nil _ _ _ _ _ | exact Kd.N_nil _ _ _ _ _ | exact Kd.V_nil _ _ _ _ _ | exact Kd.Q_nil _ _ _ _ _ | exact Kd.S_nil _ _ _ _ _, hB_⟩
   ·replace c22 := Bool.eq_false_iff.mpr c22
    subst c22
    have H1 : ((Z26.f kj2 l0_0 l1).bind fun t254 => ((Z26.f kj2 l0_1 l1).bind fun t257 => (some (t254, t257, true)))) = some (r1, r2, r3) := by rw [if_neg (show ¬ (false = true) by decide)] at H; exact H
    clear H
    have H := H1
    clear H1
    obtain ⟨t254, A25, H⟩ := bi_ H
    obtain ⟨t257, A26, H⟩ := bi_ H
    simp only [Option.some.injEq, Prod.mk.injEq] at H
    obtain ⟨rfl, rfl, rfl⟩ := H
    try go_wp2
    replace BK250 := A_ (kB_ BK250.out)
    replace BK251 := A_ (kB_ BK251.out)
    replace HB := A_ (bC_ HB.out)
    refine start_ (n := 11) (S := fun w' => w'.cell? ⟨gb250, 0, none⟩ = some (.slice A0_0 l0_0.length c0_0) ∧ w'.cell? ⟨gb250, 1, none⟩ = some (.slice A0_1 l0_1.length c0_1)) (ds := []) (bl_ 11 0) (by kernel_rfl) rfl (by kernel_rfl) ⟨cz0_ BK250, cz1_ BK250⟩ (fun hHeld => ?_); refine with_tabW Z9.tab3 Z9.bits3 (fun HT_ HW_ => ?_)
    generalize wc.drew = w27 at BK250 BK251 HB hHeld ⊢
    refine pu_ 0 (some 23) (bl_ 11 1) HT_ ?_
    refine pu_ 2 (some 25) (bl_ 11 5) HT_ ?_
    refine pu_ 4 (some 27) (bl_ 11 21) HT_ ?_
    refine pu_ 6 (some 29) (bl_ 11 85) HT_ ?_
    refine ta_ 1 (some 24) (bl_ 11 87) HT_ HW_ hHeld ?_
    refine ta_ 5 (some 28) (bl_ 11 119) HT_ HW_ hHeld ?_
    refine on_ 3 (some 26) (bl_ 11 127) HT_ (fun K hK => ?_)
    refine gO_ Try.func144 #[.slice A0_0 l0_0.length c0_0, .slice A1 l1.length c1] (by rfl) rfl rfl qa_ ?_
    with_reducible refine (Z26.calls kj2 _ _ l0_0 _ _ l1 t254 _ (cb_ HR0_0) HC0_0.out (cb_ HR1) HC1.out A25.out).mono ?_
    rintro e w28 ⟨v255, rfl, ho0, hb⟩
    refine ⟨_, rfl, ?_⟩
    have HO256 := rl_ w ho0
    replace BK250 := bb_ BK250 hb
    replace BK251 := bb_ BK251 hb
    replace HB := b1_ hb
    clear hb ho0
    refine hK.out _ _ ⟨cz0_ BK250, cz1_ BK250⟩ (fun hHeld => ?_)
    clear hK K
    refine no_ (some 26) ?_
    refine on_ 7 (some 30) (bl_ 11 255) HT_ (fun K hK => ?_)
    refine gO_ Try.func144 #[.slice A0_1 l0_1.length c0_1, .slice A1 l1.length c1] (by rfl) rfl rfl qa_ ?_
    with_reducible refine (Z26.calls kj2 _ _ l0_1 _ _ l1 t257 _ (cb_ HR0_1) HC0_1.out (cb_ HR1) HC1.out A26.out).mono ?_
    rintro e w29 ⟨v258, rfl, ho0, hb⟩
    refine ⟨_, rfl, ?_⟩
    have HO259 := A_ (rE_ (Kd.R_new' ho0 (Kd.R_lt (rr_ HO256))) (bF_ hB_))
    replace HO256 := A_ (Kd.R_elder' (rr_ HO256) (Kd.R_base ho0) hb)
    replace BK250 := bb_ BK250 hb
    replace BK251 := bb_ BK251 hb
    replace HB := b1_ hb
    clear hb ho0
    obtain ⟨Ao30, co30, eo30⟩ := Kd.R_slice HO259.out
    (first | subst eo30 | (injection eo30 with f1_ f2_ f3_; have f4_ := f1_.symm; have f5_ := f3_.symm; clear f1_ f2_ f3_; subst f4_; subst f5_))
    obtain ⟨Ao31, co31, eo31⟩ := Kd.R_slice HO256.out
    (first | subst eo31 | (injection eo31 with f1_ f2_ f3_; have f4_ := f1_.symm; have f5_ := f3_.symm; clear f1_ f2_ f3_; subst f4_; subst f5_))
    refine hK.out _ _ ⟨cz0_ BK250, cz1_ BK250⟩ (fun hHeld => ?_)
    clear hK K
    refine no_ (some 30) ?_
    refine pu_ 8 (some 31) (bl_ 11 511) HT_ ?_
    refine on_ 9 (none) (bl_ 11 1023) HT_ (fun K hK => ?_)
    have hs32 : w29.cell? ⟨gb251, 0, none⟩ = some (.slice none 0 0) := cz0_ BK251
    have hfs32 := kD_ BK251.out 0
    have hns32_0 := NB250_251.out
    have hms32_0 := NB251_250.out
    have hs33 : w29.cell? ⟨gb251, 1, none⟩ = some (.slice none 0 0) := cz1_ BK251
    have hfs33 := kD_ BK251.out 1
    have hns33_0 := NB250_251.out
    have hms33_0 := NB251_250.out
    refine skip_ (w1 := ?_) (by rfl) rfl ?_ ?_
    rotate_left
    ·go_simp
     rfl
    refine hK.out _ _ ⟨((cell_far (p := ⟨gb251, _, none⟩) NB250_251.out _).trans (((cell_far (p := ⟨gb251, _, none⟩) NB250_251.out _).trans (hHeld.1)))), ((cell_far (p := ⟨gb251, _, none⟩) NB250_251.out _).trans (((cell_far (p := ⟨gb251, _, none⟩) NB250_251.out _).trans (hHeld.2))))⟩ (fun hHeld => ?_)
    clear hK K
    refine pu_ 10 (some 5) (bl_ 11 2047) HT_ ?_
    refine done_ (done_of HT_.out (by kernel_rfl)) ?_
    try go_wp2
    refine bodyPost_ret (results_ct rfl _ _ gb251 25 #[.slice Ao31 t254.length co31, .slice Ao30 t257.length co30] (0, 0) _ rfl qp_ Try.underlying25 rfl (by kernel_rfl)) rfl ?_
    exact ⟨_, _, qb_, (rw_ (Kd.R_mono (fa_ HO256 BK251) (fun _ hk => hk.2))), (rw_ (Kd.R_mono (fa_ HO259 BK251) (fun _ hk => hk.2))), hB_⟩
end Go.Proofs.Ytcggfjpnfodbaaa.A
end
section
namespace Go.Proofs.Ytcggfjpnfodbaaa.A
open Go.RowKit Go.Proofs.YtcggfjpnfodbaaaW.PrintWords Go.Proofs.YtcggfjpnfodbaaaW.PrintLast Go.Proofs.YtcggfjpnfodbaaaW.PrintMore
attribute [local go_sem] max2_int min2_int max_two min_two max_three min_three max_four min_four
set_option linter.unusedVariables false
set_option linter.unusedSimpArgs false
mutual
def Z28.j0 : Nat → Int → Bool → List Int → List Int → Option (List Int)
 | 0, _, _, _, _ => none
 | k + 1, x1, x24, x261000, x261001 => if x24 = true then (some ([] : List Int)) else (if 0 ≤ (x261000.length : Int) then (if ((x261000.length : Int) : Int).toNat ≤ 35184372088832 then ((some (List.replicate ((x261000.length : Int) : Int).toNat 0 : List Int)).bind fun y262 => (Z28.l0 k x1 y262 (y262.length : Int) 0 x261000 x261001)) else (none)) else (none))
def Z28.l0 : Nat → Int → List Int → Int → Int → List Int → List Int → Option (List Int)
 | 0, _, _, _, _, _, _ => none
 | k + 1, x1, x5, x30, x31, x261000, x261001 => if x31 < x30 then (if 0 ≤ x31 then (if x31 < (x5.length : Int) then (Z28.l0 k x1 (x5.set (x31 : Int).toNat (-1)) x30 (wrap64 (x31 + 1)) x261000 x261001) else (none)) else (none)) else (if 0 ≤ x1 then (if x1 < (x5.length : Int) then (Z28.l1 k (x5.set (x1 : Int).toNat 0) (([x1] : List Int)) 0 x261000 x261001) else (none)) else (none))
def Z28.l1 : Nat → List Int → List Int → Int → List Int → List Int → Option (List Int)
 | 0, _, _, _, _, _ => none
 | k + 1, x5, x7, x8, x261000, x261001 => if x8 < (x7.length : Int) then (if 0 ≤ x8 then (if 0 ≤ (rd x7 x8) then (if (rd x7 x8) < (x261000.length : Int) then (if (rd x7 x8) < (x261001.length : Int) then ((some (([rd x261000 (rd x7 x8), rd x261001 (rd x7 x8)] : List Int) : List Int)).bind fun y274 => (Z28.l2 k x5 x7 x8 y274 (y274.length : Int) 0 x261000 x261001)) else (none)) else (none)) else (none)) else (none)) else (some x5)
def Z28.l2 : Nat → List Int → List Int → Int → List Int → Int → Int → List Int → List Int → Option (List Int)
 | 0, _, _, _, _, _, _, _, _ => none
 | k + 1, x5, x7, x8, x65, x66, x67, x261000, x261001 => if x67 < x66 then (if 0 ≤ x67 then (if x67 < (x65.length : Int) then (if 0 ≤ (rd x65 x67) then (if (rd x65 x67) < (x5.length : Int) then (if (rd x5 (rd x65 x67)) < 0 then (if x7.length < 17592186044416 then (Z28.l2 k (x5.set ((rd x65 x67) : Int).toNat (x7.length : Int)) (x7 ++ [rd x65 x67]) x8 x65 x66 (wrap64 (x67 + 1)) x261000 x261001) else (none)) else (Z28.l2 k x5 x7 x8 x65 x66 (wrap64 (x67 + 1)) x261000 x261001)) else (none)) else (none)) else (none)) else (none)) else (Z28.l1 k x5 x7 (wrap64 (x8 + 1)) x261000 x261001)
end
def Z28.f (k : Nat) (l0_0 : List Int) (l0_1 : List Int) (a1 : Int) : Option (List Int) := (Z29.f k l0_0 l0_1).bind fun t261 => (if t261 = true then (if a1 < 0 then (Z28.j0 k a1 true l0_0 l0_1) else (Z28.j0 k a1 (decide (a1 ≥ (l0_0.length : Int))) l0_0 l0_1)) else (Z28.j0 k a1 true l0_0 l0_1))
theorem Z28.mono_l : ∀ k, (∀ y0 y1 y2 y3, LeO (Z28.j0 k y0 y1 y2 y3) (Z28.j0 (k + 1) y0 y1 y2 y3)) ∧ (∀ y0 y1 y2 y3 y4 y5, LeO (Z28.l0 k y0 y1 y2 y3 y4 y5) (Z28.l0 (k + 1) y0 y1 y2 y3 y4 y5)) ∧ (∀ y0 y1 y2 y3 y4, LeO (Z28.l1 k y0 y1 y2 y3 y4) (Z28.l1 (k + 1) y0 y1 y2 y3 y4)) ∧ (∀ y0 y1 y2 y3 y4 y5 y6 y7, LeO (Z28.l2 k y0 y1 y2 y3 y4 y5 y6 y7) (Z28.l2 (k + 1) y0 y1 y2 y3 y4 y5 y6 y7))
 | 0 => ⟨fun _ _ _ _ r h => by simp [Z28.j0] at h, fun _ _ _ _ _ _ r h => by simp [Z28.l0] at h, fun _ _ _ _ _ r h => by simp [Z28.l1] at h, fun _ _ _ _ _ _ _ _ r h => by simp [Z28.l2] at h⟩
 | k + 1 => by
  obtain ⟨ih0, ih1, ih2, ih3⟩ := Z28.mono_l k
  refine ⟨?_, ?_, ?_, ?_⟩
  ·intro y0 y1 y2 y3
   unfold Z28.j0
   repeat' first|exact ih0 _ _ _ _|exact ih1 _ _ _ _ _ _|exact ih2 _ _ _ _ _|exact ih3 _ _ _ _ _ _ _ _|exact Z29.mono _ _ _|exact lo_|refine LeO.ite ?_ ?_|refine LeO.bind ?_ (fun _ => ?_)
  ·intro y0 y1 y2 y3 y4 y5
   unfold Z28.l0
   repeat' first|exact ih0 _ _ _ _|exact ih1 _ _ _ _ _ _|exact ih2 _ _ _ _ _|exact ih3 _ _ _ _ _ _ _ _|exact Z29.mono _ _ _|exact lo_|refine LeO.ite ?_ ?_|refine LeO.bind ?_ (fun _ => ?_)
  ·intro y0 y1 y2 y3 y4
   unfold Z28.l1
   repeat' first|exact ih0 _ _ _ _|exact ih1 _ _ _ _ _ _|exact ih2 _ _ _ _ _|exact ih3 _ _ _ _ _ _ _ _|exact Z29.mono _ _ _|exact lo_|refine LeO.ite ?_ ?_|refine LeO.bind ?_ (fun _ => ?_)
  ·intro y0 y1 y2 y3 y4 y5 y6 y7
   unfold Z28.l2
   repeat' first|exact ih0 _ _ _ _|exact ih1 _ _ _ _ _ _|exact ih2 _ _ _ _ _|exact ih3 _ _ _ _ _ _ _ _|exact Z29.mono _ _ _|exact lo_|refine LeO.ite ?_ ?_|refine LeO.bind ?_ (fun _ => ?_)
theorem Z28.mono : ∀ a0 a1 a2 k, LeO (Z28.f k a0 a1 a2) (Z28.f (k + 1) a0 a1 a2) := by
 intro a0 a1 a2 k
 obtain ⟨ih0, ih1, ih2, ih3⟩ := Z28.mono_l k
 unfold Z28.f
 repeat' first|exact ih0 _ _ _ _|exact ih1 _ _ _ _ _ _|exact ih2 _ _ _ _ _|exact ih3 _ _ _ _ _ _ _ _|exact Z29.mono _ _ _|exact lo_|refine LeO.ite ?_ ?_|refine LeO.bind ?_ (fun _ => ?_)
def Z28.T14 : Bool × List (List Nat × List Nat) := (true, [([], []), ([0], [0]), ([], []), ([], []), ([2, 3], [2, 3]), ([4], [4]), ([1, 5], [1, 5]), ([6], [6]), ([], []), ([8], [8]), ([], []), ([], []), ([10, 11], [10, 11]), ([12], [12]), ([9, 13], [9, 13]), ([14], [14]), ([7, 15], [7, 15]), ([16], [16]), ([], [])])
def Z28.B14 : List Nat := [0, 1, 0, 0, 12, 28, 63, 127, 0, 256, 0, 0, 3072, 7168, 16128, 32512, 65535, 131071, 0]
theorem Z28.tab14 : rtab .any (opsOf Try.f114 14) = Z28.T14 := by kernel_rfl
theorem Z28.bits14 : waitsOk Z28.T14.2 Z28.B14 = true := by kernel_rfl
set_option maxHeartbeats 8000000 in
set_option maxRecDepth 100000 in
theorem Z28.calls (k : Nat) (A0_0 : Option Addr) (c0_0 : Nat) (l0_0 : List Int) (A0_1 : Option Addr) (c0_1 : Nat) (l0_1 : List Int) (a1 : Int) (r : List Int) (w : World) (hr0_0 : Kd.C (Kd.int .i64) w A0_0 l0_0.length l0_0) (hc0_0 : l0_0.length ≤ c0_0) (hr0_1 : Kd.C (Kd.int .i64) w A0_1 l0_1.length l0_1) (hc0_1 : l0_1.length ≤ c0_1) (h : Z28.f k l0_0 l0_1 a1 = some r) :
  Calls Try.prog 114 #[.agg #[.slice A0_0 l0_0.length c0_0, .slice A0_1 l0_1.length c0_1], .int .i64 a1] w fun e w' => ∃ v0_ : Value, e = .returned (v0_) ∧ Kd.R (Kd.int .i64) 3 w' w.heap.size (fun _ => True) v0_ r ∧ Below w.heap.size w w' := by
 have hu25 := Try.underlying25
 have HR0_0 := A_ hr0_0
 have HC0_0 := A_ hc0_0
 clear hr0_0 hc0_0
 have HR0_1 := A_ hr0_1
 have HC0_1 := A_ hc0_1
 clear hr0_1 hc0_1
 have HB := A_ (Below.refl w.heap.size w)
 have H := h
 unfold Z28.f at H
 clear h
 have HC3 := A_ H
 clear H
 go_enter Try.func114, Try.ntmps114
 go_upto_region 1 with (first | ((with_reducible refine gB_ (N := 2) rfl ?_); (try (refine gate_guard (by rfl) ?_; dsimp only)); refine bx_ 2 #[.slice A0_0 l0_0.length c0_0, .slice A0_1 l0_1.length c0_1] 25 ?_; intro gb260 hg w4 hbox hb; have BK260 := A_ hbox; have GW260 := gw_ w hg; have GE260 := GW260; replace HB := b1_ hb; clear hb hbox hg))
 (try simp only [Act.put, sA_, sB_, sC_])
 go_cut [24] (fun v24 wc => ∃ (kq : Nat) (x24_2 : Bool), v24 = .bool x24_2 ∧ Aside0 (Z28.j0 kq a1 x24_2 l0_0 l0_1 = some r) ∧ Aside0 (kq ≤ k) ∧ Aside0 (wc.heap[gb260]? = some (.cells #[(.slice A0_0 l0_0.length c0_0), (.slice A0_1 l0_1.length c0_1)] 25 (0, 0))) ∧ Aside0 (Below w.heap.size w wc))
 case first =>
  have H := HC3.out
  clear HC3
  obtain ⟨t261, A5, H⟩ := bi_ H
  by_cases c6 : t261 = true
  ·subst c6
   rw [if_pos rfl] at H
   by_cases c7 : a1 < 0
   ·rw [if_pos c7] at H
    have c7b0 := oC_ c7
    clear c7
    (first | rw [c7b0] | (simp only [i64_w, i32_w]; rw [c7b0]) | skip)
    have H' := A_ H
    clear H
    obtain ⟨hcz8_0, hcz8_1, hfz8_0, hfz8_1⟩ := c2_ BK260
    go_wp2_with (first | ((with_reducible refine gA_ (f := 66) rfl ?_); refine gL_ (some 12) Try.func66 #[.agg #[.slice A0_0 l0_0.length c0_0, .slice A0_1 l0_1.length c0_1]] rfl qa_ ?_; (with_reducible refine (Z29.calls k _ _ l0_0 _ _ l0_1 true _ (cb_ HR0_0) HC0_0.out (cb_ HR0_1) HC0_1.out A5.out).mono ?_); rintro e w9 ⟨rfl, hb⟩; refine ⟨_, rfl, ?_⟩; replace BK260 := bb_ BK260 hb; replace HB := b1_ hb; clear hb))
    go_meet
    case rel => exact ⟨_, (true), qc_, H', ⟨qd_⟩, ⟨(kk_ BK260)⟩, ⟨hB_⟩⟩
   ·rw [if_neg c7] at H
    have c7b0 := oD_ c7
    clear c7
    (first | rw [c7b0] | (simp only [i64_w, i32_w]; rw [c7b0]) | skip)
    have H' := A_ H
    clear H
    obtain ⟨hcz10_0, hcz10_1, hfz10_0, hfz10_1⟩ := c2_ BK260
    go_wp2_with (first | ((with_reducible refine gA_ (f := 66) rfl ?_); refine gL_ (some 12) Try.func66 #[.agg #[.slice A0_0 l0_0.length c0_0, .slice A0_1 l0_1.length c0_1]] rfl qa_ ?_; (with_reducible refine (Z29.calls k _ _ l0_0 _ _ l0_1 true _ (cb_ HR0_0) HC0_0.out (cb_ HR0_1) HC0_1.out A5.out).mono ?_); rintro e w11 ⟨rfl, hb⟩; refine ⟨_, rfl, ?_⟩; replace BK260 := bb_ BK260 hb; replace HB := b1_ hb; clear hb; obtain ⟨hcz12_0, hcz12_1, hfz12_0, hfz12_1⟩ := c2_ BK260))
    go_meet
    case rel => exact ⟨_, (decide (a1 ≥ (l0_0.length : Int))), qc_, H', ⟨qd_⟩, ⟨(kk_ BK260)⟩, ⟨hB_⟩⟩
  ·replace c6 := Bool.eq_false_iff.mpr c6
   subst c6
   have H1 : (Z28.j0 k a1 true l0_0 l0_1) = some r := by rw [if_neg (show ¬ (false = true) by decide)] at H; exact H
   clear H
   have H := H1
   clear H1
   have H' := A_ H
   clear H
   obtain ⟨hcz13_0, hcz13_1, hfz13_0, hfz13_1⟩ := c2_ BK260
   go_wp2_with (first | ((with_reducible refine gA_ (f := 66) rfl ?_); refine gL_ (some 12) Try.func66 #[.agg #[.slice A0_0 l0_0.length c0_0, .slice A0_1 l0_1.length c0_1]] rfl qa_ ?_; (with_reducible refine (Z29.calls k _ _ l0_0 _ _ l0_1 false _ (cb_ HR0_0) HC0_0.out (cb_ HR0_1) HC0_1.out A5.out).mono ?_); rintro e w14 ⟨rfl, hb⟩; refine ⟨_, rfl, ?_⟩; replace BK260 := bb_ BK260 hb; replace HB := b1_ hb; clear hb))
   go_meet
   case rel => exact ⟨_, (true), qc_, H', ⟨qd_⟩, ⟨(kk_ BK260)⟩, ⟨hB_⟩⟩
 case rest =>
  clear HC3
  obtain ⟨kq, x24_2, rfl, HA, HJ2, BK260, HB⟩ := hcut
  cases kq with
  | zero => exact absurd HA.out (by simp [Z28.j0])
  | succ kj2 =>
   have H := HA.out
   clear HA
   simp only [Z28.j0] at H
   by_cases c15 : x24_2 = true
   ·subst c15
    rw [if_pos rfl] at H
    obtain rfl := Option.some.inj H
    go_wp2
    go_ret
    exact ⟨_, qb_, by first | exact Kd.R_nil _ _ _ _ _ | exact Kd.N_nil _ _ _ _ _ | exact Kd.V_nil _ _ _ _ _ | exact Kd.Q_nil _ _ _ _ _ | exact Kd.S_nil _ _ _ _ _, hB_⟩
   ·replace c15 := Bool.eq_false_iff.mpr c15
    subst c15
    have H1 : (if 0 ≤ (l0_0.length : Int) then (if ((l0_0.length : Int) : Int).toNat ≤ 35184372088832 then ((some (List.replicate ((l0_0.length : Int) : Int).toNat 0 : List Int)).bind fun y262 => (Z28.l0 kj2 a1 y262 (y262.length : Int) 0 l0_0 l0_1)) else (none)) else (none)) = some r := by rw [if_neg (show ¬ (false = true) by decide)] at H; exact H
    clear H
    have H := H1
    clear H1
    have c16 := cp_ H
    replace H := ca_ H
    have c16b0 := eq_true c16
    have c16b1 := oC_ c16
    clear c16
    have c17 := cp_ H
    replace H := ca_ H
    have c17b0 := eq_true c17
    have c17b1 := oC_ c17
    clear c17
    obtain ⟨y262, hy262⟩ : ∃ y_ : List Int, y_ = (List.replicate ((l0_0.length : Int) : Int).toNat 0) := ⟨_, rfl⟩
    replace H : (Z28.l0 kj2 a1 y262 (y262.length : Int) 0 l0_0 l0_1) = some r := by first | (rw [hy262]; exact H) | exact H
    have Ny262 := A_ hy262
    clear hy262
    have H' := A_ H
    clear H
    obtain ⟨hcz18_0, hcz18_1, hfz18_0, hfz18_1⟩ := c2_ BK260
    go_wp2_with (first | ((with_reducible refine gB_ (N := 28) rfl ?_); (try (refine gate_guard (by rfl) ?_; dsimp only)); refine Kd.R_make (Kd.int .i64) _ 3 rfl (N := 28) rfl 23 _ _ rfl (l0_0.length : Int) rfl rfl Try.underlying23 (.int .i64 0) 8 info3 rfl (by decide) (by omega) 0 (ok := fun _ => True) (okp := fun _ => True) rfl (fun _ hk => hk) trivial (oB_ qe_) (Nat.le_trans (Nat.mul_le_mul_right _ (oB_ qe_ : (l0_0.length : Int).toNat ≤ 35184372088832)) (by omega)) (Below.refl _ _) (nA_ _) ?_; intro v263 w19 ho20 hb hg_ hnew_; clear hg_ hnew_; (first | rw [← Ny262.out] at ho20 | (simp only [Int.reduceToNat] at ho20; rw [← Ny262.out] at ho20)); have HO264 := rl_ w ho20; replace BK260 := bb_ BK260 hb; replace HB := b1_ hb; clear hb ho20; obtain ⟨Ao21, co21, eo21⟩ := Kd.R_slice HO264.out; subst eo21))
    go_loopg [31] kj2 (fun kq v31 w' => ∃ (x5_2 : List Int) (x31_2 : Int), v31 = .int .i64 x31_2 ∧ Aside0 (Z28.l0 kq a1 x5_2 (y262.length : Int) x31_2 l0_0 l0_1 = some r) ∧ Aside0 (kq ≤ kj2) ∧ Aside0 (Kd.R (Kd.int .i64) 3 w' w.heap.size (fun _ => True) (.slice Ao21 y262.length co21) x5_2) ∧ Aside0 (w'.heap[gb260]? = some (.cells #[(.slice A0_0 l0_0.length c0_0), (.slice A0_1 l0_1.length c0_1)] 25 (0, 0))) ∧ Aside0 (Below w.heap.size w w'))
    case atStart => exact ⟨(y262), (0), qc_, H', ⟨nA_ _⟩, ⟨(rr_ HO264)⟩, ⟨(kk_ BK260)⟩, ⟨hB_⟩⟩
    case round =>
     clear H'
     obtain ⟨x5_2, x31_2, rfl, HA, HK2, HO_5, BK260, HB⟩ := hrel
     have hl5_2 := (Kd.R_reads' HO_5.out).1
     rw [hl5_2] at HO_5
     (try simp only [hl5_2])
     (try simp only [hl5_2] at BK260)
     cases gk with
     | zero => exact absurd HA.out (by simp [Z28.l0])
     | succ k2 =>
      have H := HA.out
      clear HA
      simp only [Z28.l0] at H
      by_cases c22 : x31_2 < (y262.length : Int)
      ·rw [if_pos c22] at H
       have c22b0 := oC_ c22
       clear c22
       have c23 := cp_ H
       replace H := ca_ H
       have c23b0 := oC_ c23
       clear c23
       have c24 := cp_ H
       replace H := ca_ H
       have c24b0 := oC_ c24
       clear c24
       obtain ⟨y265, hy265⟩ : ∃ y_ : List Int, y_ = (x5_2.set (x31_2 : Int).toNat (-1)) := ⟨_, rfl⟩
       replace H : (Z28.l0 k2 a1 y265 (y262.length : Int) (wrap64 (x31_2 + 1)) l0_0 l0_1) = some r := by first | (rw [hy265]; exact H) | exact H
       have Ny265 := A_ hy265
       clear hy265
       have H' := A_ H
       clear H
       have p25 : 0 ≤ (x31_2 : Int) := oB_ qe_
       have q25 : (x31_2 : Int) < ((x5_2.length : Int) : Int) := oB_ qe_
       obtain ⟨go25, co25, eo25, gb25, gl25, cl25, HG25⟩ := Kd.R_form HO_5.out (by omega)
       (first | cases eo25 | (injection eo25 with ea_ en_ ec_; (first | subst ea_ | (injection ea_ with ea_; subst ea_)); subst ec_; clear en_))
       have GB25 := A_ gb25
       have GG25 := A_ HG25
       clear gb25 gl25 HG25
       obtain ⟨hx25_0, hf25_0⟩ := Kd.R_celln 0 HO_5.out (x31_2 : Int) p25 q25
       replace p25 := eq_true p25
       replace q25 := eq_true q25
       have HP26 := Kd.R_putg HO_5.out (x31_2 : Int) (-1)
       go_wp2_with (first | ((with_reducible refine gate_store (t := 3) (p := 36) rfl ?_); refine store_event (t := 3) (p := 36) (v := ?vo_w27) (w1 := (wr.setCell ⟨go25, (x31_2 : Int).toNat, none⟩ (.int .i64 (-1)))) ?hg ?ho ?hn ?hr ?_; (case ho => rfl); (case hg => rfl); (case hn => rfl); (case hr => first | (go_simp; done) | (go_simp; rfl)); intro w27 hw; have hg : wr.grownBy w27 (some go25) := (by rw [hw]; exact HP26.2); have hp_ : Kd.R (Kd.int .i64) 3 w27 w.heap.size (fun _ => True) (.slice (some ⟨go25, 0, none⟩) x5_2.length co21) y265 := (by rw [hw, Ny265.out]; exact HP26.1); clear HP26; replace BK260 := A_ (blk_grown (kk_ BK260) hg (Kd.R_ne HO_5.out BK260.out (by decide))); replace HO_5 := A_ (hp_); replace HB := A_ ((by rw [hw]; exact bD_ (HB.out) GB25.out : Below w.heap.size w w27)); clear hg hw hp_))
       (try simp only [← hl5_2])
       go_roundg k2
       case measure => have := HJ2.out; have := HK2.out; omega
       case rel => exact ⟨(y265), (wrap64 (x31_2 + 1)), qc_, H', ⟨by have := HJ2.out; have := HK2.out; omega⟩, ⟨by (try simp only [hl5_2]); (with_reducible repeat (first | apply rA_ | apply rB_ | apply rC_)); exact HO_5.out⟩, ⟨by (try simp only [hl5_2]); (with_reducible repeat (first | refine kA_ ?_ _ | refine kB_ ?_ | refine kC_ ?_ _)); exact BK260.out⟩, ⟨hB_⟩⟩
      ·rw [if_neg c22] at H
       have c22b0 := oD_ c22
       (try simp only [hl5_2] at c22b0)
       clear c22
       have c28 := cp_ H
       replace H := ca_ H
       have c28b0 := oC_ c28
       clear c28
       have c29 := cp_ H
       replace H := ca_ H
       have c29b0 := oC_ c29
       clear c29
       obtain ⟨y266, hy266⟩ : ∃ y_ : List Int, y_ = (x5_2.set (a1 : Int).toNat 0) := ⟨_, rfl⟩
       replace H : (Z28.l1 k2 y266 (([a1] : List Int)) 0 l0_0 l0_1) = some r := by first | (rw [hy266]; exact H) | exact H
       have Ny266 := A_ hy266
       clear hy266
       obtain ⟨y267, hy267⟩ : ∃ y_ : List Int, y_ = (([a1] : List Int)) := ⟨_, rfl⟩
       replace H : (Z28.l1 k2 y266 y267 0 l0_0 l0_1) = some r := by first | (rw [hy267]; exact H) | exact H
       have Ny267 := A_ hy267
       clear hy267
       have H' := A_ H
       clear H
       have p30 : 0 ≤ (a1 : Int) := oB_ qe_
       have q30 : (a1 : Int) < ((x5_2.length : Int) : Int) := oB_ qe_
       obtain ⟨go30, co30, eo30, gb30, gl30, cl30, HG30⟩ := Kd.R_form HO_5.out (by omega)
       (first | cases eo30 | (injection eo30 with ea_ en_ ec_; (first | subst ea_ | (injection ea_ with ea_; subst ea_)); subst ec_; clear en_))
       have GB30 := A_ gb30
       have GG30 := A_ HG30
       clear gb30 gl30 HG30
       obtain ⟨hx30_0, hf30_0⟩ := Kd.R_celln 0 HO_5.out (a1 : Int) p30 q30
       replace p30 := eq_true p30
       replace q30 := eq_true q30
       have HP31 := Kd.R_putg HO_5.out (a1 : Int) 0
       go_wp2_with (first | ((with_reducible refine gate_store (t := 3) (p := 40) rfl ?_); refine store_event (t := 3) (p := 40) (v := ?vo_w32) (w1 := (wr.setCell ⟨go30, (a1 : Int).toNat, none⟩ (.int .i64 0))) ?hg ?ho ?hn ?hr ?_; (case ho => rfl); (case hg => rfl); (case hn => rfl); (case hr => first | (go_simp; done) | (go_simp; rfl)); intro w32 hw; have hg : wr.grownBy w32 (some go30) := (by rw [hw]; exact HP31.2); have hp_ : Kd.R (Kd.int .i64) 3 w32 w.heap.size (fun _ => True) (.slice (some ⟨go30, 0, none⟩) x5_2.length co21) y266 := (by rw [hw, Ny266.out]; exact HP31.1); clear HP31; replace BK260 := A_ (blk_grown (kk_ BK260) hg (Kd.R_ne HO_5.out BK260.out (by decide))); replace HO_5 := A_ (hp_); replace HB := A_ ((by rw [hw]; exact bD_ (HB.out) GB30.out : Below w.heap.size w w32)); clear hg hw hp_) | ((with_reducible refine gB_ (N := 42) rfl ?_); (try (refine gate_guard (by rfl) ?_; dsimp only)); refine Kd.R_lit (Kd.int .i64) _ 3 ?hg (N := 42) ?hd (xs := ([a1] : List Int)) (inner := [.int .i64 a1]) (ok := fun _ => True) (okp := fun _ => True) ?hr ?hp (fun _ hk => hk) trivial (Below.refl _ _) (nA_ _) (by simp) ?_; (case hd => rfl); (case hg => rfl); (case hr => first | (go_simp; done) | (go_simp; rfl)); (case hp => exact (Reps.one (show Kd.M (Kd.int .i64) _ _ _ a1 [.int .i64 a1] from rfl) (Reps.none _ _))); intro v268 w33 ho34 hb hg_ hnew_; clear hg_ hnew_; (first | rw [← Ny267.out] at ho34 | (simp only [Int.reduceToNat] at ho34; rw [← Ny267.out] at ho34)); have HO269 := A_ (rE_ (Kd.R_new' ho34 (Kd.R_lt (rr_ HO_5))) (bF_ hB_)); replace HO_5 := A_ (Kd.R_elder' (rr_ HO_5) (Kd.R_base ho34) hb); replace BK260 := bb_ BK260 hb; replace HB := b1_ hb; clear hb ho34))
       go_loopg [7, 8] k2 (fun kq v7 v8 w' => ∃ (x5_3 : List Int) (x7_3 : List Int) (x8_3 : Int), v8 = .int .i64 x8_3 ∧ Aside0 (Z28.l1 kq x5_3 x7_3 x8_3 l0_0 l0_1 = some r) ∧ Aside0 (kq ≤ k2) ∧ Aside0 (Kd.R (Kd.int .i64) 3 w' w.heap.size (fun k_ => some k_ ≠ (v7 : Value).ownBlock) (.slice (some ⟨go30, 0, none⟩) x5_2.length co21) x5_3) ∧ Aside0 (Kd.R (Kd.int .i64) 3 w' w.heap.size (fun k_ => some k_ ≠ ((.slice (some ⟨go30, 0, none⟩) x5_2.length co21) : Value).ownBlock) v7 x7_3) ∧ Aside0 (w'.heap[gb260]? = some (.cells #[(.slice A0_0 l0_0.length c0_0), (.slice A0_1 l0_1.length c0_1)] 25 (0, 0))) ∧ Aside0 (Below w.heap.size w w'))
       case atStart => exact ⟨(y266), (y267), (0), qc_, H', ⟨nA_ _⟩, ⟨by (try simp only [hl5_2]); (with_reducible repeat (first | apply rA_ | apply rB_ | apply rC_)); exact Kd.R_mono HO_5.out (fun _ hk => hk.2)⟩, ⟨by (try simp only [hl5_2]); (with_reducible repeat (first | apply rA_ | apply rB_ | apply rC_)); exact Kd.R_mono HO269.out (fun _ hk => hk.2)⟩, ⟨by (try simp only [hl5_2]); (with_reducible repeat (first | refine kA_ ?_ _ | refine kB_ ?_ | refine kC_ ?_ _)); exact BK260.out⟩, ⟨hB_⟩⟩
       case round =>
        clear H'
        obtain ⟨x5_3, x7_3, x8_3, rfl, HA, HK3, HO_5, HO_7, BK260, HB⟩ := hrel
        have hl5_3 := (Kd.R_reads' HO_5.out).1
        rw [hl5_3] at HO_5
        (try simp only [hl5_3])
        (try simp only [hl5_3] at BK260)
        (try simp only [hl5_3] at HO_7)
        cases gk with
        | zero => exact absurd HA.out (by simp [Z28.l1])
        | succ k3 =>
         have H := HA.out
         clear HA
         simp only [Z28.l1] at H
         by_cases c35 : x8_3 < (x7_3.length : Int)
         ·rw [if_pos c35] at H
          have c35b0 := oC_ c35
          clear c35
          have c36 := cp_ H
          replace H := ca_ H
          have c36b0 := oC_ c36
          clear c36
          have c37 := cp_ H
          replace H := ca_ H
          have c37b0 := oC_ c37
          clear c37
          have c38 := cp_ H
          replace H := ca_ H
          have c38b0 := oC_ c38
          clear c38
          have c39 := cp_ H
          replace H := ca_ H
          have c39b0 := oC_ c39
          clear c39
          obtain ⟨y274, hy274⟩ : ∃ y_ : List Int, y_ = (([rd l0_0 (rd x7_3 x8_3), rd l0_1 (rd x7_3 x8_3)] : List Int)) := ⟨_, rfl⟩
          replace H : (Z28.l2 k3 x5_3 x7_3 x8_3 y274 (y274.length : Int) 0 l0_0 l0_1) = some r := by first | (rw [hy274]; exact H) | exact H
          have Ny274 := A_ hy274
          clear hy274
          have H' := A_ H
          clear H
          obtain ⟨Ao40, co40, eo40⟩ := Kd.R_slice HO_7.out
          subst eo40
          try go_wp2
          replace HO_5 := A_ (rC_ HO_5.out)
          replace HO_7 := A_ (rC_ HO_7.out)
          replace BK260 := A_ (kB_ BK260.out)
          replace HB := A_ (bC_ HB.out)
          have p270 : 0 ≤ (x8_3 : Int) := oB_ qe_
          have q270 : x8_3 < (x7_3.length : Int) := oB_ qe_
          obtain ⟨ad270, e270, hx270_0⟩ := Kd.at_int (Kd.R_reads' HO_7.out).2.2 x8_3 p270 q270
          cases e270
          replace p270 := eq_true p270
          replace q270 := eq_true q270
          have p271 : 0 ≤ ((rd x7_3 x8_3) : Int) := oB_ qe_
          have q271 : (rd x7_3 x8_3) < (l0_0.length : Int) := oB_ qe_
          obtain ⟨ad271, e271, hx271_0⟩ := Kd.at_int HR0_0.out (rd x7_3 x8_3) p271 q271
          have hw271_0 := hx271_0
          cases e271
          replace hx271_0 := (HB.out.cell (World.block_lt_of_cell? w _ hx271_0)).trans hx271_0
          replace p271 := eq_true p271
          replace q271 := eq_true q271
          have p272 : 0 ≤ (x8_3 : Int) := oB_ qe_
          have q272 : x8_3 < (x7_3.length : Int) := oB_ qe_
          obtain ⟨ad272, e272, hx272_0⟩ := Kd.at_int (Kd.R_reads' HO_7.out).2.2 x8_3 p272 q272
          obtain rfl : ad270 = ad272 := (by injection e272)
          replace p272 := eq_true p272
          replace q272 := eq_true q272
          have p273 : 0 ≤ ((rd x7_3 x8_3) : Int) := oB_ qe_
          have q273 : (rd x7_3 x8_3) < (l0_1.length : Int) := oB_ qe_
          obtain ⟨ad273, e273, hx273_0⟩ := Kd.at_int HR0_1.out (rd x7_3 x8_3) p273 q273
          have hw273_0 := hx273_0
          cases e273
          replace hx273_0 := (HB.out.cell (World.block_lt_of_cell? w _ hx273_0)).trans hx273_0
          replace p273 := eq_true p273
          replace q273 := eq_true q273
          refine start_ (n := 19) (S := fun w' => w'.cell? ⟨gb260, 0, none⟩ = some (.slice (some ad271) l0_0.length c0_0) ∧ w'.cell? ⟨gb260, 1, none⟩ = some (.slice (some ad273) l0_1.length c0_1) ∧ w'.cell? (ad270.add (x8_3).toNat) = some (.int .i64 (rd x7_3 x8_3)) ∧ w'.cell? (ad271.add ((rd x7_3 x8_3)).toNat) = some (.int .i64 (rd l0_0 (rd x7_3 x8_3))) ∧ w'.cell? (ad270.add (x8_3).toNat) = some (.int .i64 (rd x7_3 x8_3)) ∧ w'.cell? (ad273.add ((rd x7_3 x8_3)).toNat) = some (.int .i64 (rd l0_1 (rd x7_3 x8_3)))) (ds := []) (bl_ 19 0) (by kernel_rfl) rfl (by kernel_rfl) ⟨cz0_ BK260, cz1_ BK260, hx270_0, ((HB.out.cell (World.block_lt_of_cell? w _ hw271_0)).trans hw271_0), hx272_0, ((HB.out.cell (World.block_lt_of_cell? w _ hw273_0)).trans hw273_0)⟩ (fun hHeld => ?_); refine with_tabW Z28.tab14 Z28.bits14 (fun HT_ HW_ => ?_)
          generalize wr.drew = w41 at HO_5 HO_7 BK260 HB hx270_0 hx271_0 hx272_0 hx273_0 hHeld ⊢
          refine pu_ 0 (some 49) (bl_ 19 1) HT_ ?_
          refine pu_ 2 (some 51) (bl_ 19 5) HT_ ?_
          refine pu_ 3 (some 52) (bl_ 19 13) HT_ ?_
          refine pu_ 4 (some 53) (bl_ 19 29) HT_ ?_
          refine pu_ 8 (some 57) (bl_ 19 285) HT_ ?_
          refine pu_ 10 (some 59) (bl_ 19 1309) HT_ ?_
          refine pu_ 11 (some 60) (bl_ 19 3357) HT_ ?_
          refine pu_ 12 (some 61) (bl_ 19 7453) HT_ ?_
          refine pu_ 18 (some 67) (bl_ 19 269597) HT_ ?_
          refine ta_ 1 (some 50) (bl_ 19 269599) HT_ HW_ hHeld ?_
          refine ta_ 5 (some 54) (bl_ 19 269631) HT_ HW_ hHeld ?_
          refine pu_ 6 (some 55) (bl_ 19 269695) HT_ ?_
          refine ta_ 7 (some 56) (bl_ 19 269823) HT_ HW_ hHeld ?_
          refine ta_ 9 (some 58) (bl_ 19 270335) HT_ HW_ hHeld ?_
          refine ta_ 13 (some 62) (bl_ 19 278527) HT_ HW_ hHeld ?_
          refine pu_ 14 (some 63) (bl_ 19 294911) HT_ ?_
          refine ta_ 15 (some 64) (bl_ 19 327679) HT_ HW_ hHeld ?_
          refine on_ 16 (some 65) (bl_ 19 393215) HT_ (fun K hK => ?_)
          refine Kd.R_lit_step (Kd.int .i64) _ 3 ?hg (N := 65) ?hd (xs := ([rd l0_0 (rd x7_3 x8_3), rd l0_1 (rd x7_3 x8_3)] : List Int)) (inner := [.int .i64 (rd l0_0 (rd x7_3 x8_3)), .int .i64 (rd l0_1 (rd x7_3 x8_3))]) (ok := fun _ => True) (okp := fun _ => True) ?hr ?hp (fun _ hk => hk) trivial (Below.refl _ _) (nA_ _) (by simp) ?_; (case hd => rfl); (case hg => rfl); (case hr => first | (go_simp; done) | (go_simp; rfl)); (case hp => exact (Reps.one (show Kd.M (Kd.int .i64) _ _ _ (rd l0_0 (rd x7_3 x8_3)) [.int .i64 (rd l0_0 (rd x7_3 x8_3))] from rfl) (Reps.one (show Kd.M (Kd.int .i64) _ _ _ (rd l0_1 (rd x7_3 x8_3)) [.int .i64 (rd l0_1 (rd x7_3 x8_3))] from rfl) (Reps.none _ _))))
          intro v275 w42 ho43 hb hg_ hnew_
          have HS2_ := (hb.cell (World.block_lt_of_cell? _ _ (hHeld.2.2.1))).trans (hHeld.2.2.1)
          have HS4_ := (hb.cell (World.block_lt_of_cell? _ _ (hHeld.2.2.2.2.1))).trans (hHeld.2.2.2.2.1)
          clear hg_ hnew_
          (first | rw [← Ny274.out] at ho43 | (simp only [Int.reduceToNat] at ho43; rw [← Ny274.out] at ho43))
          have HO276 := A_ (rE_ (Kd.R_new' (Kd.R_new' ho43 (Kd.R_lt (rr_ HO_5))) (Kd.R_lt (rr_ HO_7))) (bF_ hB_))
          replace HO_5 := A_ (Kd.R_elder' (rr_ HO_5) (Kd.R_base ho43) hb)
          replace HO_7 := A_ (Kd.R_elder' (rr_ HO_7) (Kd.R_base ho43) hb)
          replace BK260 := bb_ BK260 hb
          replace HB := b1_ hb
          clear hb ho43
          obtain ⟨Ao44, co44, eo44⟩ := Kd.R_slice HO276.out
          (first | subst eo44 | (injection eo44 with f1_ f2_ f3_; have f4_ := f1_.symm; have f5_ := f3_.symm; clear f1_ f2_ f3_; subst f4_; subst f5_))
          refine hK.out _ _ ⟨cz0_ BK260, cz1_ BK260, HS2_, ((HB.out.cell (World.block_lt_of_cell? w _ hw271_0)).trans hw271_0), HS4_, ((HB.out.cell (World.block_lt_of_cell? w _ hw273_0)).trans hw273_0)⟩ (fun hHeld => ?_)
          clear hK K
          refine no_ (some 65) ?_
          refine pu_ 17 (some 66) (bl_ 19 524287) HT_ ?_
          refine done_ (done_of HT_.out (by kernel_rfl)) ?_
          try go_wp2
          go_loopg [7, 67] k3 (fun kq v7 v67 w' => ∃ (x5_4 : List Int) (x7_4 : List Int) (x67_4 : Int), v67 = .int .i64 x67_4 ∧ Aside0 (Z28.l2 kq x5_4 x7_4 x8_3 y274 (y274.length : Int) x67_4 l0_0 l0_1 = some r) ∧ Aside0 (kq ≤ k3) ∧ Aside0 (Kd.R (Kd.int .i64) 3 w' w.heap.size (fun k_ => some k_ ≠ (v7 : Value).ownBlock ∧ some k_ ≠ ((.slice Ao44 y274.length co44) : Value).ownBlock) (.slice (some ⟨go30, 0, none⟩) x5_3.length co21) x5_4) ∧ Aside0 (Kd.R (Kd.int .i64) 3 w' w.heap.size (fun k_ => some k_ ≠ ((.slice (some ⟨go30, 0, none⟩) x5_3.length co21) : Value).ownBlock ∧ some k_ ≠ ((.slice Ao44 y274.length co44) : Value).ownBlock) v7 x7_4) ∧ Aside0 (Kd.R (Kd.int .i64) 3 w' w.heap.size (fun k_ => some k_ ≠ ((.slice (some ⟨go30, 0, none⟩) x5_3.length co21) : Value).ownBlock ∧ some k_ ≠ (v7 : Value).ownBlock) (.slice Ao44 y274.length co44) y274) ∧ Aside0 (w'.heap[gb260]? = some (.cells #[(.slice (some ad271) l0_0.length c0_0), (.slice (some ad273) l0_1.length c0_1)] 25 (0, 0))) ∧ Aside0 (Below w.heap.size w w'))
          case atStart => exact ⟨(x5_3), (x7_3), (0), qc_, H', ⟨nA_ _⟩, ⟨by (try simp only [hl5_2]); (try simp only [hl5_3]); (with_reducible repeat (first | apply rA_ | apply rB_ | apply rC_)); exact HO_5.out⟩, ⟨by (try simp only [hl5_2]); (try simp only [hl5_3]); (with_reducible repeat (first | apply rA_ | apply rB_ | apply rC_)); exact HO_7.out⟩, ⟨by (try simp only [hl5_2]); (try simp only [hl5_3]); (with_reducible repeat (first | apply rA_ | apply rB_ | apply rC_)); exact Kd.R_mono HO276.out (fun _ hk => ⟨hk.1.2, hk.2⟩)⟩, ⟨by (try simp only [hl5_2]); (try simp only [hl5_3]); (with_reducible repeat (first | refine kA_ ?_ _ | refine kB_ ?_ | refine kC_ ?_ _)); exact BK260.out⟩, ⟨hB_⟩⟩
          case round =>
           clear H'
           obtain ⟨x5_4, x7_4, x67_4, rfl, HA, HK4, HO_5, HO_7, HO_65, BK260, HB⟩ := hrel
           have hl5_4 := (Kd.R_reads' HO_5.out).1
           rw [hl5_4] at HO_5
           (try simp only [hl5_4])
           (try simp only [hl5_4] at BK260)
           (try simp only [hl5_4] at HO_7)
           (try simp only [hl5_4] at HO_65)
           cases gk with
           | zero => exact absurd HA.out (by simp [Z28.l2])
           | succ k4 =>
            have H := HA.out
            clear HA
            simp only [Z28.l2] at H
            by_cases c45 : x67_4 < (y274.length : Int)
            ·rw [if_pos c45] at H
             have c45b0 := oC_ c45
             clear c45
             have c46 := cp_ H
             replace H := ca_ H
             have c46b0 := oC_ c46
             clear c46
             have c47 := cp_ H
             replace H := ca_ H
             have c47b0 := oC_ c47
             clear c47
             have c48 := cp_ H
             replace H := ca_ H
             have c48b0 := oC_ c48
             clear c48
             have c49 := cp_ H
             replace H := ca_ H
             have c49b0 := oC_ c49
             clear c49
             by_cases c50 : (rd x5_4 (rd y274 x67_4)) < 0
             ·rw [if_pos c50] at H
              have c50b0 := oC_ c50
              clear c50
              obtain ⟨y279, hy279⟩ : ∃ y_ : List Int, y_ = (x5_4.set ((rd y274 x67_4) : Int).toNat (x7_4.length : Int)) := ⟨_, rfl⟩
              replace H : (if x7_4.length < 17592186044416 then (Z28.l2 k4 y279 (x7_4 ++ [rd y274 x67_4]) x8_3 y274 (y274.length : Int) (wrap64 (x67_4 + 1)) l0_0 l0_1) else (none)) = some r := by first | (rw [hy279]; exact H) | exact H
              have Ny279 := A_ hy279
              clear hy279
              have c52 := cp_ H
              replace H := ca_ H
              have LMc52 := A_ c52
              clear c52
              obtain ⟨y280, hy280⟩ : ∃ y_ : List Int, y_ = (x7_4 ++ [rd y274 x67_4]) := ⟨_, rfl⟩
              replace H : (Z28.l2 k4 y279 y280 x8_3 y274 (y274.length : Int) (wrap64 (x67_4 + 1)) l0_0 l0_1) = some r := by first | (rw [hy280]; exact H) | exact H
              have Ny280 := A_ hy280
              clear hy280
              have H' := A_ H
              clear H
              have p277 : 0 ≤ (x67_4 : Int) := oB_ qe_
              have q277 : x67_4 < (y274.length : Int) := oB_ qe_
              obtain ⟨ad277, e277, hx277_0⟩ := Kd.at_int (Kd.R_reads' HO_65.out).2.2 x67_4 p277 q277
              cases e277
              replace p277 := eq_true p277
              replace q277 := eq_true q277
              have p278 : 0 ≤ ((rd y274 x67_4) : Int) := oB_ qe_
              have q278 : (rd y274 x67_4) < (x5_4.length : Int) := oB_ qe_
              obtain ⟨ad278, e278, hx278_0⟩ := Kd.at_int (Kd.R_reads' HO_5.out).2.2 (rd y274 x67_4) p278 q278
              obtain rfl : (⟨go30, 0, none⟩ : Addr) = ad278 := (by injection e278)
              (first | simp only [add_plain] at hx278_0 | simp only [add_at] at hx278_0 | simp only [Addr.add, Nat.zero_add] at hx278_0 | skip)
              replace p278 := eq_true p278
              replace q278 := eq_true q278
              obtain ⟨Ao53, co53, eo53⟩ := Kd.R_slice HO_7.out
              subst eo53
              have p51 : 0 ≤ ((rd y274 x67_4) : Int) := oB_ qe_
              have q51 : ((rd y274 x67_4) : Int) < ((x5_4.length : Int) : Int) := oB_ qe_
              obtain ⟨hx51_0, hf51_0⟩ := Kd.R_celln 0 HO_5.out ((rd y274 x67_4) : Int) p51 q51
              replace p51 := eq_true p51
              replace q51 := eq_true q51
              have HP54 := Kd.R_putg HO_5.out ((rd y274 x67_4) : Int) (x7_4.length : Int)
              go_wp2_with (first | ((with_reducible refine gate_store (t := 3) (p := 80) rfl ?_); refine store_event (t := 3) (p := 80) (v := ?vo_w55) (w1 := (wr.setCell ⟨go30, ((rd y274 x67_4) : Int).toNat, none⟩ (.int .i64 (x7_4.length : Int)))) ?hg ?ho ?hn ?hr ?_; (case ho => rfl); (case hg => rfl); (case hn => rfl); (case hr => first | (go_simp; done) | (go_simp; rfl)); intro w55 hw; have hg : wr.grownBy w55 (some go30) := (by rw [hw]; exact HP54.2); have hp_ : Kd.R (Kd.int .i64) 3 w55 w.heap.size (fun k_ => some k_ ≠ (.slice Ao53 x7_4.length co53 : Value).ownBlock ∧ some k_ ≠ (.slice (some ad277) y274.length co44 : Value).ownBlock) (.slice (some ⟨go30, 0, none⟩) x5_4.length co21) y279 := (by rw [hw, Ny279.out]; exact HP54.1); clear HP54; replace HO_7 := A_ (Kd.R_after (v := (.slice (some ⟨go30, 0, none⟩) x5_4.length co21)) (v1 := (.slice (some ⟨go30, 0, none⟩) x5_4.length co21)) (ok := (fun k_ => some k_ ≠ (.slice (some ad277) y274.length co44 : Value).ownBlock)) (rw_ (Kd.R_mono HO_7.out (fun _ hk => ⟨hk.2, hk.1⟩))) hg (.inl rfl)); replace HO_65 := A_ (Kd.R_after (v := (.slice (some ⟨go30, 0, none⟩) x5_4.length co21)) (v1 := (.slice (some ⟨go30, 0, none⟩) x5_4.length co21)) (ok := (fun k_ => some k_ ≠ (.slice Ao53 x7_4.length co53 : Value).ownBlock)) (rw_ (Kd.R_mono HO_65.out (fun _ hk => ⟨hk.2, hk.1⟩))) hg (.inl rfl)); replace BK260 := A_ (blk_grown (kk_ BK260) hg (Kd.R_ne HO_5.out BK260.out (by decide))); replace HO_5 := A_ (hp_); replace HB := A_ ((by rw [hw]; exact bD_ (HB.out) GB30.out : Below w.heap.size w w55)); clear hg hw hp_) | ((with_reducible refine gate_builtin (b := .append) (xs := #[.tmp 81, .tmp 83]) rfl ?_); (try (refine gate_guard (by rfl) ?_; dsimp only)); at_builtin; refine Kd.R_append (Kd.int .i64) (w0 := w) w.heap.size rfl (.tmp 81) (.tmp 83) 23 3 (.int .i64 0) 8 rfl Try.underlying23 info3 rfl (by decide) (by omega) (.slice Ao53 x7_4.length co53) x7_4 (rd y274 x67_4) [.int .i64 (rd y274 x67_4)] (fun k_ => some k_ ≠ (.slice (some ⟨go30, 0, none⟩) x5_4.length co21 : Value).ownBlock ∧ some k_ ≠ (.slice (some ad277) y274.length co44 : Value).ownBlock) (fun _ => False) rfl rfl ?aP (fun _ hk => hk.elim) ?aF ?aO ?aB ?aS ?aL ?_; (case aP => exact rfl); (case aB => exact hB_); (case aF => exact (fun k_ hk => ⟨Kd.fresh' (Kd.R_lt (rr_ HO_5)) k_ hk, Kd.fresh' (Kd.R_lt (rr_ HO_65)) k_ hk⟩)); (case aO => exact (rw_ (Kd.R_mono HO_7.out (fun _ hk => ⟨hk.2, hk.1⟩)))); (case aS => exact (bF_ hB_)); (case aL => have := LMc52.out; omega); intro v281 w56 ho hb hg hat; rw [← Ny280.out] at ho; replace HO_5 := A_ (Kd.R_after (ok := (fun k_ => some k_ ≠ (.slice (some ad277) y274.length co44 : Value).ownBlock)) (rw_ (Kd.R_mono HO_5.out (fun _ hk => ⟨hk.2, hk.1⟩))) hg hat); replace HO_65 := A_ (Kd.R_after (ok := (fun k_ => some k_ ≠ (.slice (some ⟨go30, 0, none⟩) x5_4.length co21 : Value).ownBlock)) (rw_ (Kd.R_mono HO_65.out (fun _ hk => ⟨hk.2, hk.1⟩))) hg hat); replace BK260 := A_ (blk_grown (kk_ BK260) hg (Kd.R_ne HO_7.out BK260.out (by decide))); replace HB := A_ hb; have HO282 := A_ ho; clear HO_7; clear ho hb hg hat))
              (try simp only [← hl5_4])
              go_roundg k4
              case measure => have := HJ2.out; have := HK2.out; have := HK3.out; have := HK4.out; omega
              case rel => exact ⟨(y279), (y280), (wrap64 (x67_4 + 1)), qc_, H', ⟨by have := HJ2.out; have := HK2.out; have := HK3.out; have := HK4.out; omega⟩, ⟨by (try simp only [hl5_2]); (try simp only [hl5_3]); (try simp only [hl5_4]); (with_reducible repeat (first | apply rA_ | apply rB_ | apply rC_)); exact Kd.R_mono HO_5.out (fun _ hk => ⟨hk.2, hk.1⟩)⟩, ⟨by (try simp only [hl5_2]); (try simp only [hl5_3]); (try simp only [hl5_4]); (with_reducible repeat (first | apply rA_ | apply rB_ | apply rC_)); exact HO282.out⟩, ⟨by (try simp only [hl5_2]); (try simp only [hl5_3]); (try simp only [hl5_4]); (with_reducible repeat (first | apply rA_ | apply rB_ | apply rC_)); exact HO_65.out⟩, ⟨by (try simp only [hl5_2]); (try simp only [hl5_3]); (try simp only [hl5_4]); (with_reducible repeat (first | refine kA_ ?_ _ | refine kB_ ?_ | refine kC_ ?_ _)); exact BK260.out⟩, ⟨hB_⟩⟩
             ·rw [if_neg c50] at H
              have c50b0 := oD_ c50
              clear c50
              have H' := A_ H
              clear H
              have p277 : 0 ≤ (x67_4 : Int) := oB_ qe_
              have q277 : x67_4 < (y274.length : Int) := oB_ qe_
              obtain ⟨ad277, e277, hx277_0⟩ := Kd.at_int (Kd.R_reads' HO_65.out).2.2 x67_4 p277 q277
              cases e277
              replace p277 := eq_true p277
              replace q277 := eq_true q277
              have p278 : 0 ≤ ((rd y274 x67_4) : Int) := oB_ qe_
              have q278 : (rd y274 x67_4) < (x5_4.length : Int) := oB_ qe_
              obtain ⟨ad278, e278, hx278_0⟩ := Kd.at_int (Kd.R_reads' HO_5.out).2.2 (rd y274 x67_4) p278 q278
              obtain rfl : (⟨go30, 0, none⟩ : Addr) = ad278 := (by injection e278)
              (first | simp only [add_plain] at hx278_0 | simp only [add_at] at hx278_0 | simp only [Addr.add, Nat.zero_add] at hx278_0 | skip)
              replace p278 := eq_true p278
              replace q278 := eq_true q278
              go_wp2
              (try simp only [← hl5_4])
              go_roundg k4
              case measure => have := HJ2.out; have := HK2.out; have := HK3.out; have := HK4.out; omega
              case rel => exact ⟨(x5_4), (x7_4), (wrap64 (x67_4 + 1)), qc_, H', ⟨by have := HJ2.out; have := HK2.out; have := HK3.out; have := HK4.out; omega⟩, ⟨by (try simp only [hl5_2]); (try simp only [hl5_3]); (try simp only [hl5_4]); (with_reducible repeat (first | apply rA_ | apply rB_ | apply rC_)); exact HO_5.out⟩, ⟨by (try simp only [hl5_2]); (try simp only [hl5_3]); (try simp only [hl5_4]); (with_reducible repeat (first | apply rA_ | apply rB_ | apply rC_)); exact HO_7.out⟩, ⟨by (try simp only [hl5_2]); (try simp only [hl5_3]); (try simp only [hl5_4]); (with_reducible repeat (first | apply rA_ | apply rB_ | apply rC_)); exact HO_65.out⟩, ⟨by (try simp only [hl5_2]); (try simp only [hl5_3]); (try simp only [hl5_4]); (with_reducible repeat (first | refine kA_ ?_ _ | refine kB_ ?_ | refine kC_ ?_ _)); exact BK260.out⟩, ⟨hB_⟩⟩
            ·rw [if_neg c45] at H
             have c45b0 := oD_ c45
             (try simp only [hl5_4] at c45b0)
             clear c45
             have H' := A_ H
             clear H
             go_wp2
             (try simp only [← hl5_3, ← hl5_4])
             go_roundg k4
             case measure => have := HJ2.out; have := HK2.out; have := HK3.out; have := HK4.out; omega
             case rel => exact ⟨(x5_4), (x7_4), (wrap64 (x8_3 + 1)), qc_, H', ⟨by have := HJ2.out; have := HK2.out; have := HK3.out; have := HK4.out; omega⟩, ⟨by (try simp only [hl5_2]); (try simp only [hl5_3]); (try simp only [hl5_4]); (with_reducible repeat (first | apply rA_ | apply rB_ | apply rC_)); exact Kd.R_mono HO_5.out (fun _ hk => hk.1)⟩, ⟨by (try simp only [hl5_2]); (try simp only [hl5_3]); (try simp only [hl5_4]); (with_reducible repeat (first | apply rA_ | apply rB_ | apply rC_)); exact Kd.R_mono HO_7.out (fun _ hk => hk.1)⟩, ⟨by (try simp only [hl5_2]); (try simp only [hl5_3]); (try simp only [hl5_4]); (with_reducible repeat (first | refine kA_ ?_ _ | refine kB_ ?_ | refine kC_ ?_ _)); exact BK260.out⟩, ⟨hB_⟩⟩
         ·rw [if_neg c35] at H
          have c35b0 := oD_ c35
          clear c35
          obtain rfl := Option.some.inj H
          obtain ⟨Ao57, co57, eo57⟩ := Kd.R_slice HO_7.out
          subst eo57
          go_wp2
          go_ret
          exact ⟨_, qb_, (rw_ (Kd.R_mono HO_5.out (fun _ hk => trivial))), hB_⟩
end Go.Proofs.Ytcggfjpnfodbaaa.A
end
section
namespace Go.Proofs.Ytcggfjpnfodbaaa.A
open Go.RowKit Go.Proofs.YtcggfjpnfodbaaaW.PrintWords Go.Proofs.YtcggfjpnfodbaaaW.PrintLast Go.Proofs.YtcggfjpnfodbaaaW.PrintMore
attribute [local go_sem] max2_int min2_int max_two min_two max_three min_three max_four min_four
set_option linter.unusedVariables false
set_option linter.unusedSimpArgs false
def Z30.l0 : Nat → List (S25) → Int → List Int → List Int → Option ((List (S25)))
 | 0, _, _, _, _ => none
 | k + 1, x3, x4, x284000, x284001 => (Z13.f k x284000 x284001).bind fun t287 => (if x4 < t287 then ((Z28.f k x284000 x284001 x4).bind fun t288 => ((Z9.f k x284000 x284001 t288).bind fun bt291 => (if x3.length < 2932031007402 then (Z30.l0 k (x3 ++ [(⟨bt291.1, bt291.2.1⟩ : S25)]) (wrap64 (x4 + 1)) x284000 x284001) else (none)))) else (some x3))
def Z30.f (k : Nat) (l0_0 : List Int) (l0_1 : List Int) : Option ((List (S25))) := Z30.l0 k (([] : List (S25))) 0 l0_0 l0_1
theorem Z30.mono_l : ∀ k, (∀ y0 y1 y2 y3, LeO (Z30.l0 k y0 y1 y2 y3) (Z30.l0 (k + 1) y0 y1 y2 y3))
 | 0 => fun _ _ _ _ r h => by simp [Z30.l0] at h
 | k + 1 => by
  have ih0 := Z30.mono_l k
  ·intro y0 y1 y2 y3
   unfold Z30.l0
   repeat' first|exact ih0 _ _ _ _|exact Z13.mono _ _ _|exact Z28.mono _ _ _ _|exact Z9.mono _ _ _ _|exact lo_|refine LeO.ite ?_ ?_|refine LeO.bind ?_ (fun _ => ?_)
theorem Z30.mono : ∀ a0 a1 k, LeO (Z30.f k a0 a1) (Z30.f (k + 1) a0 a1) := by
 intro a0 a1 k
 have ih0 := Z30.mono_l k
 unfold Z30.f
 repeat' first|exact ih0 _ _ _ _|exact Z13.mono _ _ _|exact Z28.mono _ _ _ _|exact Z9.mono _ _ _ _|exact lo_|refine LeO.ite ?_ ?_|refine LeO.bind ?_ (fun _ => ?_)
def Z30.T5 : Bool × List (List Nat × List Nat) := (true, [([], []), ([], []), ([], []), ([1, 2], [1, 2]), ([0, 3, 3], [0, 3]), ([4], [4]), ([5], [5]), ([5], [5]), ([], []), ([8, 6, 4, 0, 1, 2, 3, 4, 5, 6, 8], [6, 8]), ([7, 9, 0, 1, 2, 3, 4, 5, 6, 7, 8, 9], [7])])
def Z30.B5 : List Nat := [0, 0, 0, 6, 15, 31, 63, 63, 0, 383, 1023]
theorem Z30.tab5 : rtab .any (opsOf Try.f75 5) = Z30.T5 := by kernel_rfl
theorem Z30.bits5 : waitsOk Z30.T5.2 Z30.B5 = true := by kernel_rfl
set_option maxHeartbeats 8000000 in
set_option maxRecDepth 100000 in
theorem Z30.calls (k : Nat) (A0_0 : Option Addr) (c0_0 : Nat) (l0_0 : List Int) (A0_1 : Option Addr) (c0_1 : Nat) (l0_1 : List Int) (r : List (S25)) (w : World) (hr0_0 : Kd.C (Kd.int .i64) w A0_0 l0_0.length l0_0) (hc0_0 : l0_0.length ≤ c0_0) (hr0_1 : Kd.C (Kd.int .i64) w A0_1 l0_1.length l0_1) (hc0_1 : l0_1.length ≤ c0_1) (h : Z30.f k l0_0 l0_1 = some r) :
  Calls Try.prog 75 #[.agg #[.slice A0_0 l0_0.length c0_0, .slice A0_1 l0_1.length c0_1]] w fun e w' => ∃ v0_ : Value, e = .returned (v0_) ∧ Kd.S k25 25 w' w.heap.size (fun _ => True) v0_ r ∧ Below w.heap.size w w' := by
 have hu25 := Try.underlying25
 have HR0_0 := A_ hr0_0
 have HC0_0 := A_ hc0_0
 clear hr0_0 hc0_0
 have HR0_1 := A_ hr0_1
 have HC0_1 := A_ hc0_1
 clear hr0_1 hc0_1
 have HB := A_ (Below.refl w.heap.size w)
 have H := h
 unfold Z30.f at H
 clear h
 obtain ⟨y284, hy284⟩ : ∃ y_ : List (S25), y_ = (([] : List (S25))) := ⟨_, rfl⟩
 replace H : (Z30.l0 k y284 0 l0_0 l0_1) = some r := by first | (rw [hy284]; exact H) | exact H
 have Ny284 := A_ hy284
 clear hy284
 have H' := A_ H
 clear H
 go_enter Try.func75, Try.ntmps75
 go_wp2_with (first | ((with_reducible refine gB_ (N := 1) rfl ?_); refine bx_ 1 #[.slice A0_0 l0_0.length c0_0, .slice A0_1 l0_1.length c0_1] 25 ?_; intro gb283 hg w2 hbox hb; have BK283 := A_ hbox; have GW283 := gw_ w hg; have GE283 := GW283; replace HB := b1_ hb; clear hb hbox hg) | ((with_reducible refine gB_ (N := 7) rfl ?_); refine Kd.S_lit k25 _ 25 ?hg (N := 7) ?hd (xs := ([] : List (S25))) (inner := []) (ok := fun _ => True) (okp := fun _ => True) ?hr ?hp (fun _ hk => hk) trivial (Below.refl _ _) (nA_ _) (by simp) ?_; (case hd => rfl); (case hg => rfl); (case hr => first | (go_simp; done) | (go_simp; rfl)); (case hp => exact (Reps.none _ _)); intro v285 w3 ho4 hb hg_ hnew_; clear hg_ hnew_; (first | rw [← Ny284.out] at ho4 | (simp only [Int.reduceToNat] at ho4; rw [← Ny284.out] at ho4)); have HO286 := A_ (Kd.S_lower (Kd.S_newB ho4 (kk_ BK283)) (bF_ hB_)); replace BK283 := bb_ BK283 hb; replace HB := b1_ hb; clear hb ho4))
 go_loopg [3, 4] k (fun kq v3 v4 w' => ∃ (x3_1 : List (S25)) (x4_1 : Int), v4 = .int .i64 x4_1 ∧ Aside0 (Z30.l0 kq x3_1 x4_1 l0_0 l0_1 = some r) ∧ Aside0 (kq ≤ k) ∧ Aside0 (Kd.S k25 25 w' w.heap.size (fun k_ => k_ ≠ gb283) v3 x3_1) ∧ Aside0 (w'.heap[gb283]? = some (.cells #[(.slice A0_0 l0_0.length c0_0), (.slice A0_1 l0_1.length c0_1)] 25 (0, 0))) ∧ Aside0 (Below w.heap.size w w'))
 case atStart => exact ⟨(y284), (0), qc_, H', ⟨nA_ _⟩, ⟨(sw_ (Kd.S_mono HO286.out (fun _ hk => hk.2)))⟩, ⟨(kk_ BK283)⟩, ⟨hB_⟩⟩
 case round =>
  clear H'
  obtain ⟨x3_1, x4_1, rfl, HA, HK1, HO_3, BK283, HB⟩ := hrel
  cases gk with
  | zero => exact absurd HA.out (by simp [Z30.l0])
  | succ k1 =>
   have H := HA.out
   clear HA
   simp only [Z30.l0] at H
   obtain ⟨t287, A5, H⟩ := bi_ H
   by_cases c6 : x4_1 < t287
   ·rw [if_pos c6] at H
    have c6b0 := oC_ c6
    clear c6
    obtain ⟨t288, A7, H⟩ := bi_ H
    obtain ⟨⟨t291, t294, t297⟩, A8, H⟩ := bi_ H
    try dsimp only at H
    have c9 := cp_ H
    replace H := ca_ H
    have LMc9 := A_ c9
    clear c9
    obtain ⟨y299, hy299⟩ : ∃ y_ : List (S25), y_ = (x3_1 ++ [(⟨t291, t294⟩ : S25)]) := ⟨_, rfl⟩
    replace H : (Z30.l0 k1 y299 (wrap64 (x4_1 + 1)) l0_0 l0_1) = some r := by first | (rw [hy299]; exact H) | exact H
    have Ny299 := A_ hy299
    clear hy299
    have H' := A_ H
    clear H
    obtain ⟨hcz10_0, hcz10_1, hfz10_0, hfz10_1⟩ := c2_ BK283
    try go_wp2_with (first | ((with_reducible refine gA_ (f := 112) rfl ?_); refine gL_ (some 10) Try.func112 #[.agg #[.slice A0_0 l0_0.length c0_0, .slice A0_1 l0_1.length c0_1]] rfl qa_ ?_; (with_reducible refine (Z13.calls k1 _ _ l0_0 _ _ l0_1 t287 _ (cb_ HR0_0) HC0_0.out (cb_ HR0_1) HC0_1.out A5.out).mono ?_); rintro e w11 ⟨rfl, hb⟩; refine ⟨_, rfl, ?_⟩; replace HO_3 := sb_ HO_3 hb; replace BK283 := bb_ BK283 hb; replace HB := b1_ hb; clear hb))
    replace HO_3 := A_ (Kd.S_drew HO_3.out)
    replace BK283 := A_ (kB_ BK283.out)
    replace HB := A_ (bC_ HB.out)
    refine start_ (n := 11) (S := fun w' => w'.cell? ⟨gb283, 0, none⟩ = some (.slice A0_0 l0_0.length c0_0) ∧ w'.cell? ⟨gb283, 1, none⟩ = some (.slice A0_1 l0_1.length c0_1)) (ds := []) (bl_ 11 0) (by kernel_rfl) rfl (by kernel_rfl) ⟨cz0_ BK283, cz1_ BK283⟩ (fun hHeld => ?_); refine with_tabW Z30.tab5 Z30.bits5 (fun HT_ HW_ => ?_)
    generalize w11.drew = w12 at HO_3 BK283 HB hHeld ⊢
    refine pu_ 2 (some 17) (bl_ 11 4) HT_ ?_
    refine ta_ 0 (some 15) (bl_ 11 5) HT_ HW_ hHeld ?_
    refine ta_ 1 (some 16) (bl_ 11 7) HT_ HW_ hHeld ?_
    refine join_ (σ := Value × Value × Value × Nat) 2 (bl_ 11 511) (fun s_ => [(18, s_.1), (19, .tuple #[.agg #[s_.2.1, s_.2.2.1], .bool t297]), (5, .pointer (some ⟨s_.2.2.2, 0, none⟩)), (14, .tuple #[.agg #[s_.2.1, s_.2.2.1], .bool t297]), (20, .agg #[s_.2.1, s_.2.2.1]), (21, .bool t297)]) (fun s_ w' => (w'.cell? ⟨gb283, 0, none⟩ = some (.slice A0_0 l0_0.length c0_0) ∧ w'.cell? ⟨gb283, 1, none⟩ = some (.slice A0_1 l0_1.length c0_1)) ∧ (Kd.R (Kd.int .i64) 3 w' w.heap.size (fun k_ => some k_ ≠ (s_.2.1 : Value).ownBlock ∧ some k_ ≠ (s_.2.2.1 : Value).ownBlock) s_.1 t288) ∧ (Kd.R (Kd.int .i64) 3 w' w.heap.size (fun k_ => some k_ ≠ (s_.1 : Value).ownBlock ∧ some k_ ≠ (s_.2.2.1 : Value).ownBlock) s_.2.1 t291) ∧ (Kd.R (Kd.int .i64) 3 w' w.heap.size (fun k_ => some k_ ≠ (s_.1 : Value).ownBlock ∧ some k_ ≠ (s_.2.1 : Value).ownBlock) s_.2.2.1 t294) ∧ (Kd.S k25 25 w' w.heap.size (fun k_ => some k_ ≠ (s_.1 : Value).ownBlock ∧ some k_ ≠ (s_.2.1 : Value).ownBlock ∧ some k_ ≠ (s_.2.2.1 : Value).ownBlock ∧ k_ ≠ gb283 ∧ k_ ≠ s_.2.2.2) u3 x3_1) ∧ (w'.heap[gb283]? = some (.cells #[.slice A0_0 l0_0.length c0_0, .slice A0_1 l0_1.length c0_1] 25 (0, 0))) ∧ (w'.heap[s_.2.2.2]? = some (.cells #[.slice none 0 0, .slice none 0 0] 25 (0, 0))) ∧ (w.heap.size ≤ s_.2.2.2) ∧ (w.heap.size ≤ s_.2.2.2) ∧ (gb283 ≠ s_.2.2.2) ∧ (s_.2.2.2 ≠ gb283) ∧ (Below w.heap.size w w')) ?_ ?_
    rotate_left
    ·intro hCont
     refine two_ (i := 3) (j := 8) (Ni := some 18) (Nj := some 5) (bl_ 11 15) (bl_ 11 263) rfl rfl rfl rfl (two_of HT_.out (by kernel_rfl)) (by decide) (by decide) (fun K hK => ?_) (fun K hK => ?_)
     ·skip
      refine gO_ Try.func114 #[.agg #[.slice A0_0 l0_0.length c0_0, .slice A0_1 l0_1.length c0_1], .int .i64 x4_1] (by rfl) rfl rfl qa_ ?_
      with_reducible refine (Z28.calls k1 _ _ l0_0 _ _ l0_1 x4_1 t288 _ (cb_ HR0_0) HC0_0.out (cb_ HR0_1) HC0_1.out A7.out).mono ?_
      rintro e w13 ⟨v289, rfl, ho0, hb⟩
      refine ⟨_, rfl, ?_⟩
      replace HO_3 := A_ (Kd.S_elder' (ss_ HO_3) (Kd.R_base ho0) hb)
      have HO290 := rl_ w ho0
      replace BK283 := bb_ BK283 hb
      replace HB := b1_ hb
      clear hb ho0
      obtain ⟨Ao14, co14, eo14⟩ := Kd.R_slice HO290.out
      (first | subst eo14 | (injection eo14 with f1_ f2_ f3_; have f4_ := f1_.symm; have f5_ := f3_.symm; clear f1_ f2_ f3_; subst f4_; subst f5_))
      refine hK.out _ _ ⟨cz0_ BK283, cz1_ BK283⟩ (fun hHeld => ?_)
      clear hK K
      refine no_ (some 18) ?_
      refine two_ (i := 4) (j := 8) (Ni := some 19) (Nj := some 5) (bl_ 11 31) (bl_ 11 271) rfl rfl rfl rfl (two_of HT_.out (by kernel_rfl)) (by decide) (by decide) (fun K hK => ?_) (fun K hK => ?_)
      ·skip
       refine gO_ Try.func113 #[.agg #[.slice A0_0 l0_0.length c0_0, .slice A0_1 l0_1.length c0_1], .slice Ao14 t288.length co14] (by rfl) rfl rfl qa_ ?_
       with_reducible refine (Z9.calls k1 _ _ l0_0 _ _ l0_1 _ _ t288 t291 t294 t297 _ (cb_ HR0_0) HC0_0.out (cb_ HR0_1) HC0_1.out (cr_ HO290) ((Kd.R_reads' HO290.out).2.1) A8.out).mono ?_
       rintro e w15 ⟨v292, v295, rfl, ho0, ho1, hb⟩
       refine ⟨_, rfl, ?_⟩
       replace HO_3 := A_ (Kd.S_mono (Kd.S_told (Kd.S_told (Kd.S_old (ss_ HO_3) hb) (Kd.R_base ho0)) (Kd.R_base ho1)) (fun _ h_ => h_.1))
       have HO293 := A_ (rE_ (Kd.R_new' ho0 (Kd.R_lt (rr_ HO290))) (bF_ hB_))
       have HO296 := A_ (rE_ (Kd.R_new' ho1 (Kd.R_lt (rr_ HO290))) (bF_ hB_))
       replace HO290 := A_ (Kd.R_mono (Kd.R_told (Kd.R_told (Kd.R_old (rr_ HO290) hb) (Kd.R_base ho0)) (Kd.R_base ho1)) (fun _ h_ => h_.1))
       replace BK283 := bb_ BK283 hb
       replace HB := b1_ hb
       clear hb ho0 ho1
       refine hK.out _ _ ⟨cz0_ BK283, cz1_ BK283⟩ (fun hHeld => ?_)
       clear hK K
       refine no_ (some 19) ?_
       refine pu_ 5 (some 14) (bl_ 11 63) HT_ ?_
       refine pu_ 6 (some 20) (bl_ 11 127) HT_ ?_
       refine pu_ 7 (some 21) (bl_ 11 255) HT_ ?_
       refine on_ 8 (some 5) (bl_ 11 511) HT_ (fun K hK => ?_)
       refine box_step ?hg (N := 5) ?hd (cs := #[.slice none 0 0, .slice none 0 0]) (t := 25) ?hr ?_; (case hd => rfl); (case hg => rfl); (case hr => first | (go_simp; done) | (go_simp; rfl))
       intro gb298 hg w16 hbox hb
       replace HO_3 := A_ (Kd.S_below (Kd.S_elderB (ss_ HO_3) gb298 (Nat.le_of_eq hg.symm)) hb)
       replace HO290 := rb_ HO290 hb
       replace HO293 := rb_ HO293 hb
       replace HO296 := rb_ HO296 hb
       have BK298 := A_ hbox
       have GW298 := gw_ w hg
       have GE298 := GW298
       replace HB := b1_ hb
       have NB283_298 := gN_ BK283 hg
       have NB298_283 := gP_ BK283 hg
       replace BK283 := bb_ BK283 hb
       clear hb hbox hg
       refine hK.out _ _ ⟨cz0_ BK283, cz1_ BK283⟩ (fun hHeld => ?_)
       clear hK K
       refine no_ (some 5) ?_
       exact norm_ (by simp only [putAll, Act.put, sA_, sB_, sC_]) (hCont (.slice Ao14 t288.length co14, v292, v295, gb298) _ ⟨hHeld, (rw_ (Kd.R_mono HO290.out (fun _ hk => ⟨hk.1.2, hk.2⟩))), (rw_ (Kd.R_mono HO293.out (fun _ hk => ⟨hk.2, hk.1⟩))), (rw_ (Kd.R_mono HO296.out (fun _ hk => ⟨hk.2, hk.1⟩))), (sw_ (Kd.S_mono HO_3.out (fun _ hk => ⟨hk.1.1.1.2, ⟨hk.1.1.2, ⟨hk.1.2, ⟨hk.1.1.1.1, hk.2⟩⟩⟩⟩))), (kk_ BK283), (kk_ BK298), GW298.out, GE298.out, NB283_298.out, NB298_283.out, hB_⟩)
      ·skip
       refine box_step ?hg (N := 5) ?hd (cs := #[.slice none 0 0, .slice none 0 0]) (t := 25) ?hr ?_; (case hd => rfl); (case hg => rfl); (case hr => first | (go_simp; done) | (go_simp; rfl))
       intro gb298 hg w14 hbox hb
       replace HO_3 := A_ (Kd.S_below (Kd.S_elderB (ss_ HO_3) gb298 (Nat.le_of_eq hg.symm)) hb)
       replace HO290 := rb_ HO290 hb
       have BK298 := A_ hbox
       have GW298 := gw_ w hg
       have GE298 := GW298
       replace HB := b1_ hb
       have NB283_298 := gN_ BK283 hg
       have NB298_283 := gP_ BK283 hg
       replace BK283 := bb_ BK283 hb
       clear hb hbox hg
       obtain ⟨Ao15, co15, eo15⟩ := Kd.R_slice HO290.out
       (first | subst eo15 | (injection eo15 with f1_ f2_ f3_; have f4_ := f1_.symm; have f5_ := f3_.symm; clear f1_ f2_ f3_; subst f4_; subst f5_))
       refine hK.out _ _ ⟨cz0_ BK283, cz1_ BK283⟩ (fun hHeld => ?_)
       clear hK K
       refine no_ (some 5) ?_
       refine on_ 4 (some 19) (bl_ 11 287) HT_ (fun K hK => ?_)
       refine gO_ Try.func113 #[.agg #[.slice A0_0 l0_0.length c0_0, .slice A0_1 l0_1.length c0_1], .slice Ao15 t288.length co15] (by rfl) rfl rfl qa_ ?_
       with_reducible refine (Z9.calls k1 _ _ l0_0 _ _ l0_1 _ _ t288 t291 t294 t297 _ (cb_ HR0_0) HC0_0.out (cb_ HR0_1) HC0_1.out (cr_ HO290) ((Kd.R_reads' HO290.out).2.1) A8.out).mono ?_
       rintro e w16 ⟨v292, v295, rfl, ho0, ho1, hb⟩
       refine ⟨_, rfl, ?_⟩
       replace HO_3 := A_ (Kd.S_mono (Kd.S_told (Kd.S_told (Kd.S_old (ss_ HO_3) hb) (Kd.R_base ho0)) (Kd.R_base ho1)) (fun _ h_ => h_.1))
       have HO293 := A_ (rE_ (Kd.R_new' ho0 (Kd.R_lt (rr_ HO290))) (bF_ hB_))
       have HO296 := A_ (rE_ (Kd.R_new' ho1 (Kd.R_lt (rr_ HO290))) (bF_ hB_))
       replace HO290 := A_ (Kd.R_mono (Kd.R_told (Kd.R_told (Kd.R_old (rr_ HO290) hb) (Kd.R_base ho0)) (Kd.R_base ho1)) (fun _ h_ => h_.1))
       replace BK283 := bb_ BK283 hb
       replace BK298 := bb_ BK298 hb
       replace HB := b1_ hb
       clear hb ho0 ho1
       refine hK.out _ _ ⟨cz0_ BK283, cz1_ BK283⟩ (fun hHeld => ?_)
       clear hK K
       refine no_ (some 19) ?_
       refine pu_ 5 (some 14) (bl_ 11 319) HT_ ?_
       refine pu_ 6 (some 20) (bl_ 11 383) HT_ ?_
       refine pu_ 7 (some 21) (bl_ 11 511) HT_ ?_
       exact norm_ (by simp only [putAll, Act.put, sA_, sB_, sC_]) (hCont (.slice Ao15 t288.length co15, v292, v295, gb298) _ ⟨hHeld, (rw_ (Kd.R_mono HO290.out (fun _ hk => ⟨hk.1.2, hk.2⟩))), (rw_ (Kd.R_mono HO293.out (fun _ hk => ⟨hk.2, hk.1⟩))), (rw_ (Kd.R_mono HO296.out (fun _ hk => ⟨hk.2, hk.1⟩))), (sw_ (Kd.S_mono HO_3.out (fun _ hk => ⟨hk.1.1.1.2, ⟨hk.1.2, ⟨hk.2, ⟨hk.1.1.1.1, hk.1.1.2⟩⟩⟩⟩))), (kk_ BK283), (kk_ BK298), GW298.out, GE298.out, NB283_298.out, NB298_283.out, hB_⟩)
     ·skip
      refine box_step ?hg (N := 5) ?hd (cs := #[.slice none 0 0, .slice none 0 0]) (t := 25) ?hr ?_; (case hd => rfl); (case hg => rfl); (case hr => first | (go_simp; done) | (go_simp; rfl))
      intro gb298 hg w13 hbox hb
      replace HO_3 := A_ (Kd.S_below (Kd.S_elderB (ss_ HO_3) gb298 (Nat.le_of_eq hg.symm)) hb)
      have BK298 := A_ hbox
      have GW298 := gw_ w hg
      have GE298 := GW298
      replace HB := b1_ hb
      have NB283_298 := gN_ BK283 hg
      have NB298_283 := gP_ BK283 hg
      replace BK283 := bb_ BK283 hb
      clear hb hbox hg
      refine hK.out _ _ ⟨cz0_ BK283, cz1_ BK283⟩ (fun hHeld => ?_)
      clear hK K
      refine no_ (some 5) ?_
      refine on_ 3 (some 18) (bl_ 11 271) HT_ (fun K hK => ?_)
      refine gO_ Try.func114 #[.agg #[.slice A0_0 l0_0.length c0_0, .slice A0_1 l0_1.length c0_1], .int .i64 x4_1] (by rfl) rfl rfl qa_ ?_
      with_reducible refine (Z28.calls k1 _ _ l0_0 _ _ l0_1 x4_1 t288 _ (cb_ HR0_0) HC0_0.out (cb_ HR0_1) HC0_1.out A7.out).mono ?_
      rintro e w14 ⟨v289, rfl, ho0, hb⟩
      refine ⟨_, rfl, ?_⟩
      replace HO_3 := A_ (Kd.S_elder' (ss_ HO_3) (Kd.R_base ho0) hb)
      have HO290 := rl_ w ho0
      replace BK283 := bb_ BK283 hb
      replace BK298 := bb_ BK298 hb
      replace HB := b1_ hb
      clear hb ho0
      obtain ⟨Ao15, co15, eo15⟩ := Kd.R_slice HO290.out
      (first | subst eo15 | (injection eo15 with f1_ f2_ f3_; have f4_ := f1_.symm; have f5_ := f3_.symm; clear f1_ f2_ f3_; subst f4_; subst f5_))
      refine hK.out _ _ ⟨cz0_ BK283, cz1_ BK283⟩ (fun hHeld => ?_)
      clear hK K
      refine no_ (some 18) ?_
      refine on_ 4 (some 19) (bl_ 11 287) HT_ (fun K hK => ?_)
      refine gO_ Try.func113 #[.agg #[.slice A0_0 l0_0.length c0_0, .slice A0_1 l0_1.length c0_1], .slice Ao15 t288.length co15] (by rfl) rfl rfl qa_ ?_
      with_reducible refine (Z9.calls k1 _ _ l0_0 _ _ l0_1 _ _ t288 t291 t294 t297 _ (cb_ HR0_0) HC0_0.out (cb_ HR0_1) HC0_1.out (cr_ HO290) ((Kd.R_reads' HO290.out).2.1) A8.out).mono ?_
      rintro e w16 ⟨v292, v295, rfl, ho0, ho1, hb⟩
      refine ⟨_, rfl, ?_⟩
      replace HO_3 := A_ (Kd.S_mono (Kd.S_told (Kd.S_told (Kd.S_old (ss_ HO_3) hb) (Kd.R_base ho0)) (Kd.R_base ho1)) (fun _ h_ => h_.1))
      have HO293 := A_ (rE_ (Kd.R_new' ho0 (Kd.R_lt (rr_ HO290))) (bF_ hB_))
      have HO296 := A_ (rE_ (Kd.R_new' ho1 (Kd.R_lt (rr_ HO290))) (bF_ hB_))
      replace HO290 := A_ (Kd.R_mono (Kd.R_told (Kd.R_told (Kd.R_old (rr_ HO290) hb) (Kd.R_base ho0)) (Kd.R_base ho1)) (fun _ h_ => h_.1))
      replace BK283 := bb_ BK283 hb
      replace BK298 := bb_ BK298 hb
      replace HB := b1_ hb
      clear hb ho0 ho1
      refine hK.out _ _ ⟨cz0_ BK283, cz1_ BK283⟩ (fun hHeld => ?_)
      clear hK K
      refine no_ (some 19) ?_
      refine pu_ 5 (some 14) (bl_ 11 319) HT_ ?_
      refine pu_ 6 (some 20) (bl_ 11 383) HT_ ?_
      refine pu_ 7 (some 21) (bl_ 11 511) HT_ ?_
      exact norm_ (by simp only [putAll, Act.put, sA_, sB_, sC_]) (hCont (.slice Ao15 t288.length co15, v292, v295, gb298) _ ⟨hHeld, (rw_ (Kd.R_mono HO290.out (fun _ hk => ⟨hk.1.2, hk.2⟩))), (rw_ (Kd.R_mono HO293.out (fun _ hk => ⟨hk.2, hk.1⟩))), (rw_ (Kd.R_mono HO296.out (fun _ hk => ⟨hk.2, hk.1⟩))), (sw_ (Kd.S_mono HO_3.out (fun _ hk => ⟨hk.1.1.2, ⟨hk.1.2, ⟨hk.2, ⟨hk.1.1.1.1, hk.1.1.1.2⟩⟩⟩⟩))), (kk_ BK283), (kk_ BK298), GW298.out, GE298.out, NB283_298.out, NB298_283.out, hB_⟩)
    rintro ⟨v289, v292, v295, gb298⟩ w17 ⟨hS_, h0_, h1_, h2_, h3_, h4_, h5_, h6_, h7_, h8_, h9_, h10_⟩
    have n0_ : Aside0 (Kd.R (Kd.int .i64) 3 w17 w.heap.size (fun k_ => some k_ ≠ (v292 : Value).ownBlock ∧ some k_ ≠ (v295 : Value).ownBlock) v289 t288) := ⟨h0_⟩
    have n1_ : Aside0 (Kd.R (Kd.int .i64) 3 w17 w.heap.size (fun k_ => some k_ ≠ (v289 : Value).ownBlock ∧ some k_ ≠ (v295 : Value).ownBlock) v292 t291) := ⟨h1_⟩
    have n2_ : Aside0 (Kd.R (Kd.int .i64) 3 w17 w.heap.size (fun k_ => some k_ ≠ (v289 : Value).ownBlock ∧ some k_ ≠ (v292 : Value).ownBlock) v295 t294) := ⟨h2_⟩
    have n3_ : Aside0 (Kd.S k25 25 w17 w.heap.size (fun k_ => some k_ ≠ (v289 : Value).ownBlock ∧ some k_ ≠ (v292 : Value).ownBlock ∧ some k_ ≠ (v295 : Value).ownBlock ∧ k_ ≠ gb283 ∧ k_ ≠ gb298) u3 x3_1) := ⟨h3_⟩
    have n4_ : Aside0 (w17.heap[gb283]? = some (.cells #[.slice A0_0 l0_0.length c0_0, .slice A0_1 l0_1.length c0_1] 25 (0, 0))) := ⟨h4_⟩
    have n5_ : Aside0 (w17.heap[gb298]? = some (.cells #[.slice none 0 0, .slice none 0 0] 25 (0, 0))) := ⟨h5_⟩
    have n6_ : Aside0 (w.heap.size ≤ gb298) := ⟨h6_⟩
    have n7_ : Aside0 (w.heap.size ≤ gb298) := ⟨h7_⟩
    have n8_ : Aside0 (gb283 ≠ gb298) := ⟨h8_⟩
    have n9_ : Aside0 (gb298 ≠ gb283) := ⟨h9_⟩
    have n10_ : Aside0 (Below w.heap.size w w17) := ⟨h10_⟩
    clear HO_3
    clear BK283
    clear HB
    clear h0_ h1_ h2_ h3_ h4_ h5_ h6_ h7_ h8_ h9_ h10_
    have HO290 := n0_
    have HO293 := n1_
    have HO296 := n2_
    have HO_3 := n3_
    have BK283 := n4_
    have BK298 := n5_
    have GW298 := n6_
    have GE298 := n7_
    have NB283_298 := n8_
    have NB298_283 := n9_
    have HB := n10_
    clear n0_ n1_ n2_ n3_ n4_ n5_ n6_ n7_ n8_ n9_ n10_
    have hHeld : w17.cell? ⟨gb283, 0, none⟩ = some (.slice A0_0 l0_0.length c0_0) ∧ w17.cell? ⟨gb283, 1, none⟩ = some (.slice A0_1 l0_1.length c0_1) := hS_
    obtain ⟨Ao18, co18, eo18⟩ := Kd.R_slice HO293.out
    (first | subst eo18 | (injection eo18 with f1_ f2_ f3_; have f4_ := f1_.symm; have f5_ := f3_.symm; clear f1_ f2_ f3_; subst f4_; subst f5_))
    obtain ⟨Ao20, co20, eo20⟩ := Kd.R_slice HO296.out
    (first | subst eo20 | (injection eo20 with f1_ f2_ f3_; have f4_ := f1_.symm; have f5_ := f3_.symm; clear f1_ f2_ f3_; subst f4_; subst f5_))
    refine norm_ (a' := ?_) ?_ ?_
    rotate_left
    ·simp only [putAll, Act.put, sA_, sB_, sC_]
     rfl
    refine on_ 9 (none) (bl_ 11 1023) HT_ (fun K hK => ?_)
    have hs19 : w17.cell? ⟨gb298, 0, none⟩ = some (.slice none 0 0) := cz0_ BK298
    have hfs19 := kD_ BK298.out 0
    have hns19_0 := NB283_298.out
    have hms19_0 := NB298_283.out
    have hs21 : w17.cell? ⟨gb298, 1, none⟩ = some (.slice none 0 0) := cz1_ BK298
    have hfs21 := kD_ BK298.out 1
    have hns21_0 := NB283_298.out
    have hms21_0 := NB298_283.out
    refine skip_ (w1 := ?_) (by rfl) rfl ?_ ?_
    rotate_left
    ·go_simp
     rfl
    refine hK.out _ _ ⟨((cell_far (p := ⟨gb298, _, none⟩) NB283_298.out _).trans (((cell_far (p := ⟨gb298, _, none⟩) NB283_298.out _).trans (hHeld.1)))), ((cell_far (p := ⟨gb298, _, none⟩) NB283_298.out _).trans (((cell_far (p := ⟨gb298, _, none⟩) NB283_298.out _).trans (hHeld.2))))⟩ (fun hHeld => ?_)
    clear hK K
    refine pu_ 10 (some 6) (bl_ 11 2047) HT_ ?_
    refine done_ (done_of HT_.out (by kernel_rfl)) ?_
    have n0_ : Aside0 (Kd.S k25 25 ((w17.setCell ⟨gb298, 0, none⟩ (.slice Ao18 t291.length co18)).setCell ⟨gb298, 1, none⟩ (.slice Ao20 t294.length co20)) w.heap.size (fun k_ => some k_ ≠ (v289 : Value).ownBlock ∧ some k_ ≠ (.slice Ao18 t291.length co18 : Value).ownBlock ∧ some k_ ≠ (.slice Ao20 t294.length co20 : Value).ownBlock ∧ k_ ≠ gb283 ∧ k_ ≠ gb298) u3 x3_1) := ⟨(sw_ (Kd.S_mono (Kd.S_far (p := ⟨gb298, 1, none⟩) (Kd.S_far (p := ⟨gb298, 0, none⟩) (Kd.S_mono HO_3.out (fun k_ hk => (⟨hk, hk.2.2.2.2⟩ : _ ∧ k_ ≠ gb298))) (fun _ hk => hk.2) (.slice Ao18 t291.length co18)) (fun _ hk => hk.2) (.slice Ao20 t294.length co20)) (fun _ hk => ⟨hk.1.1, ⟨hk.1.2.1, ⟨hk.1.2.2.1, ⟨hk.1.2.2.2.1, hk.1.2.2.2.2⟩⟩⟩⟩)))⟩
    have n1_ : Aside0 (Kd.R (Kd.int .i64) 3 ((w17.setCell ⟨gb298, 0, none⟩ (.slice Ao18 t291.length co18)).setCell ⟨gb298, 1, none⟩ (.slice Ao20 t294.length co20)) w.heap.size (fun k_ => some k_ ≠ (.slice Ao18 t291.length co18 : Value).ownBlock ∧ some k_ ≠ (.slice Ao20 t294.length co20 : Value).ownBlock) v289 t288) := ⟨(rw_ (Kd.R_mono (Kd.R_far (p := ⟨gb298, 1, none⟩) (Kd.R_far (p := ⟨gb298, 0, none⟩) (Kd.R_types HO290.out BK298.out (by decide)) (fun _ hk => hk.2) (.slice Ao18 t291.length co18)) (fun _ hk => hk.2) (.slice Ao20 t294.length co20)) (fun _ hk => ⟨hk.1.1, hk.1.2⟩)))⟩
    have n2_ : Aside0 (Kd.R (Kd.int .i64) 3 ((w17.setCell ⟨gb298, 0, none⟩ (.slice Ao18 t291.length co18)).setCell ⟨gb298, 1, none⟩ (.slice Ao20 t294.length co20)) w.heap.size (fun k_ => some k_ ≠ (v289 : Value).ownBlock ∧ some k_ ≠ (.slice Ao20 t294.length co20 : Value).ownBlock) (.slice Ao18 t291.length co18) t291) := ⟨(rw_ (Kd.R_mono (Kd.R_far (p := ⟨gb298, 1, none⟩) (Kd.R_far (p := ⟨gb298, 0, none⟩) (Kd.R_types HO293.out BK298.out (by decide)) (fun _ hk => hk.2) (.slice Ao18 t291.length co18)) (fun _ hk => hk.2) (.slice Ao20 t294.length co20)) (fun _ hk => ⟨hk.1.1, hk.1.2⟩)))⟩
    have n3_ : Aside0 (Kd.R (Kd.int .i64) 3 ((w17.setCell ⟨gb298, 0, none⟩ (.slice Ao18 t291.length co18)).setCell ⟨gb298, 1, none⟩ (.slice Ao20 t294.length co20)) w.heap.size (fun k_ => some k_ ≠ (v289 : Value).ownBlock ∧ some k_ ≠ (.slice Ao18 t291.length co18 : Value).ownBlock) (.slice Ao20 t294.length co20) t294) := ⟨(rw_ (Kd.R_mono (Kd.R_far (p := ⟨gb298, 1, none⟩) (Kd.R_far (p := ⟨gb298, 0, none⟩) (Kd.R_types HO296.out BK298.out (by decide)) (fun _ hk => hk.2) (.slice Ao18 t291.length co18)) (fun _ hk => hk.2) (.slice Ao20 t294.length co20)) (fun _ hk => ⟨hk.1.1, hk.1.2⟩)))⟩
    have n4_ : Aside0 (((w17.setCell ⟨gb298, 0, none⟩ (.slice Ao18 t291.length co18)).setCell ⟨gb298, 1, none⟩ (.slice Ao20 t294.length co20)).heap[gb283]? = some (.cells #[.slice A0_0 l0_0.length c0_0, .slice A0_1 l0_1.length c0_1] 25 (0, 0))) := ⟨by (with_reducible repeat (first | refine kA_ ?_ _ | refine kB_ ?_ | refine kC_ ?_ _)); refine blk_far ?_ NB283_298.out _; (with_reducible repeat (first | refine kA_ ?_ _ | refine kB_ ?_ | refine kC_ ?_ _)); refine blk_far ?_ NB283_298.out _; (with_reducible repeat (first | refine kA_ ?_ _ | refine kB_ ?_ | refine kC_ ?_ _)); exact BK283.out⟩
    have n5_ : Aside0 (((w17.setCell ⟨gb298, 0, none⟩ (.slice Ao18 t291.length co18)).setCell ⟨gb298, 1, none⟩ (.slice Ao20 t294.length co20)).heap[gb298]? = some (.cells #[.slice Ao18 t291.length co18, .slice Ao20 t294.length co20] 25 (0, 0))) := ⟨qp_⟩
    have n6_ : Aside0 (Below w.heap.size w ((w17.setCell ⟨gb298, 0, none⟩ (.slice Ao18 t291.length co18)).setCell ⟨gb298, 1, none⟩ (.slice Ao20 t294.length co20))) := ⟨hB_⟩
    skip
    generalize ((w17.setCell ⟨gb298, 0, none⟩ (.slice Ao18 t291.length co18)).setCell ⟨gb298, 1, none⟩ (.slice Ao20 t294.length co20)) = w22 at n0_ n1_ n2_ n3_ n4_ n5_ n6_ ⊢
    have HO_3 := n0_
    have HO290 := n1_
    have HO293 := n2_
    have HO296 := n3_
    have BK283 := n4_
    have BK298 := n5_
    have HB := n6_
    clear n0_ n1_ n2_ n3_ n4_ n5_ n6_
    have hnb23 := NB298_283.out
    have hnc23 := NB283_298.out
    obtain ⟨hcz24_0, hcz24_1, hfz24_0, hfz24_1⟩ := c2_ BK298
    try go_wp2_with (first | ((with_reducible refine gate_builtin (b := .append) (xs := #[.tmp 22, .tmp 24]) rfl ?_); at_builtin; refine Kd.S_append k25 (w0 := w) w.heap.size rfl (.tmp 22) (.tmp 24) 36 25 (.agg #[(.slice none 0 0), (.slice none 0 0)]) 48 rfl Try.underlying36 info25 rfl (by decide) (by omega) u3 x3_1 (⟨t291, t294⟩ : S25) [.slice Ao18 t291.length co18, .slice Ao20 t294.length co20] (fun k_ => some k_ ≠ (v289 : Value).ownBlock ∧ k_ ≠ gb283 ∧ k_ ≠ gb298) (fun k_ => some k_ = (.slice Ao18 t291.length co18 : Value).ownBlock ∨ some k_ = (.slice Ao20 t294.length co20 : Value).ownBlock) rfl rfl ?aP (fun k_ hk_ => hk_.elim (fun h_ => ((Kd.R_mono (ok' := fun k_ => ((fun k_ => some k_ ≠ (v289 : Value).ownBlock ∧ k_ ≠ gb283 ∧ k_ ≠ gb298)) k_ ∧ some k_ ≠ (u3 : Value).ownBlock) (Kd.R_types (Kd.R_types (Kd.R_apart' (HO293.out) (Kd.S_typed HO_3.out) (by decide)) BK283.out (by decide)) BK298.out (by decide)) (fun k_ hk => ⟨⟨hk.1.1.1.1, ⟨hk.1.2, hk.2⟩⟩, hk.1.1.2⟩))).1 k_ h_.symm) (fun h_ => ((Kd.R_mono (ok' := fun k_ => ((fun k_ => some k_ ≠ (v289 : Value).ownBlock ∧ k_ ≠ gb283 ∧ k_ ≠ gb298)) k_ ∧ some k_ ≠ (u3 : Value).ownBlock) (Kd.R_types (Kd.R_types (Kd.R_apart' (HO296.out) (Kd.S_typed HO_3.out) (by decide)) BK283.out (by decide)) BK298.out (by decide)) (fun k_ hk => ⟨⟨hk.1.1.1.1, ⟨hk.1.2, hk.2⟩⟩, hk.1.1.2⟩))).1 k_ h_.symm)) ?aF ?aO ?aB ?aS ?aL ?_; (case aP => exact k25_mkM _ _ _ (⟨t291, t294⟩ : S25) (Kd.R_mono (Kd.R_tight rfl (Kd.R_mono (ok' := fun k_ => ((fun k_ => some k_ ≠ (v289 : Value).ownBlock ∧ k_ ≠ gb283 ∧ k_ ≠ gb298)) k_ ∧ some k_ ≠ (u3 : Value).ownBlock) (Kd.R_types (Kd.R_types (Kd.R_apart' (HO293.out) (Kd.S_typed HO_3.out) (by decide)) BK283.out (by decide)) BK298.out (by decide)) (fun k_ hk => ⟨⟨hk.1.1.1.1, ⟨hk.1.2, hk.2⟩⟩, hk.1.1.2⟩))) (fun _ h_ => Or.inl h_)) (Kd.R_mono (Kd.R_tight rfl (Kd.R_mono (ok' := fun k_ => ((fun k_ => some k_ ≠ (v289 : Value).ownBlock ∧ k_ ≠ gb283 ∧ k_ ≠ gb298)) k_ ∧ some k_ ≠ (u3 : Value).ownBlock) (Kd.R_types (Kd.R_types (Kd.R_apart' (HO296.out) (Kd.S_typed HO_3.out) (by decide)) BK283.out (by decide)) BK298.out (by decide)) (fun k_ hk => ⟨⟨hk.1.1.1.1, ⟨hk.1.2, hk.2⟩⟩, hk.1.1.2⟩))) (fun _ h_ => Or.inr (h_))) (fun k_ h_ e_ => (HO293.out.1 k_ h_).2 e_.symm)); (case aB => exact hB_); (case aF => exact (fun k_ hk => ⟨Kd.fresh' (Kd.R_lt (rr_ HO290)) k_ hk, Kd.freshB (kk_ BK283) k_ hk, Kd.freshB (kk_ BK298) k_ hk⟩)); (case aO => exact (sw_ (Kd.S_mono HO_3.out (fun k_ hk => ⟨⟨hk.1, ⟨hk.2.2.2.1, hk.2.2.2.2⟩⟩, fun e_ => e_.elim (fun h_ => hk.2.1 h_) (fun h_ => hk.2.2.1 h_)⟩)))); (case aS => exact (bF_ hB_)); (case aL => have := LMc9.out; omega); intro v300 w25 ho hb hg hat; rw [← Ny299.out] at ho; replace BK283 := A_ (blk_grown (kk_ BK283) hg (Kd.S_away HO_3.out (fun _ hk => hk.2.2.2.1))); replace HO290 := A_ (Kd.R_over' (rr_ HO290) (Kd.S_typed (ss_ HO_3)) (by decide) hg); replace BK298 := A_ (blk_grown (kk_ BK298) hg (Kd.S_away HO_3.out (fun _ hk => hk.2.2.2.2))); replace HB := A_ hb; have HO301 := A_ ho; clear HO_3 HO293 HO296; clear ho hb hg hat))
    go_roundg k1
    case measure => have := HK1.out; omega
    case rel => exact ⟨(y299), (wrap64 (x4_1 + 1)), qc_, H', ⟨by have := HK1.out; omega⟩, ⟨(sw_ (Kd.S_mono HO301.out (fun _ hk => hk.2.1)))⟩, ⟨(kk_ BK283)⟩, ⟨hB_⟩⟩
   ·rw [if_neg c6] at H
    have c6b0 := oD_ c6
    clear c6
    obtain rfl := Option.some.inj H
    obtain ⟨hcz26_0, hcz26_1, hfz26_0, hfz26_1⟩ := c2_ BK283
    go_wp2_with (first | ((with_reducible refine gA_ (f := 112) rfl ?_); refine gL_ (some 10) Try.func112 #[.agg #[.slice A0_0 l0_0.length c0_0, .slice A0_1 l0_1.length c0_1]] rfl qa_ ?_; (with_reducible refine (Z13.calls k1 _ _ l0_0 _ _ l0_1 t287 _ (cb_ HR0_0) HC0_0.out (cb_ HR0_1) HC0_1.out A5.out).mono ?_); rintro e w27 ⟨rfl, hb⟩; refine ⟨_, rfl, ?_⟩; replace HO_3 := sb_ HO_3 hb; replace BK283 := bb_ BK283 hb; replace HB := b1_ hb; clear hb))
    go_ret
    exact ⟨_, qb_, (sw_ (Kd.S_mono HO_3.out (fun _ hk => trivial))), hB_⟩
def Z32.f (a0 : Int) : Option (Bool) := some (a0 != a0)
set_option maxHeartbeats 8000000 in
set_option maxRecDepth 100000 in
theorem Z32.calls (a0 : Int) (r : Bool) (w : World) (h : Z32.f a0 = some r) :
  Calls Try.prog 162 #[.int .i64 a0] w fun e w' => e = .returned (.bool r) ∧ Drawn0 w w' := by
 have H := h
 unfold Z32.f at H
 clear h
 obtain rfl := Option.some.inj H
 go_enter Try.func162, Try.ntmps162
 go_wp2
 go_ret
 exact ⟨qc_, by repeat (first | exact Drawn0.refl _ | apply Drawn0.step)⟩
def Z25.f (a0 : Int) (a1 : Int) : Option (Int) := (Z32.f a0).bind fun t302 => ((Z32.f a1).bind fun t303 => (if t302 = true then (if t303 = true then (some 0) else (some (-1))) else (if t303 = true then (some 1) else (if a0 < a1 then (some (-1)) else (if a0 > a1 then (some 1) else (some 0))))))
set_option maxHeartbeats 8000000 in
set_option maxRecDepth 100000 in
theorem Z25.calls (a0 : Int) (a1 : Int) (r : Int) (w : World) (h : Z25.f a0 a1 = some r) :
  Calls Try.prog 145 #[.int .i64 a0, .int .i64 a1] w fun e w' => e = .returned (.int .i64 r) ∧ Drawn0 w w' := by
 have H := h
 unfold Z25.f at H
 clear h
 obtain ⟨t302, A3, H⟩ := bi_ H
 obtain ⟨t303, A4, H⟩ := bi_ H
 by_cases c5 : t302 = true
 ·subst c5
  rw [if_pos rfl] at H
  by_cases c6 : t303 = true
  ·subst c6
   rw [if_pos rfl] at H
   obtain rfl := Option.some.inj H
   go_enter Try.func145, Try.ntmps145
   go_wp2_with (first | ((with_reducible refine gA_ (f := 162) rfl ?_); refine gL_ (some 8) Try.func162 #[.int .i64 a0] rfl qa_ ?_; (with_reducible refine (Z32.calls a0 true _ A3.out).mono ?_); rintro e w' ⟨rfl, ⟨nd, rfl⟩⟩; refine ⟨_, rfl, ?_⟩) | ((with_reducible refine gA_ (f := 162) rfl ?_); refine gL_ (some 10) Try.func162 #[.int .i64 a1] rfl qa_ ?_; (with_reducible refine (Z32.calls a1 true _ A4.out).mono ?_); rintro e w' ⟨rfl, ⟨nd, rfl⟩⟩; refine ⟨_, rfl, ?_⟩))
   go_ret
   exact ⟨qc_, by repeat (first | exact Drawn0.refl _ | apply Drawn0.step)⟩
  ·replace c6 := Bool.eq_false_iff.mpr c6
   subst c6
   have H1 : (some (-1)) = some r := by rw [if_neg (show ¬ (false = true) by decide)] at H; exact H
   clear H
   have H := H1
   clear H1
   obtain rfl := Option.some.inj H
   go_enter Try.func145, Try.ntmps145
   go_wp2_with (first | ((with_reducible refine gA_ (f := 162) rfl ?_); refine gL_ (some 8) Try.func162 #[.int .i64 a0] rfl qa_ ?_; (with_reducible refine (Z32.calls a0 true _ A3.out).mono ?_); rintro e w' ⟨rfl, ⟨nd, rfl⟩⟩; refine ⟨_, rfl, ?_⟩) | ((with_reducible refine gA_ (f := 162) rfl ?_); refine gL_ (some 10) Try.func162 #[.int .i64 a1] rfl qa_ ?_; (with_reducible refine (Z32.calls a1 false _ A4.out).mono ?_); rintro e w' ⟨rfl, ⟨nd, rfl⟩⟩; refine ⟨_, rfl, ?_⟩))
   go_ret
   exact ⟨qc_, by repeat (first | exact Drawn0.refl _ | apply Drawn0.step)⟩
 ·replace c5 := Bool.eq_false_iff.mpr c5
  subst c5
  have H1 : (if t303 = true then (some 1) else (if a0 < a1 then (some (-1)) else (if a0 > a1 then (some 1) else (some 0)))) = some r := by rw [if_neg (show ¬ (false = true) by decide)] at H; exact H
  clear H
  have H := H1
  clear H1
  by_cases c7 : t303 = true
  ·subst c7
   rw [if_pos rfl] at H
   obtain rfl := Option.some.inj H
   go_enter Try.func145, Try.ntmps145
   go_wp2_with (first | ((with_reducible refine gA_ (f := 162) rfl ?_); refine gL_ (some 8) Try.func162 #[.int .i64 a0] rfl qa_ ?_; (with_reducible refine (Z32.calls a0 false _ A3.out).mono ?_); rintro e w' ⟨rfl, ⟨nd, rfl⟩⟩; refine ⟨_, rfl, ?_⟩) | ((with_reducible refine gA_ (f := 162) rfl ?_); refine gL_ (some 10) Try.func162 #[.int .i64 a1] rfl qa_ ?_; (with_reducible refine (Z32.calls a1 true _ A4.out).mono ?_); rintro e w' ⟨rfl, ⟨nd, rfl⟩⟩; refine ⟨_, rfl, ?_⟩))
   go_ret
   exact ⟨qc_, by repeat (first | exact Drawn0.refl _ | apply Drawn0.step)⟩
  ·replace c7 := Bool.eq_false_iff.mpr c7
   subst c7
   have H1 : (if a0 < a1 then (some (-1)) else (if a0 > a1 then (some 1) else (some 0))) = some r := by rw [if_neg (show ¬ (false = true) by decide)] at H; exact H
   clear H
   have H := H1
   clear H1
   by_cases c8 : a0 < a1
   ·rw [if_pos c8] at H
    have c8b0 := oC_ c8
    clear c8
    obtain rfl := Option.some.inj H
    go_enter Try.func145, Try.ntmps145
    go_wp2_with (first | ((with_reducible refine gA_ (f := 162) rfl ?_); refine gL_ (some 8) Try.func162 #[.int .i64 a0] rfl qa_ ?_; (with_reducible refine (Z32.calls a0 false _ A3.out).mono ?_); rintro e w' ⟨rfl, ⟨nd, rfl⟩⟩; refine ⟨_, rfl, ?_⟩) | ((with_reducible refine gA_ (f := 162) rfl ?_); refine gL_ (some 10) Try.func162 #[.int .i64 a1] rfl qa_ ?_; (with_reducible refine (Z32.calls a1 false _ A4.out).mono ?_); rintro e w' ⟨rfl, ⟨nd, rfl⟩⟩; refine ⟨_, rfl, ?_⟩))
    go_ret
    exact ⟨qc_, by repeat (first | exact Drawn0.refl _ | apply Drawn0.step)⟩
   ·rw [if_neg c8] at H
    have c8b0 := oD_ c8
    clear c8
    by_cases c9 : a0 > a1
    ·rw [if_pos c9] at H
     have c9b0 : decide (a1 < a0) = true := oC_ c9
     clear c9
     obtain rfl := Option.some.inj H
     go_enter Try.func145, Try.ntmps145
     go_wp2_with (first | ((with_reducible refine gA_ (f := 162) rfl ?_); refine gL_ (some 8) Try.func162 #[.int .i64 a0] rfl qa_ ?_; (with_reducible refine (Z32.calls a0 false _ A3.out).mono ?_); rintro e w' ⟨rfl, ⟨nd, rfl⟩⟩; refine ⟨_, rfl, ?_⟩) | ((with_reducible refine gA_ (f := 162) rfl ?_); refine gL_ (some 10) Try.func162 #[.int .i64 a1] rfl qa_ ?_; (with_reducible refine (Z32.calls a1 false _ A4.out).mono ?_); rintro e w' ⟨rfl, ⟨nd, rfl⟩⟩; refine ⟨_, rfl, ?_⟩))
     go_ret
     exact ⟨qc_, by repeat (first | exact Drawn0.refl _ | apply Drawn0.step)⟩
    ·rw [if_neg c9] at H
     have c9b0 : decide (a1 < a0) = false := oD_ c9
     clear c9
     obtain rfl := Option.some.inj H
     go_enter Try.func145, Try.ntmps145
     go_wp2_with (first | ((with_reducible refine gA_ (f := 162) rfl ?_); refine gL_ (some 8) Try.func162 #[.int .i64 a0] rfl qa_ ?_; (with_reducible refine (Z32.calls a0 false _ A3.out).mono ?_); rintro e w' ⟨rfl, ⟨nd, rfl⟩⟩; refine ⟨_, rfl, ?_⟩) | ((with_reducible refine gA_ (f := 162) rfl ?_); refine gL_ (some 10) Try.func162 #[.int .i64 a1] rfl qa_ ?_; (with_reducible refine (Z32.calls a1 false _ A4.out).mono ?_); rintro e w' ⟨rfl, ⟨nd, rfl⟩⟩; refine ⟨_, rfl, ?_⟩))
     go_ret
     exact ⟨qc_, by repeat (first | exact Drawn0.refl _ | apply Drawn0.step)⟩
def Z3.l0 : Nat → List Int → List Int → List Int → Int → Int → Option (Int)
 | 0, _, _, _, _, _ => none
 | k + 1, x0, x1, x9, x10, x11 => if x11 < x10 then (if 0 ≤ x11 then (if x11 < (x9.length : Int) then (if x11 ≥ (x1.length : Int) then (some 1) else (if x11 < (x1.length : Int) then ((Z25.f (rd x9 x11) (rd x1 x11)).bind fun t306 => (if t306 = 0 then (Z3.l0 k x0 x1 x9 x10 (wrap64 (x11 + 1))) else (some t306))) else (none))) else (none)) else (none)) else (if (x0.length : Int) < (x1.length : Int) then (some (-1)) else (some 0))
def Z3.f (k : Nat) (l0 : List Int) (l1 : List Int) : Option (Int) := Z3.l0 k l0 l1 l0 (l0.length : Int) 0
theorem Z3.mono_l : ∀ k, (∀ y0 y1 y2 y3 y4, LeO (Z3.l0 k y0 y1 y2 y3 y4) (Z3.l0 (k + 1) y0 y1 y2 y3 y4))
 | 0 => fun _ _ _ _ _ r h => by simp [Z3.l0] at h
 | k + 1 => by
  have ih0 := Z3.mono_l k
  ·intro y0 y1 y2 y3 y4
   unfold Z3.l0
   repeat' first|exact ih0 _ _ _ _ _|exact lo_|refine LeO.ite ?_ ?_|refine LeO.bind ?_ (fun _ => ?_)
theorem Z3.mono : ∀ a0 a1 k, LeO (Z3.f k a0 a1) (Z3.f (k + 1) a0 a1) := by
 intro a0 a1 k
 have ih0 := Z3.mono_l k
 unfold Z3.f
 repeat' first|exact ih0 _ _ _ _ _|exact lo_|refine LeO.ite ?_ ?_|refine LeO.bind ?_ (fun _ => ?_)
set_option maxHeartbeats 8000000 in
set_option maxRecDepth 100000 in
theorem Z3.calls (k : Nat) (A0 : Option Addr) (c0 : Nat) (l0 : List Int) (A1 : Option Addr) (c1 : Nat) (l1 : List Int) (r : Int) (w : World) (hr0 : Kd.C (Kd.int .i64) w A0 l0.length l0) (hc0 : l0.length ≤ c0) (hr1 : Kd.C (Kd.int .i64) w A1 l1.length l1) (hc1 : l1.length ≤ c1) (h : Z3.f k l0 l1 = some r) :
  Calls Try.prog 115 #[.slice A0 l0.length c0, .slice A1 l1.length c1] w fun e w' => e = .returned (.int .i64 r) ∧ Drawn0 w w' := by
 have HR0 := A_ hr0
 have HC0 := A_ hc0
 clear hr0 hc0
 have HR1 := A_ hr1
 have HC1 := A_ hc1
 clear hr1 hc1
 have H := h
 unfold Z3.f at H
 clear h
 have H' := A_ H
 clear H
 go_enter Try.func115, Try.ntmps115
 go_wp2
 go_loopg [11] k (fun kq v11 w' => ∃ (x11_1 : Int), v11 = .int .i64 x11_1 ∧ Aside0 (Z3.l0 kq l0 l1 l0 (l0.length : Int) x11_1 = some r) ∧ Aside0 (kq ≤ k) ∧ Drawn0 w w')
 case atStart => exact ⟨(0), qc_, H', ⟨nA_ _⟩, by repeat (first | exact Drawn0.refl _ | apply Drawn0.step)⟩
 case round =>
  clear H'
  obtain ⟨x11_1, rfl, HA, HK1, ⟨m1, rfl⟩⟩ := hrel
  cases gk with
  | zero => exact absurd HA.out (by simp [Z3.l0])
  | succ k1 =>
   have H := HA.out
   clear HA
   simp only [Z3.l0] at H
   by_cases c3 : x11_1 < (l0.length : Int)
   ·rw [if_pos c3] at H
    have c3b0 := oC_ c3
    clear c3
    have c4 := cp_ H
    replace H := ca_ H
    have c4b0 := oC_ c4
    clear c4
    have c5 := cp_ H
    replace H := ca_ H
    have c5b0 := oC_ c5
    clear c5
    by_cases c6 : x11_1 ≥ (l1.length : Int)
    ·rw [if_pos c6] at H
     have c6b0 : decide ((l1.length : Int) ≤ x11_1) = true := oC_ c6
     clear c6
     obtain rfl := Option.some.inj H
     have p304 : 0 ≤ (x11_1 : Int) := oB_ qe_
     have q304 : x11_1 < (l0.length : Int) := oB_ qe_
     obtain ⟨ad304, e304, hx304_0⟩ := Kd.at_int HR0.out x11_1 p304 q304
     cases e304
     replace p304 := eq_true p304
     replace q304 := eq_true q304
     go_wp2
     go_ret
     exact ⟨qc_, by repeat (first | exact Drawn0.refl _ | apply Drawn0.step)⟩
    ·rw [if_neg c6] at H
     have c6b0 : decide ((l1.length : Int) ≤ x11_1) = false := oD_ c6
     clear c6
     have c7 := cp_ H
     replace H := ca_ H
     have c7b0 := oC_ c7
     clear c7
     obtain ⟨t306, A8, H⟩ := bi_ H
     by_cases c9 : t306 = 0
     ·rw [if_pos c9] at H
      have c9b0 : (t306 == 0) = true := beq_iff_eq.mpr c9
      have c9b1 : (t306 != 0) = false := bne_eq_false_iff_eq.mpr c9
      clear c9
      have H' := A_ H
      clear H
      have p304 : 0 ≤ (x11_1 : Int) := oB_ qe_
      have q304 : x11_1 < (l0.length : Int) := oB_ qe_
      obtain ⟨ad304, e304, hx304_0⟩ := Kd.at_int HR0.out x11_1 p304 q304
      cases e304
      replace p304 := eq_true p304
      replace q304 := eq_true q304
      have p305 : 0 ≤ (x11_1 : Int) := oB_ qe_
      have q305 : x11_1 < (l1.length : Int) := oB_ qe_
      obtain ⟨ad305, e305, hx305_0⟩ := Kd.at_int HR1.out x11_1 p305 q305
      cases e305
      replace p305 := eq_true p305
      replace q305 := eq_true q305
      go_wp2_with (first | ((with_reducible refine gA_ (f := 145) rfl ?_); refine gL_ (some 26) Try.func145 #[.int .i64 (rd l0 x11_1), .int .i64 (rd l1 x11_1)] rfl qa_ ?_; (with_reducible refine (Z25.calls (rd l0 x11_1) (rd l1 x11_1) t306 _ A8.out).mono ?_); rintro e w' ⟨rfl, ⟨nd, rfl⟩⟩; refine ⟨_, rfl, ?_⟩))
      go_roundg k1
      case measure => have := HK1.out; omega
      case rel => exact ⟨(wrap64 (x11_1 + 1)), qc_, H', ⟨by have := HK1.out; omega⟩, by repeat (first | exact Drawn0.refl _ | apply Drawn0.step)⟩
     ·rw [if_neg c9] at H
      have c9b0 : (t306 == 0) = false := beq_eq_false_iff_ne.mpr c9
      have c9b1 : (t306 != 0) = true := bne_iff_ne.mpr c9
      obtain rfl := Option.some.inj H
      have p304 : 0 ≤ (x11_1 : Int) := oB_ qe_
      have q304 : x11_1 < (l0.length : Int) := oB_ qe_
      obtain ⟨ad304, e304, hx304_0⟩ := Kd.at_int HR0.out x11_1 p304 q304
      cases e304
      replace p304 := eq_true p304
      replace q304 := eq_true q304
      have p305 : 0 ≤ (x11_1 : Int) := oB_ qe_
      have q305 : x11_1 < (l1.length : Int) := oB_ qe_
      obtain ⟨ad305, e305, hx305_0⟩ := Kd.at_int HR1.out x11_1 p305 q305
      cases e305
      replace p305 := eq_true p305
      replace q305 := eq_true q305
      go_wp2_with (first | ((with_reducible refine gA_ (f := 145) rfl ?_); refine gL_ (some 26) Try.func145 #[.int .i64 (rd l0 x11_1), .int .i64 (rd l1 x11_1)] rfl qa_ ?_; (with_reducible refine (Z25.calls (rd l0 x11_1) (rd l1 x11_1) t306 _ A8.out).mono ?_); rintro e w' ⟨rfl, ⟨nd, rfl⟩⟩; refine ⟨_, rfl, ?_⟩))
      go_ret
      exact ⟨qc_, by repeat (first | exact Drawn0.refl _ | apply Drawn0.step)⟩
   ·rw [if_neg c3] at H
    have c3b0 := oD_ c3
    clear c3
    by_cases c10 : (l0.length : Int) < (l1.length : Int)
    ·rw [if_pos c10] at H
     have c10b0 := oC_ c10
     have c10b1 : decide (l0.length < l1.length) = true := oC_ (Int.ofNat_lt.mp c10)
     clear c10
     obtain rfl := Option.some.inj H
     go_wp2
     go_ret
     exact ⟨qc_, by repeat (first | exact Drawn0.refl _ | apply Drawn0.step)⟩
    ·rw [if_neg c10] at H
     have c10b0 := oD_ c10
     have c10b1 : decide (l0.length < l1.length) = false := oD_ (fun h => c10 (Int.ofNat_lt.mpr h))
     clear c10
     obtain rfl := Option.some.inj H
     go_wp2
     go_ret
     exact ⟨qc_, by repeat (first | exact Drawn0.refl _ | apply Drawn0.step)⟩
def Z4.f (k : Nat) (l0_0 : List Int) (l0_1 : List Int) (l1_0 : List Int) (l1_1 : List Int) : Option (Int) := (Z3.f k l0_0 l1_0).bind fun t309 => (if t309 = 0 then ((Z3.f k l0_1 l1_1).bind fun t310 => (some t310)) else (some t309))
theorem Z4.mono : ∀ a0 a1 a2 a3 k, LeO (Z4.f k a0 a1 a2 a3) (Z4.f (k + 1) a0 a1 a2 a3) := by
 intro a0 a1 a2 a3 k
 unfold Z4.f
 repeat' first|exact Z3.mono _ _ _|exact lo_|refine LeO.ite ?_ ?_|refine LeO.bind ?_ (fun _ => ?_)
set_option maxHeartbeats 8000000 in
set_option maxRecDepth 100000 in
theorem Z4.calls (k : Nat) (A0_0 : Option Addr) (c0_0 : Nat) (l0_0 : List Int) (A0_1 : Option Addr) (c0_1 : Nat) (l0_1 : List Int) (A1_0 : Option Addr) (c1_0 : Nat) (l1_0 : List Int) (A1_1 : Option Addr) (c1_1 : Nat) (l1_1 : List Int) (r : Int) (w : World) (hr0_0 : Kd.C (Kd.int .i64) w A0_0 l0_0.length l0_0) (hc0_0 : l0_0.length ≤ c0_0) (hr0_1 : Kd.C (Kd.int .i64) w A0_1 l0_1.length l0_1) (hc0_1 : l0_1.length ≤ c0_1) (hr1_0 : Kd.C (Kd.int .i64) w A1_0 l1_0.length l1_0) (hc1_0 : l1_0.length ≤ c1_0) (hr1_1 : Kd.C (Kd.int .i64) w A1_1 l1_1.length l1_1) (hc1_1 : l1_1.length ≤ c1_1) (h : Z4.f k l0_0 l0_1 l1_0 l1_1 = some r) :
  Calls Try.prog 77 #[.agg #[.slice A0_0 l0_0.length c0_0, .slice A0_1 l0_1.length c0_1], .agg #[.slice A1_0 l1_0.length c1_0, .slice A1_1 l1_1.length c1_1]] w fun e w' => e = .returned (.int .i64 r) ∧ Below w.heap.size w w' := by
 have hu25 := Try.underlying25
 have HR0_0 := A_ hr0_0
 have HC0_0 := A_ hc0_0
 clear hr0_0 hc0_0
 have HR0_1 := A_ hr0_1
 have HC0_1 := A_ hc0_1
 clear hr0_1 hc0_1
 have HR1_0 := A_ hr1_0
 have HC1_0 := A_ hc1_0
 clear hr1_0 hc1_0
 have HR1_1 := A_ hr1_1
 have HC1_1 := A_ hc1_1
 clear hr1_1 hc1_1
 have HB := A_ (Below.refl w.heap.size w)
 have H := h
 unfold Z4.f at H
 clear h
 obtain ⟨t309, A3, H⟩ := bi_ H
 by_cases c4 : t309 = 0
 ·rw [if_pos c4] at H
  have c4b0 : (t309 == 0) = true := beq_iff_eq.mpr c4
  have c4b1 : (t309 != 0) = false := bne_eq_false_iff_eq.mpr c4
  clear c4
  obtain ⟨t310, A5, H⟩ := bi_ H
  obtain rfl := Option.some.inj H
  go_enter Try.func77, Try.ntmps77
  go_wp2_with (first | ((with_reducible refine gB_ (N := 2) rfl ?_); refine bx_ 2 #[.slice A0_0 l0_0.length c0_0, .slice A0_1 l0_1.length c0_1] 25 ?_; intro gb307 hg w6 hbox hb; have BK307 := A_ hbox; have GW307 := gw_ w hg; have GE307 := GW307; replace HB := b1_ hb; clear hb hbox hg) | ((with_reducible refine gB_ (N := 3) rfl ?_); refine bx_ 3 #[.slice A1_0 l1_0.length c1_0, .slice A1_1 l1_1.length c1_1] 25 ?_; intro gb308 hg w7 hbox hb; have BK308 := A_ hbox; have GW308 := gw_ w hg; have GE308 := GW308; replace HB := b1_ hb; have NB307_308 := gN_ BK307 hg; have NB308_307 := gP_ BK307 hg; replace BK307 := bb_ BK307 hb; clear hb hbox hg; have hnb8 := NB307_308.out; have hnc8 := NB308_307.out; obtain ⟨hcz9_0, hcz9_1, hfz9_0, hfz9_1⟩ := c2_ BK307; obtain ⟨hcz10_0, hcz10_1, hfz10_0, hfz10_1⟩ := c2_ BK308) | ((with_reducible refine gA_ (f := 115) rfl ?_); refine gL_ (some 10) Try.func115 #[.slice A0_0 l0_0.length c0_0, .slice A1_0 l1_0.length c1_0] rfl qa_ ?_; (with_reducible refine (Z3.calls k _ _ l0_0 _ _ l1_0 t309 _ (cb_ HR0_0) HC0_0.out (cb_ HR1_0) HC1_0.out A3.out).mono ?_); rintro e w' ⟨rfl, ⟨nd, rfl⟩⟩; refine ⟨_, rfl, ?_⟩) | ((with_reducible refine gA_ (f := 115) rfl ?_); refine gL_ (some 18) Try.func115 #[.slice A0_1 l0_1.length c0_1, .slice A1_1 l1_1.length c1_1] rfl qa_ ?_; (with_reducible refine (Z3.calls k _ _ l0_1 _ _ l1_1 t310 _ (cw_ (cD_ HR0_1.out hB_)) HC0_1.out (cw_ (cD_ HR1_1.out hB_)) HC1_1.out A5.out).mono ?_); rintro e w' ⟨rfl, ⟨nd, rfl⟩⟩; refine ⟨_, rfl, ?_⟩))
  go_ret
  exact ⟨qb_, hB_⟩
 ·rw [if_neg c4] at H
  have c4b0 : (t309 == 0) = false := beq_eq_false_iff_ne.mpr c4
  have c4b1 : (t309 != 0) = true := bne_iff_ne.mpr c4
  obtain rfl := Option.some.inj H
  go_enter Try.func77, Try.ntmps77
  go_wp2_with (first | ((with_reducible refine gB_ (N := 2) rfl ?_); refine bx_ 2 #[.slice A0_0 l0_0.length c0_0, .slice A0_1 l0_1.length c0_1] 25 ?_; intro gb307 hg w11 hbox hb; have BK307 := A_ hbox; have GW307 := gw_ w hg; have GE307 := GW307; replace HB := b1_ hb; clear hb hbox hg) | ((with_reducible refine gB_ (N := 3) rfl ?_); refine bx_ 3 #[.slice A1_0 l1_0.length c1_0, .slice A1_1 l1_1.length c1_1] 25 ?_; intro gb308 hg w12 hbox hb; have BK308 := A_ hbox; have GW308 := gw_ w hg; have GE308 := GW308; replace HB := b1_ hb; have NB307_308 := gN_ BK307 hg; have NB308_307 := gP_ BK307 hg; replace BK307 := bb_ BK307 hb; clear hb hbox hg; have hnb13 := NB307_308.out; have hnc13 := NB308_307.out; obtain ⟨hcz14_0, hcz14_1, hfz14_0, hfz14_1⟩ := c2_ BK307; obtain ⟨hcz15_0, hcz15_1, hfz15_0, hfz15_1⟩ := c2_ BK308) | ((with_reducible refine gA_ (f := 115) rfl ?_); refine gL_ (some 10) Try.func115 #[.slice A0_0 l0_0.length c0_0, .slice A1_0 l1_0.length c1_0] rfl qa_ ?_; (with_reducible refine (Z3.calls k _ _ l0_0 _ _ l1_0 t309 _ (cb_ HR0_0) HC0_0.out (cb_ HR1_0) HC1_0.out A3.out).mono ?_); rintro e w' ⟨rfl, ⟨nd, rfl⟩⟩; refine ⟨_, rfl, ?_⟩))
  go_ret
  exact ⟨qb_, hB_⟩
def Z27.l0 : Nat → List (S25) → Int → List Int → List Int → Option (List Int × List Int)
 | 0, _, _, _, _ => none
 | k + 1, x0, x6, x314000, x314001 => if x6 < (x0.length : Int) then (if 0 ≤ x6 then ((Z4.f k ((rd_T25 x0 x6).f0) ((rd_T25 x0 x6).f1) x314000 x314001).bind fun t315 => (if t315 < 0 then (Z27.l0 k x0 (wrap64 (x6 + 1)) ((rd_T25 x0 x6).f0) ((rd_T25 x0 x6).f1)) else (Z27.l0 k x0 (wrap64 (x6 + 1)) x314000 x314001))) else (none)) else (some (x314000, x314001))
def Z27.f (k : Nat) (l0 : List (S25)) : Option (List Int × List Int) := if (l0.length : Int) < 1 then (none) else (if 0 < (l0.length : Int) then (Z27.l0 k l0 1 ((rd_T25 l0 0).f0) ((rd_T25 l0 0).f1)) else (none))
theorem Z27.mono_l : ∀ k, (∀ y0 y1 y2 y3, LeO (Z27.l0 k y0 y1 y2 y3) (Z27.l0 (k + 1) y0 y1 y2 y3))
 | 0 => fun _ _ _ _ r h => by simp [Z27.l0] at h
 | k + 1 => by
  have ih0 := Z27.mono_l k
  ·intro y0 y1 y2 y3
   unfold Z27.l0
   repeat' first|exact ih0 _ _ _ _|exact Z4.mono _ _ _ _ _|exact lo_|refine LeO.ite ?_ ?_|refine LeO.bind ?_ (fun _ => ?_)
theorem Z27.mono : ∀ a0 k, LeO (Z27.f k a0) (Z27.f (k + 1) a0) := by
 intro a0 k
 have ih0 := Z27.mono_l k
 unfold Z27.f
 repeat' first|exact ih0 _ _ _ _|exact Z4.mono _ _ _ _ _|exact lo_|refine LeO.ite ?_ ?_|refine LeO.bind ?_ (fun _ => ?_)
def Z27.T7 : Bool × List (List Nat × List Nat) := (true, [([], []), ([], []), ([], []), ([1, 2], [1, 2]), ([3], [3]), ([], []), ([0, 4, 5], [0, 4, 5]), ([6], [6])])
def Z27.B7 : List Nat := [0, 0, 0, 6, 14, 0, 63, 127]
theorem Z27.tab7 : rtab .any (opsOf Try.f76 7) = Z27.T7 := by kernel_rfl
theorem Z27.bits7 : waitsOk Z27.T7.2 Z27.B7 = true := by kernel_rfl
def AtJ (w : World) (l0 : List S25) (A : Option Addr) (u0 u1 : Value) (x0 x1 : List Int) : Prop := ∃ (ad : Addr) (j : Nat), A = some ad ∧ j < l0.length ∧ w.cell? (ad.add (j * 2)) = some u0 ∧ w.cell? ⟨(ad.add (j * 2)).block, (ad.add (j * 2)).off + 1, none⟩ = some u1 ∧ x0 = (rd_T25 l0 (j : Int)).f0 ∧ x1 = (rd_T25 l0 (j : Int)).f1
theorem atJ_of {w w' : World} {P : Nat → Prop} {b : Nat} {ad : Addr} {c : Nat} {l0 : List S25} (hs0 : Kd.V k25 25 w b P (.slice (some ad) l0.length c) l0) (hB : Below w.heap.size w w') (i : Int) (h0 : 0 ≤ i) (h1 : i < (l0.length : Int)) {u0 u1 : Value} (hx0 : w'.cell? (ad.add (i.toNat * 2)) = some u0) (hx1 : w'.cell? ⟨(ad.add (i.toNat * 2)).block, (ad.add (i.toNat * 2)).off + 1, none⟩ = some u1) : AtJ w l0 (some ad) u0 u1 (rd_T25 l0 i).f0 (rd_T25 l0 i).f1 := by
 obtain ⟨ad', A0, c0, A1, c1, e, y0, y1, _⟩ := at_T25 (Kd.V_reads' hs0).2.2 i h0 h1
 injection e with e
 subst e
 have z0 := hB.cell (World.block_lt_of_cell? w _ y0)
 have z1 := hB.cell (World.block_lt_of_cell? w _ y1)
 have e : ((i.toNat : Nat) : Int) = i := Int.toNat_of_nonneg h0
 exact ⟨ad, i.toNat, rfl, by omega, z0.symm.trans hx0, z1.symm.trans hx1, by rw [e], by rw [e]⟩
theorem atJ_own {w w' : World} {base : Nat} {ok : Nat → Prop} {A : Option Addr} {c : Nat} {l0 : List S25} {u0 u1 : Value} {x0 x1 : List Int} (hS : Kd.S k25 25 w base ok (.slice A l0.length c) l0) (hJ : AtJ w l0 A u0 u1 x0 x1) (hB : Below w.heap.size w w') : Kd.R (Kd.int .i64) 3 w' base ok u0 x0 ∧ Kd.R (Kd.int .i64) 3 w' base ok u1 x1 ∧ NeRow u0 u1 := by
 obtain ⟨ad, j, rfl, hj, h0, h1, rfl, rfl⟩ := hJ
 obtain ⟨c, hcl, hM, hc⟩ := Kd.R_getA (Kd.S_R hS) z25 (j : Int) (by omega) (by omega)
 have hc' : ∀ i u, c[i]? = some u → w.cell? (ad.add (j * 2 + i)) = some u := hc
 obtain ⟨v0, v1, rfl, g0, g1, ne⟩ := k25_openN hM
 have e0 := hc' 0 v0 rfl
 have e1 := hc' 1 v1 rfl
 rw [add_field _ _ 1 (by omega)] at e1
 rw [Nat.add_zero] at e0
 obtain rfl : u0 = v0 := Option.some.inj (h0.symm.trans e0)
 obtain rfl : u1 = v1 := Option.some.inj (h1.symm.trans e1)
 exact ⟨Kd.R_mono (rD_ g0 hB) (fun _ h => h.1), Kd.R_mono (rD_ g1 hB) (fun _ h => h.1), ne⟩
set_option maxHeartbeats 8000000 in
set_option maxRecDepth 100000 in
theorem Z27.calls (k : Nat) (P0_ : Nat → Prop) (A0 : Option Addr) (c0 : Nat) (l0 : List (S25)) (r1 : List Int) (r2 : List Int) (w : World) (hs0 : Kd.V k25 25 w w.heap.size (fun k_ => P0_ k_) (.slice A0 l0.length c0) l0) (h : Z27.f k l0 = some (r1, r2)) :
  Calls Try.prog 76 #[.slice A0 l0.length c0, .func (.func 77) #[] #[]] w fun e w' => ∃ v0_ v1_ : Value, e = .returned (.agg #[v0_, v1_]) ∧ Kd.V (Kd.int .i64) 3 w' w.heap.size (fun k_ => (P0_ k_ ∨ w.heap.size ≤ k_)) v0_ r1 ∧ Kd.V (Kd.int .i64) 3 w' w.heap.size (fun k_ => (P0_ k_ ∨ w.heap.size ≤ k_)) v1_ r2 ∧ Below w.heap.size w w' ∧ AtJ w l0 A0 v0_ v1_ r1 r2 := by
 have HS0 := A_ hs0
 have hu25 := Try.underlying25
 have HO0 := A_ (show Kd.V k25 25 w w.heap.size (fun k_ => (P0_ k_ ∨ w.heap.size ≤ k_)) (.slice A0 l0.length c0) l0 from Kd.V_mono hs0 (fun k_ hk => .inl hk))
 have HB := A_ (Below.refl w.heap.size w)
 have H := h
 unfold Z27.f at H
 clear h
 by_cases c2 : (l0.length : Int) < 1
 ·rw [if_pos c2] at H
  exact absurd H (by simp)
 ·rw [if_neg c2] at H
  have c2b0 := oD_ c2
  have c2b1 : decide (l0.length < 1) = false := oD_ (by omega)
  clear c2
  have c3 := cp_ H
  replace H := ca_ H
  have c3b0 := oC_ c3
  have c3b1 : decide (0 < l0.length) = true := oC_ (by omega)
  clear c3
  have H' := A_ H
  clear H
  go_enter Try.func76, Try.ntmps76
  go_wp2_with (first | ((with_reducible refine gB_ (N := 4) rfl ?_); refine bx_ 4 #[.slice none 0 0, .slice none 0 0] 25 ?_; intro gb311 hg w4 hbox hb; replace HO0 := A_ (Kd.V_below (Kd.V_elderB (by (with_reducible repeat (first | apply Kd.V_alloc | apply Kd.V_drewN | apply Kd.V_drew)); exact HO0.out) gb311 (Nat.le_of_eq hg.symm)) hb); have BK311 := A_ hbox; have GW311 := gw_ w hg; have GE311 := GW311; replace HB := b1_ hb; clear hb hbox hg; have p312 : 0 ≤ (0 : Int) := (by omega); have q312 : 0 < (l0.length : Int) := oB_ qe_; obtain ⟨ad312, A312_0, c312_0, A312_1, c312_1, e312, hx312_0, hx312_1, hl312_0, hi312_0, hl312_1, hi312_1⟩ := at_T25 (Kd.V_reads' HO0.out).2.2 0 p312 q312; cases e312; obtain ⟨ce312, hce312, hMe312, hcc312⟩ := Kd.V_get HO0.out z25 0 p312 (by first | exact q312 | exact oB_ qe_ | (have e_ := (Kd.V_reads' HO0.out).1; omega)); obtain ⟨ua312_0, uc312_0, ua312_1, uc312_1, rfl, ul312_0, ge312_0, ul312_1, ge312_1⟩ := k25_openF hMe312; have hv312_0 := hcc312 0 _ rfl; rw [Nat.add_zero] at hv312_0; replace hv312_0 := Option.some.inj (hv312_0.symm.trans hx312_0); injection hv312_0 with hva_ hvn_ hvc_; rw [hva_] at ge312_0; rw [hvc_] at ul312_0; have HL312_0 := A_ (show Kd.V (Kd.int .i64) 3 _ w.heap.size _ _ ((rd_T25 l0 0).f0) from Kd.V_mk ul312_0 ge312_0); clear hva_ hvn_ hvc_ ge312_0 ul312_0; have hv312_1 := hcc312 1 _ rfl; rw [add_field _ _ 1 (by omega)] at hv312_1; replace hv312_1 := Option.some.inj (hv312_1.symm.trans hx312_1); injection hv312_1 with hva_ hvn_ hvc_; rw [hva_] at ge312_1; rw [hvc_] at ul312_1; have HL312_1 := A_ (show Kd.V (Kd.int .i64) 3 _ w.heap.size _ _ ((rd_T25 l0 0).f1) from Kd.V_mk ul312_1 ge312_1); clear hva_ hvn_ hvc_ ge312_1 ul312_1; clear hcc312 hce312; have HJ := A_ (atJ_of HS0.out hB_ 0 p312 q312 hx312_0 hx312_1); have qi312 : (0 < l0.length) = True := eq_true (by omega); (try rw [show ((0 : Int)).toNat = 0 from rfl] at hx312_0); (try rw [show 0 * 2 = 0 from rfl] at hx312_0); (try rw [Addr.add_zero'] at hx312_0); (try rw [show ((0 : Int)).toNat = 0 from rfl] at hx312_1); (try rw [show 0 * 2 = 0 from rfl] at hx312_1); (try rw [Addr.add_zero'] at hx312_1); have HR312_0 := A_ hi312_0; have HC312_0 := A_ hl312_0; clear hi312_0 hl312_0; have HR312_1 := A_ hi312_1; have HC312_1 := A_ hl312_1; clear hi312_1 hl312_1; replace p312 := eq_true p312; replace q312 := eq_true q312) | ((with_reducible refine gB_ (N := 5) rfl ?_); refine bx_ 5 #[.slice none 0 0, .slice none 0 0] 25 ?_; intro gb313 hg w5 hbox hb; replace HO0 := A_ (Kd.V_below (Kd.V_elderB (by (with_reducible repeat (first | apply Kd.V_alloc | apply Kd.V_drewN | apply Kd.V_drew)); exact HO0.out) gb313 (Nat.le_of_eq hg.symm)) hb); replace HL312_0 := A_ (Kd.V_below (Kd.V_elderB (by (with_reducible repeat (first | apply Kd.V_alloc | apply Kd.V_drewN | apply Kd.V_drew)); exact HL312_0.out) gb313 (Nat.le_of_eq hg.symm)) hb); replace HL312_1 := A_ (Kd.V_below (Kd.V_elderB (by (with_reducible repeat (first | apply Kd.V_alloc | apply Kd.V_drewN | apply Kd.V_drew)); exact HL312_1.out) gb313 (Nat.le_of_eq hg.symm)) hb); have BK313 := A_ hbox; have GW313 := gw_ w hg; have GE313 := GW313; replace HB := b1_ hb; have NB311_313 := gN_ BK311 hg; have NB313_311 := gP_ BK311 hg; replace BK311 := bb_ BK311 hb; clear hb hbox hg; have hnb6 := NB313_311.out; have hnc6 := NB311_313.out; obtain ⟨hcz7_0, hcz7_1, hfz7_0, hfz7_1⟩ := c2_ BK313))
  go_loopg [6] k (fun kq v6 w' => ∃ (x6_1 : Int) (x314000_1 : List Int) (x314001_1 : List Int) (u314000 : Value) (u314001 : Value), v6 = .int .i64 x6_1 ∧ Aside0 (Z27.l0 kq l0 x6_1 x314000_1 x314001_1 = some (r1, r2)) ∧ Aside0 (kq ≤ k) ∧ Aside0 (Kd.V k25 25 w' w.heap.size (fun k_ => (P0_ k_ ∨ w.heap.size ≤ k_) ∧ k_ ≠ gb311 ∧ k_ ≠ gb313) (.slice (some ad312) l0.length c0) l0) ∧ Aside0 (Kd.V (Kd.int .i64) 3 w' w.heap.size (fun k_ => (P0_ k_ ∨ w.heap.size ≤ k_) ∧ k_ ≠ gb311 ∧ k_ ≠ gb313) u314000 x314000_1) ∧ Aside0 (Kd.V (Kd.int .i64) 3 w' w.heap.size (fun k_ => (P0_ k_ ∨ w.heap.size ≤ k_) ∧ k_ ≠ gb311 ∧ k_ ≠ gb313) u314001 x314001_1) ∧ Aside0 (w'.heap[gb311]? = some (.cells #[(.slice none 0 0), (.slice none 0 0)] 25 (0, 0))) ∧ Aside0 (w'.heap[gb313]? = some (.cells #[u314000, u314001] 25 (0, 0))) ∧ Aside0 (Below w.heap.size w w') ∧ Aside0 (AtJ w l0 (some ad312) u314000 u314001 x314000_1 x314001_1))
  case atStart => exact ⟨(1), ((rd_T25 l0 0).f0), ((rd_T25 l0 0).f1), (.slice A312_0 ((rd_T25 l0 0).f0).length c312_0), (.slice A312_1 ((rd_T25 l0 0).f1).length c312_1), qc_, H', ⟨nA_ _⟩, ⟨by (with_reducible repeat (first | apply Kd.V_alloc | apply Kd.V_drewN | apply Kd.V_drew)); exact Kd.V_mono (Kd.V_far (p := ⟨gb313, 1, none⟩) (Kd.V_far (p := ⟨gb313, 0, none⟩) (Kd.V_mono HO0.out (fun k_ hk => (⟨hk, hk.2⟩ : _ ∧ k_ ≠ gb313))) (fun _ hk => hk.2) (.slice A312_0 ((rd_T25 l0 0).f0).length c312_0)) (fun _ hk => hk.2) (.slice A312_1 ((rd_T25 l0 0).f1).length c312_1)) (fun _ hk => ⟨hk.1.1.1, ⟨hk.1.1.2, hk.1.2⟩⟩)⟩, ⟨by (with_reducible repeat (first | apply Kd.V_alloc | apply Kd.V_drewN | apply Kd.V_drew)); exact Kd.V_mono (Kd.V_far (p := ⟨gb313, 1, none⟩) (Kd.V_far (p := ⟨gb313, 0, none⟩) (Kd.V_mono HL312_0.out (fun k_ hk => (⟨hk, hk.2⟩ : _ ∧ k_ ≠ gb313))) (fun _ hk => hk.2) (.slice A312_0 ((rd_T25 l0 0).f0).length c312_0)) (fun _ hk => hk.2) (.slice A312_1 ((rd_T25 l0 0).f1).length c312_1)) (fun _ hk => ⟨hk.1.1.1, ⟨hk.1.1.2, hk.1.2⟩⟩)⟩, ⟨by (with_reducible repeat (first | apply Kd.V_alloc | apply Kd.V_drewN | apply Kd.V_drew)); exact Kd.V_mono (Kd.V_far (p := ⟨gb313, 1, none⟩) (Kd.V_far (p := ⟨gb313, 0, none⟩) (Kd.V_mono HL312_1.out (fun k_ hk => (⟨hk, hk.2⟩ : _ ∧ k_ ≠ gb313))) (fun _ hk => hk.2) (.slice A312_0 ((rd_T25 l0 0).f0).length c312_0)) (fun _ hk => hk.2) (.slice A312_1 ((rd_T25 l0 0).f1).length c312_1)) (fun _ hk => ⟨hk.1.1.1, ⟨hk.1.1.2, hk.1.2⟩⟩)⟩, ⟨by (with_reducible repeat (first | refine kA_ ?_ _ | refine kB_ ?_ | refine kC_ ?_ _)); refine blk_far ?_ NB311_313.out _; (with_reducible repeat (first | refine kA_ ?_ _ | refine kB_ ?_ | refine kC_ ?_ _)); refine blk_far ?_ NB311_313.out _; (with_reducible repeat (first | refine kA_ ?_ _ | refine kB_ ?_ | refine kC_ ?_ _)); exact BK311.out⟩, ⟨qp_⟩, ⟨hB_⟩, HJ⟩
  case round =>
   clear H'
   obtain ⟨x6_1, x314000_1, x314001_1, u314000, u314001, rfl, HA, HK1, HO_0, HO_314000, HO_314001, BK311, BK313, HB, HJ⟩ := hrel
   cases gk with
   | zero => exact absurd HA.out (by simp [Z27.l0])
   | succ k1 =>
    have H := HA.out
    clear HA
    simp only [Z27.l0] at H
    by_cases c8 : x6_1 < (l0.length : Int)
    ·rw [if_pos c8] at H
     have c8b0 := oC_ c8
     clear c8
     have c9 := cp_ H
     replace H := ca_ H
     have c9b0 := oC_ c9
     clear c9
     obtain ⟨t315, A10, H⟩ := bi_ H
     by_cases c11 : t315 < 0
     ·rw [if_pos c11] at H
      have c11b0 := oC_ c11
      clear c11
      have H' := A_ H
      clear H
      try go_wp2
      replace HO_0 := A_ (Kd.V_drew HO_0.out)
      replace HO_314000 := A_ (Kd.V_drew HO_314000.out)
      replace HO_314001 := A_ (Kd.V_drew HO_314001.out)
      replace BK311 := A_ (kB_ BK311.out)
      replace BK313 := A_ (kB_ BK313.out)
      replace HB := A_ (bC_ HB.out)
      have p314 : 0 ≤ (x6_1 : Int) := oB_ qe_
      have q314 : x6_1 < (l0.length : Int) := oB_ qe_
      obtain ⟨ad314, A314_0, c314_0, A314_1, c314_1, e314, hx314_0, hx314_1, hl314_0, hi314_0, hl314_1, hi314_1⟩ := at_T25 (Kd.V_reads' HO_0.out).2.2 x6_1 p314 q314
      obtain rfl : ad312 = ad314 := (by injection e314)
      obtain ⟨ce314, hce314, hMe314, hcc314⟩ := Kd.V_get HO_0.out z25 x6_1 p314 (by first | exact q314 | exact oB_ qe_ | (have e_ := (Kd.V_reads' HO_0.out).1; omega))
      obtain ⟨ua314_0, uc314_0, ua314_1, uc314_1, rfl, ul314_0, ge314_0, ul314_1, ge314_1⟩ := k25_openF hMe314
      have hv314_0 := hcc314 0 _ rfl
      rw [Nat.add_zero] at hv314_0
      replace hv314_0 := Option.some.inj (hv314_0.symm.trans hx314_0)
      injection hv314_0 with hva_ hvn_ hvc_
      rw [hva_] at ge314_0
      rw [hvc_] at ul314_0
      have HL314_0 := A_ (show Kd.V (Kd.int .i64) 3 _ w.heap.size _ _ ((rd_T25 l0 x6_1).f0) from Kd.V_mk ul314_0 ge314_0)
      clear hva_ hvn_ hvc_ ge314_0 ul314_0
      have hv314_1 := hcc314 1 _ rfl
      rw [add_field _ _ 1 (by omega)] at hv314_1
      replace hv314_1 := Option.some.inj (hv314_1.symm.trans hx314_1)
      injection hv314_1 with hva_ hvn_ hvc_
      rw [hva_] at ge314_1
      rw [hvc_] at ul314_1
      have HL314_1 := A_ (show Kd.V (Kd.int .i64) 3 _ w.heap.size _ _ ((rd_T25 l0 x6_1).f1) from Kd.V_mk ul314_1 ge314_1)
      clear hva_ hvn_ hvc_ ge314_1 ul314_1
      clear hcc314 hce314
      have HJ314 := A_ (atJ_of HS0.out hB_ x6_1 p314 q314 hx314_0 hx314_1)
      have HR314_0 := A_ hi314_0
      have HC314_0 := A_ hl314_0
      clear hi314_0 hl314_0
      have HR314_1 := A_ hi314_1
      have HC314_1 := A_ hl314_1
      clear hi314_1 hl314_1
      replace p314 := eq_true p314
      replace q314 := eq_true q314
      obtain ⟨Ao13, co13, eo13⟩ := Kd.V_slice HO_314000.out
      (first | subst eo13 | (injection eo13 with f1_ f2_ f3_; have f4_ := f1_.symm; have f5_ := f3_.symm; clear f1_ f2_ f3_; subst f4_; subst f5_))
      obtain ⟨Ao14, co14, eo14⟩ := Kd.V_slice HO_314001.out
      (first | subst eo14 | (injection eo14 with f1_ f2_ f3_; have f4_ := f1_.symm; have f5_ := f3_.symm; clear f1_ f2_ f3_; subst f4_; subst f5_))
      refine start_ (n := 8) (S := fun w' => w'.cell? ⟨gb313, 0, none⟩ = some (.slice Ao13 x314000_1.length co13) ∧ w'.cell? ⟨gb313, 1, none⟩ = some (.slice Ao14 x314001_1.length co14) ∧ w'.cell? (ad312.add ((x6_1).toNat * 2)) = some (.slice A314_0 ((rd_T25 l0 x6_1).f0).length c314_0) ∧ w'.cell? ⟨(ad312.add ((x6_1).toNat * 2)).block, (ad312.add ((x6_1).toNat * 2)).off + 1, none⟩ = some (.slice A314_1 ((rd_T25 l0 x6_1).f1).length c314_1)) (ds := []) (bl_ 8 0) (by kernel_rfl) rfl (by kernel_rfl) ⟨cz0_ BK313, cz1_ BK313, hx314_0, hx314_1⟩ (fun hHeld => ?_); refine with_tabW Z27.tab7 Z27.bits7 (fun HT_ HW_ => ?_)
      generalize wr.drew = w12 at HO_0 HO_314000 HO_314001 BK311 BK313 HB HL314_0 HL314_1 HR314_0 HR314_1 hx314_0 hx314_1 hHeld ⊢
      refine pu_ 0 (some 20) (bl_ 8 1) HT_ ?_
      refine pu_ 1 (some 21) (bl_ 8 3) HT_ ?_
      refine pu_ 2 (some 22) (bl_ 8 7) HT_ ?_
      refine pu_ 3 (some 23) (bl_ 8 15) HT_ ?_
      refine ta_ 4 (some 24) (bl_ 8 31) HT_ HW_ hHeld ?_
      refine ta_ 5 (some 25) (bl_ 8 63) HT_ HW_ hHeld ?_
      refine on_ 6 (some 26) (bl_ 8 127) HT_ (fun K hK => ?_)
      refine goesF_ Try.func77 (by kernel_rfl) rfl #[.agg #[.slice A314_0 ((rd_T25 l0 x6_1).f0).length c314_0, .slice A314_1 ((rd_T25 l0 x6_1).f1).length c314_1], .agg #[.slice Ao13 x314000_1.length co13, .slice Ao14 x314001_1.length co14]] (by rfl) rfl rfl qa_ ?_
      with_reducible refine (Z4.calls k1 _ _ ((rd_T25 l0 x6_1).f0) _ _ ((rd_T25 l0 x6_1).f1) _ _ x314000_1 _ _ x314001_1 t315 _ ?side1 ?side2 ?side3 ?side4 ?side5 ?side6 ?side7 ?side8 A10.out).mono ?_
      (case side1 => repeat (first | exact (by repeat (first | (with_reducible exact HR314_0.out) | (with_reducible refine cA_ ?_ _) | (with_reducible refine cB_ ?_ _) | (with_reducible refine cC_ ?_) | exact HR314_0.out)) | (with_reducible first | refine cA_ ?_ _ | refine cB_ ?_ _ | refine cC_ ?_)))
      (case side2 => exact HC314_0.out)
      (case side3 => repeat (first | exact (by repeat (first | (with_reducible exact HR314_1.out) | (with_reducible refine cA_ ?_ _) | (with_reducible refine cB_ ?_ _) | (with_reducible refine cC_ ?_) | exact HR314_1.out)) | (with_reducible first | refine cA_ ?_ _ | refine cB_ ?_ _ | refine cC_ ?_)))
      (case side4 => exact HC314_1.out)
      (case side5 => exact cw_ ((Kd.V_reads' HO_314000.out).2.2))
      (case side6 => exact (Kd.V_reads' HO_314000.out).2.1)
      (case side7 => exact cw_ ((Kd.V_reads' HO_314001.out).2.2))
      (case side8 => exact (Kd.V_reads' HO_314001.out).2.1)
      rintro e w15 ⟨rfl, hb⟩
      have HS2_ := (hb.cell (World.block_lt_of_cell? _ _ (hHeld.2.2.1))).trans (hHeld.2.2.1)
      have HS3_ := (hb.cell (World.block_lt_of_cell? _ _ (hHeld.2.2.2))).trans (hHeld.2.2.2)
      refine ⟨_, rfl, ?_⟩
      replace HO_0 := A_ (Kd.V_below (by (with_reducible repeat (first | apply Kd.V_alloc | apply Kd.V_drewN | apply Kd.V_drew)); exact HO_0.out) hb)
      replace HO_314000 := A_ (Kd.V_below (by (with_reducible repeat (first | apply Kd.V_alloc | apply Kd.V_drewN | apply Kd.V_drew)); exact HO_314000.out) hb)
      replace HO_314001 := A_ (Kd.V_below (by (with_reducible repeat (first | apply Kd.V_alloc | apply Kd.V_drewN | apply Kd.V_drew)); exact HO_314001.out) hb)
      replace HL314_0 := A_ (Kd.V_below (by (with_reducible repeat (first | apply Kd.V_alloc | apply Kd.V_drewN | apply Kd.V_drew)); exact HL314_0.out) hb)
      replace HL314_1 := A_ (Kd.V_below (by (with_reducible repeat (first | apply Kd.V_alloc | apply Kd.V_drewN | apply Kd.V_drew)); exact HL314_1.out) hb)
      replace BK311 := bb_ BK311 hb
      replace BK313 := bb_ BK313 hb
      replace HR314_0 := A_ (cD_ (by repeat (first | (with_reducible exact HR314_0.out) | (with_reducible refine cA_ ?_ _) | (with_reducible refine cB_ ?_ _) | (with_reducible refine cC_ ?_) | exact HR314_0.out)) hb)
      replace HR314_1 := A_ (cD_ (by repeat (first | (with_reducible exact HR314_1.out) | (with_reducible refine cA_ ?_ _) | (with_reducible refine cB_ ?_ _) | (with_reducible refine cC_ ?_) | exact HR314_1.out)) hb)
      replace HB := b1_ hb
      clear hb
      refine hK.out _ _ ⟨cz0_ BK313, cz1_ BK313, HS2_, HS3_⟩ (fun hHeld => ?_)
      clear hK K
      refine no_ (some 26) ?_
      refine pu_ 7 (some 27) (bl_ 8 255) HT_ ?_
      refine done_ (done_of HT_.out (by kernel_rfl)) ?_
      have p316 : 0 ≤ (x6_1 : Int) := oB_ qe_
      have q316 : x6_1 < (l0.length : Int) := oB_ qe_
      obtain ⟨ad316, A316_0, c316_0, A316_1, c316_1, e316, hx316_0, hx316_1, hl316_0, hi316_0, hl316_1, hi316_1⟩ := at_T25 (Kd.V_reads' HO_0.out).2.2 x6_1 p316 q316
      obtain rfl : ad312 = ad316 := (by injection e316)
      have e0_ := Option.some.inj (hx316_0.symm.trans hHeld.2.2.1)
      injection e0_ with f1_ f2_ f3_
      have e1_ := Option.some.inj (hx316_1.symm.trans hHeld.2.2.2)
      injection e1_ with f4_ f5_ f6_
      subst f1_ f3_ f4_ f6_
      clear f2_ f5_
      obtain ⟨ce316, hce316, hMe316, hcc316⟩ := Kd.V_get HO_0.out z25 x6_1 p316 (by first | exact q316 | exact oB_ qe_ | (have e_ := (Kd.V_reads' HO_0.out).1; omega))
      obtain ⟨ua316_0, uc316_0, ua316_1, uc316_1, rfl, ul316_0, ge316_0, ul316_1, ge316_1⟩ := k25_openF hMe316
      have hv316_0 := hcc316 0 _ rfl
      rw [Nat.add_zero] at hv316_0
      replace hv316_0 := Option.some.inj (hv316_0.symm.trans hx316_0)
      injection hv316_0 with hva_ hvn_ hvc_
      rw [hva_] at ge316_0
      rw [hvc_] at ul316_0
      have HL316_0 := A_ (show Kd.V (Kd.int .i64) 3 _ w.heap.size _ _ ((rd_T25 l0 x6_1).f0) from Kd.V_mk ul316_0 ge316_0)
      clear hva_ hvn_ hvc_ ge316_0 ul316_0
      have hv316_1 := hcc316 1 _ rfl
      rw [add_field _ _ 1 (by omega)] at hv316_1
      replace hv316_1 := Option.some.inj (hv316_1.symm.trans hx316_1)
      injection hv316_1 with hva_ hvn_ hvc_
      rw [hva_] at ge316_1
      rw [hvc_] at ul316_1
      have HL316_1 := A_ (show Kd.V (Kd.int .i64) 3 _ w.heap.size _ _ ((rd_T25 l0 x6_1).f1) from Kd.V_mk ul316_1 ge316_1)
      clear hva_ hvn_ hvc_ ge316_1 ul316_1
      clear hcc316 hce316
      have HJ316 := A_ (atJ_of HS0.out hB_ x6_1 p316 q316 hx316_0 hx316_1)
      have HR316_0 := A_ hi316_0
      have HC316_0 := A_ hl316_0
      clear hi316_0 hl316_0
      have HR316_1 := A_ hi316_1
      have HC316_1 := A_ hl316_1
      clear hi316_1 hl316_1
      replace p316 := eq_true p316
      replace q316 := eq_true q316
      have hnb16 := NB313_311.out
      have hnc16 := NB311_313.out
      obtain ⟨hcz17_0, hcz17_1, hfz17_0, hfz17_1⟩ := c2_ BK313
      try go_wp2
      go_roundg k1
      case measure => have := HK1.out; omega
      case rel => exact ⟨(wrap64 (x6_1 + 1)), ((rd_T25 l0 x6_1).f0), ((rd_T25 l0 x6_1).f1), (.slice A316_0 ((rd_T25 l0 x6_1).f0).length c316_0), (.slice A316_1 ((rd_T25 l0 x6_1).f1).length c316_1), qc_, H', ⟨by have := HK1.out; omega⟩, ⟨by (with_reducible repeat (first | apply Kd.V_alloc | apply Kd.V_drewN | apply Kd.V_drew)); exact Kd.V_mono (Kd.V_far (p := ⟨gb313, 1, none⟩) (Kd.V_far (p := ⟨gb313, 0, none⟩) (Kd.V_mono HO_0.out (fun k_ hk => (⟨hk, hk.2.2⟩ : _ ∧ k_ ≠ gb313))) (fun _ hk => hk.2) (.slice A316_0 ((rd_T25 l0 x6_1).f0).length c316_0)) (fun _ hk => hk.2) (.slice A316_1 ((rd_T25 l0 x6_1).f1).length c316_1)) (fun _ hk => ⟨hk.1.1, ⟨hk.1.2.1, hk.1.2.2⟩⟩)⟩, ⟨by (with_reducible repeat (first | apply Kd.V_alloc | apply Kd.V_drewN | apply Kd.V_drew)); exact Kd.V_mono (Kd.V_far (p := ⟨gb313, 1, none⟩) (Kd.V_far (p := ⟨gb313, 0, none⟩) (Kd.V_mono HL316_0.out (fun k_ hk => (⟨hk, hk.2.2⟩ : _ ∧ k_ ≠ gb313))) (fun _ hk => hk.2) (.slice A316_0 ((rd_T25 l0 x6_1).f0).length c316_0)) (fun _ hk => hk.2) (.slice A316_1 ((rd_T25 l0 x6_1).f1).length c316_1)) (fun _ hk => ⟨hk.1.1, ⟨hk.1.2.1, hk.1.2.2⟩⟩)⟩, ⟨by (with_reducible repeat (first | apply Kd.V_alloc | apply Kd.V_drewN | apply Kd.V_drew)); exact Kd.V_mono (Kd.V_far (p := ⟨gb313, 1, none⟩) (Kd.V_far (p := ⟨gb313, 0, none⟩) (Kd.V_mono HL316_1.out (fun k_ hk => (⟨hk, hk.2.2⟩ : _ ∧ k_ ≠ gb313))) (fun _ hk => hk.2) (.slice A316_0 ((rd_T25 l0 x6_1).f0).length c316_0)) (fun _ hk => hk.2) (.slice A316_1 ((rd_T25 l0 x6_1).f1).length c316_1)) (fun _ hk => ⟨hk.1.1, ⟨hk.1.2.1, hk.1.2.2⟩⟩)⟩, ⟨by (with_reducible repeat (first | refine kA_ ?_ _ | refine kB_ ?_ | refine kC_ ?_ _)); refine blk_far ?_ NB311_313.out _; (with_reducible repeat (first | refine kA_ ?_ _ | refine kB_ ?_ | refine kC_ ?_ _)); refine blk_far ?_ NB311_313.out _; (with_reducible repeat (first | refine kA_ ?_ _ | refine kB_ ?_ | refine kC_ ?_ _)); exact BK311.out⟩, ⟨qp_⟩, ⟨hB_⟩, HJ316⟩
     ·rw [if_neg c11] at H
      have c11b0 := oD_ c11
      clear c11
      have H' := A_ H
      clear H
      try go_wp2
      replace HO_0 := A_ (Kd.V_drew HO_0.out)
      replace HO_314000 := A_ (Kd.V_drew HO_314000.out)
      replace HO_314001 := A_ (Kd.V_drew HO_314001.out)
      replace BK311 := A_ (kB_ BK311.out)
      replace BK313 := A_ (kB_ BK313.out)
      replace HB := A_ (bC_ HB.out)
      have p314 : 0 ≤ (x6_1 : Int) := oB_ qe_
      have q314 : x6_1 < (l0.length : Int) := oB_ qe_
      obtain ⟨ad314, A314_0, c314_0, A314_1, c314_1, e314, hx314_0, hx314_1, hl314_0, hi314_0, hl314_1, hi314_1⟩ := at_T25 (Kd.V_reads' HO_0.out).2.2 x6_1 p314 q314
      obtain rfl : ad312 = ad314 := (by injection e314)
      obtain ⟨ce314, hce314, hMe314, hcc314⟩ := Kd.V_get HO_0.out z25 x6_1 p314 (by first | exact q314 | exact oB_ qe_ | (have e_ := (Kd.V_reads' HO_0.out).1; omega))
      obtain ⟨ua314_0, uc314_0, ua314_1, uc314_1, rfl, ul314_0, ge314_0, ul314_1, ge314_1⟩ := k25_openF hMe314
      have hv314_0 := hcc314 0 _ rfl
      rw [Nat.add_zero] at hv314_0
      replace hv314_0 := Option.some.inj (hv314_0.symm.trans hx314_0)
      injection hv314_0 with hva_ hvn_ hvc_
      rw [hva_] at ge314_0
      rw [hvc_] at ul314_0
      have HL314_0 := A_ (show Kd.V (Kd.int .i64) 3 _ w.heap.size _ _ ((rd_T25 l0 x6_1).f0) from Kd.V_mk ul314_0 ge314_0)
      clear hva_ hvn_ hvc_ ge314_0 ul314_0
      have hv314_1 := hcc314 1 _ rfl
      rw [add_field _ _ 1 (by omega)] at hv314_1
      replace hv314_1 := Option.some.inj (hv314_1.symm.trans hx314_1)
      injection hv314_1 with hva_ hvn_ hvc_
      rw [hva_] at ge314_1
      rw [hvc_] at ul314_1
      have HL314_1 := A_ (show Kd.V (Kd.int .i64) 3 _ w.heap.size _ _ ((rd_T25 l0 x6_1).f1) from Kd.V_mk ul314_1 ge314_1)
      clear hva_ hvn_ hvc_ ge314_1 ul314_1
      clear hcc314 hce314
      have HJ314 := A_ (atJ_of HS0.out hB_ x6_1 p314 q314 hx314_0 hx314_1)
      have HR314_0 := A_ hi314_0
      have HC314_0 := A_ hl314_0
      clear hi314_0 hl314_0
      have HR314_1 := A_ hi314_1
      have HC314_1 := A_ hl314_1
      clear hi314_1 hl314_1
      replace p314 := eq_true p314
      replace q314 := eq_true q314
      obtain ⟨Ao19, co19, eo19⟩ := Kd.V_slice HO_314000.out
      (first | subst eo19 | (injection eo19 with f1_ f2_ f3_; have f4_ := f1_.symm; have f5_ := f3_.symm; clear f1_ f2_ f3_; subst f4_; subst f5_))
      obtain ⟨Ao20, co20, eo20⟩ := Kd.V_slice HO_314001.out
      (first | subst eo20 | (injection eo20 with f1_ f2_ f3_; have f4_ := f1_.symm; have f5_ := f3_.symm; clear f1_ f2_ f3_; subst f4_; subst f5_))
      refine start_ (n := 8) (S := fun w' => w'.cell? ⟨gb313, 0, none⟩ = some (.slice Ao19 x314000_1.length co19) ∧ w'.cell? ⟨gb313, 1, none⟩ = some (.slice Ao20 x314001_1.length co20) ∧ w'.cell? (ad312.add ((x6_1).toNat * 2)) = some (.slice A314_0 ((rd_T25 l0 x6_1).f0).length c314_0) ∧ w'.cell? ⟨(ad312.add ((x6_1).toNat * 2)).block, (ad312.add ((x6_1).toNat * 2)).off + 1, none⟩ = some (.slice A314_1 ((rd_T25 l0 x6_1).f1).length c314_1)) (ds := []) (bl_ 8 0) (by kernel_rfl) rfl (by kernel_rfl) ⟨cz0_ BK313, cz1_ BK313, hx314_0, hx314_1⟩ (fun hHeld => ?_); refine with_tabW Z27.tab7 Z27.bits7 (fun HT_ HW_ => ?_)
      generalize wr.drew = w18 at HO_0 HO_314000 HO_314001 BK311 BK313 HB HL314_0 HL314_1 HR314_0 HR314_1 hx314_0 hx314_1 hHeld ⊢
      refine pu_ 0 (some 20) (bl_ 8 1) HT_ ?_
      refine pu_ 1 (some 21) (bl_ 8 3) HT_ ?_
      refine pu_ 2 (some 22) (bl_ 8 7) HT_ ?_
      refine pu_ 3 (some 23) (bl_ 8 15) HT_ ?_
      refine ta_ 4 (some 24) (bl_ 8 31) HT_ HW_ hHeld ?_
      refine ta_ 5 (some 25) (bl_ 8 63) HT_ HW_ hHeld ?_
      refine on_ 6 (some 26) (bl_ 8 127) HT_ (fun K hK => ?_)
      refine goesF_ Try.func77 (by kernel_rfl) rfl #[.agg #[.slice A314_0 ((rd_T25 l0 x6_1).f0).length c314_0, .slice A314_1 ((rd_T25 l0 x6_1).f1).length c314_1], .agg #[.slice Ao19 x314000_1.length co19, .slice Ao20 x314001_1.length co20]] (by rfl) rfl rfl qa_ ?_
      with_reducible refine (Z4.calls k1 _ _ ((rd_T25 l0 x6_1).f0) _ _ ((rd_T25 l0 x6_1).f1) _ _ x314000_1 _ _ x314001_1 t315 _ ?side1 ?side2 ?side3 ?side4 ?side5 ?side6 ?side7 ?side8 A10.out).mono ?_
      (case side1 => repeat (first | exact (by repeat (first | (with_reducible exact HR314_0.out) | (with_reducible refine cA_ ?_ _) | (with_reducible refine cB_ ?_ _) | (with_reducible refine cC_ ?_) | exact HR314_0.out)) | (with_reducible first | refine cA_ ?_ _ | refine cB_ ?_ _ | refine cC_ ?_)))
      (case side2 => exact HC314_0.out)
      (case side3 => repeat (first | exact (by repeat (first | (with_reducible exact HR314_1.out) | (with_reducible refine cA_ ?_ _) | (with_reducible refine cB_ ?_ _) | (with_reducible refine cC_ ?_) | exact HR314_1.out)) | (with_reducible first | refine cA_ ?_ _ | refine cB_ ?_ _ | refine cC_ ?_)))
      (case side4 => exact HC314_1.out)
      (case side5 => exact cw_ ((Kd.V_reads' HO_314000.out).2.2))
      (case side6 => exact (Kd.V_reads' HO_314000.out).2.1)
      (case side7 => exact cw_ ((Kd.V_reads' HO_314001.out).2.2))
      (case side8 => exact (Kd.V_reads' HO_314001.out).2.1)
      rintro e w21 ⟨rfl, hb⟩
      have HS2_ := (hb.cell (World.block_lt_of_cell? _ _ (hHeld.2.2.1))).trans (hHeld.2.2.1)
      have HS3_ := (hb.cell (World.block_lt_of_cell? _ _ (hHeld.2.2.2))).trans (hHeld.2.2.2)
      refine ⟨_, rfl, ?_⟩
      replace HO_0 := A_ (Kd.V_below (by (with_reducible repeat (first | apply Kd.V_alloc | apply Kd.V_drewN | apply Kd.V_drew)); exact HO_0.out) hb)
      replace HO_314000 := A_ (Kd.V_below (by (with_reducible repeat (first | apply Kd.V_alloc | apply Kd.V_drewN | apply Kd.V_drew)); exact HO_314000.out) hb)
      replace HO_314001 := A_ (Kd.V_below (by (with_reducible repeat (first | apply Kd.V_alloc | apply Kd.V_drewN | apply Kd.V_drew)); exact HO_314001.out) hb)
      replace HL314_0 := A_ (Kd.V_below (by (with_reducible repeat (first | apply Kd.V_alloc | apply Kd.V_drewN | apply Kd.V_drew)); exact HL314_0.out) hb)
      replace HL314_1 := A_ (Kd.V_below (by (with_reducible repeat (first | apply Kd.V_alloc | apply Kd.V_drewN | apply Kd.V_drew)); exact HL314_1.out) hb)
      replace BK311 := bb_ BK311 hb
      replace BK313 := bb_ BK313 hb
      replace HR314_0 := A_ (cD_ (by repeat (first | (with_reducible exact HR314_0.out) | (with_reducible refine cA_ ?_ _) | (with_reducible refine cB_ ?_ _) | (with_reducible refine cC_ ?_) | exact HR314_0.out)) hb)
      replace HR314_1 := A_ (cD_ (by repeat (first | (with_reducible exact HR314_1.out) | (with_reducible refine cA_ ?_ _) | (with_reducible refine cB_ ?_ _) | (with_reducible refine cC_ ?_) | exact HR314_1.out)) hb)
      replace HB := b1_ hb
      clear hb
      refine hK.out _ _ ⟨cz0_ BK313, cz1_ BK313, HS2_, HS3_⟩ (fun hHeld => ?_)
      clear hK K
      refine no_ (some 26) ?_
      refine pu_ 7 (some 27) (bl_ 8 255) HT_ ?_
      refine done_ (done_of HT_.out (by kernel_rfl)) ?_
      try go_wp2
      go_roundg k1
      case measure => have := HK1.out; omega
      case rel => exact ⟨(wrap64 (x6_1 + 1)), (x314000_1), (x314001_1), (.slice Ao19 x314000_1.length co19), (.slice Ao20 x314001_1.length co20), qc_, H', ⟨by have := HK1.out; omega⟩, ⟨by (with_reducible repeat (first | apply Kd.V_alloc | apply Kd.V_drewN | apply Kd.V_drew)); exact HO_0.out⟩, ⟨by (with_reducible repeat (first | apply Kd.V_alloc | apply Kd.V_drewN | apply Kd.V_drew)); exact HO_314000.out⟩, ⟨by (with_reducible repeat (first | apply Kd.V_alloc | apply Kd.V_drewN | apply Kd.V_drew)); exact HO_314001.out⟩, ⟨(kk_ BK311)⟩, ⟨(kk_ BK313)⟩, ⟨hB_⟩, HJ⟩
    ·rw [if_neg c8] at H
     have c8b0 := oD_ c8
     clear c8
     simp only [Option.some.injEq, Prod.mk.injEq] at H
     obtain ⟨rfl, rfl⟩ := H
     have hnb22 := NB313_311.out
     have hnc22 := NB311_313.out
     obtain ⟨hcz23_0, hcz23_1, hfz23_0, hfz23_1⟩ := c2_ BK313
     obtain ⟨Ao24, co24, eo24⟩ := Kd.V_slice HO_314000.out
     subst eo24
     obtain ⟨hcz25_0, hcz25_1, hfz25_0, hfz25_1⟩ := c2_ BK311
     obtain ⟨Ao26, co26, eo26⟩ := Kd.V_slice HO_314001.out
     subst eo26
     go_wp2
     refine bodyPost_ret (results_cell_row rfl _ _ gb311 25 #[.slice Ao24 x314000_1.length co24, .slice Ao26 x314001_1.length co26] (0, 0) _ rfl qp_ Try.underlying25 rfl (by kernel_rfl)) rfl ?_
     exact ⟨_, _, qb_, by (with_reducible repeat (first | apply Kd.V_alloc | apply Kd.V_drewN | apply Kd.V_drew)); exact Kd.V_mono (Kd.V_far (p := ⟨gb311, 1, none⟩) (Kd.V_far (p := ⟨gb311, 0, none⟩) (Kd.V_mono HO_314000.out (fun k_ hk => (⟨hk, hk.2.1⟩ : _ ∧ k_ ≠ gb311))) (fun _ hk => hk.2) (.slice Ao24 x314000_1.length co24)) (fun _ hk => hk.2) (.slice Ao26 x314001_1.length co26)) (fun _ hk => hk.1.1), by (with_reducible repeat (first | apply Kd.V_alloc | apply Kd.V_drewN | apply Kd.V_drew)); exact Kd.V_mono (Kd.V_far (p := ⟨gb311, 1, none⟩) (Kd.V_far (p := ⟨gb311, 0, none⟩) (Kd.V_mono HO_314001.out (fun k_ hk => (⟨hk, hk.2.1⟩ : _ ∧ k_ ≠ gb311))) (fun _ hk => hk.2) (.slice Ao24 x314000_1.length co24)) (fun _ hk => hk.2) (.slice Ao26 x314001_1.length co26)) (fun _ hk => hk.1.1), hB_, HJ.out⟩
def Z41.f (k : Nat) (l0_0 : List Int) (l0_1 : List Int) : Option (List Int × List Int × Bool) := (Z30.f k l0_0 l0_1).bind fun t319 => (if (t319.length : Int) = 0 then (some (([] : List Int), ([] : List Int), false)) else ((Z27.f k t319).bind fun bt322 => (some (bt322.1, bt322.2, true))))
theorem Z41.mono : ∀ a0 a1 k, LeO (Z41.f k a0 a1) (Z41.f (k + 1) a0 a1) := by
 intro a0 a1 k
 unfold Z41.f
 repeat' first|exact Z27.mono _ _|exact Z30.mono _ _ _|exact lo_|refine LeO.ite ?_ ?_|refine LeO.bind ?_ (fun _ => ?_)
set_option maxHeartbeats 8000000 in
set_option maxRecDepth 100000 in
theorem Z41.calls (k : Nat) (A0_0 : Option Addr) (c0_0 : Nat) (l0_0 : List Int) (A0_1 : Option Addr) (c0_1 : Nat) (l0_1 : List Int) (r1 : List Int) (r2 : List Int) (r3 : Bool) (w : World) (hr0_0 : Kd.C (Kd.int .i64) w A0_0 l0_0.length l0_0) (hc0_0 : l0_0.length ≤ c0_0) (hr0_1 : Kd.C (Kd.int .i64) w A0_1 l0_1.length l0_1) (hc0_1 : l0_1.length ≤ c0_1) (h : Z41.f k l0_0 l0_1 = some (r1, r2, r3)) :
  Calls Try.prog 28 #[.agg #[.slice A0_0 l0_0.length c0_0, .slice A0_1 l0_1.length c0_1]] w fun e w' => ∃ v0_ v1_ : Value, e = .returned (.tuple #[.agg #[v0_, v1_], .bool r3]) ∧ Kd.R (Kd.int .i64) 3 w' w.heap.size (fun k_ => some k_ ≠ (v1_ : Value).ownBlock) v0_ r1 ∧ Kd.R (Kd.int .i64) 3 w' w.heap.size (fun k_ => some k_ ≠ (v0_ : Value).ownBlock) v1_ r2 ∧ Below w.heap.size w w' := by
 have hu25 := Try.underlying25
 have HR0_0 := A_ hr0_0
 have HC0_0 := A_ hc0_0
 clear hr0_0 hc0_0
 have HR0_1 := A_ hr0_1
 have HC0_1 := A_ hc0_1
 clear hr0_1 hc0_1
 have HB := A_ (Below.refl w.heap.size w)
 have H := h
 unfold Z41.f at H
 clear h
 obtain ⟨t319, A2, H⟩ := bi_ H
 by_cases c3 : (t319.length : Int) = 0
 ·rw [if_pos c3] at H
  have c3b0 : ((t319.length : Int) == 0) = true := beq_iff_eq.mpr c3
  have c3b1 : ((t319.length : Int) != 0) = false := bne_eq_false_iff_eq.mpr c3
  clear c3
  simp only [Option.some.injEq, Prod.mk.injEq] at H
  obtain ⟨rfl, rfl, rfl⟩ := H
  go_enter Try.func28, Try.ntmps28
  go_wp2_with (first | ((with_reducible refine gB_ (N := 1) rfl ?_); refine bx_ 1 #[.slice A0_0 l0_0.length c0_0, .slice A0_1 l0_1.length c0_1] 25 ?_; intro gb317 hg w4 hbox hb; have BK317 := A_ hbox; have GW317 := gw_ w hg; have GE317 := GW317; replace HB := b1_ hb; clear hb hbox hg) | ((with_reducible refine gB_ (N := 2) rfl ?_); refine bx_ 2 #[.slice none 0 0, .slice none 0 0] 25 ?_; intro gb318 hg w5 hbox hb; have BK318 := A_ hbox; have GW318 := gw_ w hg; have GE318 := GW318; replace HB := b1_ hb; have NB317_318 := gN_ BK317 hg; have NB318_317 := gP_ BK317 hg; replace BK317 := bb_ BK317 hb; clear hb hbox hg; have hnb6 := NB317_318.out; have hnc6 := NB318_317.out; obtain ⟨hcz7_0, hcz7_1, hfz7_0, hfz7_1⟩ := c2_ BK317) | ((with_reducible refine gA_ (f := 75) rfl ?_); refine gL_ (some 6) Try.func75 #[.agg #[.slice A0_0 l0_0.length c0_0, .slice A0_1 l0_1.length c0_1]] rfl qa_ ?_; (with_reducible refine (Z30.calls k _ _ l0_0 _ _ l0_1 t319 _ (cb_ HR0_0) HC0_0.out (cb_ HR0_1) HC0_1.out A2.out).mono ?_); rintro e w8 ⟨v320, rfl, ho0, hb⟩; refine ⟨_, rfl, ?_⟩; have HO321 := A_ (Kd.S_lower (Kd.S_newB (Kd.S_newB (Kd.S_newM (M := fun k_ => (w.heap.size ≤ k_)) ho0 (bF_ hB_) (fun k_ h_ => h_)) (kk_ BK317)) (kk_ BK318)) (bF_ hB_)); replace BK317 := bb_ BK317 hb; replace BK318 := bb_ BK318 hb; replace HB := b1_ hb; clear hb ho0; obtain ⟨Ao9, co9, eo9⟩ := Kd.S_slice HO321.out; subst eo9; obtain ⟨hcz10_0, hcz10_1, hfz10_0, hfz10_1⟩ := c2_ BK318))
  refine bodyPost_ret (results_ct rfl _ _ gb318 25 #[.slice none 0 0, .slice none 0 0] (0, 0) _ rfl qp_ Try.underlying25 rfl (by kernel_rfl)) rfl ?_
  exact ⟨_, _, qb_, (Kd.R_nil _ _ _ _ _), (Kd.R_nil _ _ _ _ _), hB_⟩
 ·rw [if_neg c3] at H
  have c3b0 : ((t319.length : Int) == 0) = false := beq_eq_false_iff_ne.mpr c3
  have c3b1 : ((t319.length : Int) != 0) = true := bne_iff_ne.mpr c3
  have c3b2 : ¬ (t319 = []) := fun h_ => c3 (by rw [h_]; rfl)
  obtain ⟨⟨t322, t325⟩, A11, H⟩ := bi_ H
  try dsimp only at H
  simp only [Option.some.injEq, Prod.mk.injEq] at H
  obtain ⟨rfl, rfl, rfl⟩ := H
  go_enter Try.func28, Try.ntmps28
  go_wp2_with (first | ((with_reducible refine gB_ (N := 1) rfl ?_); refine bx_ 1 #[.slice A0_0 l0_0.length c0_0, .slice A0_1 l0_1.length c0_1] 25 ?_; intro gb317 hg w12 hbox hb; have BK317 := A_ hbox; have GW317 := gw_ w hg; have GE317 := GW317; replace HB := b1_ hb; clear hb hbox hg) | ((with_reducible refine gB_ (N := 2) rfl ?_); refine bx_ 2 #[.slice none 0 0, .slice none 0 0] 25 ?_; intro gb318 hg w13 hbox hb; have BK318 := A_ hbox; have GW318 := gw_ w hg; have GE318 := GW318; replace HB := b1_ hb; have NB317_318 := gN_ BK317 hg; have NB318_317 := gP_ BK317 hg; replace BK317 := bb_ BK317 hb; clear hb hbox hg; have hnb14 := NB317_318.out; have hnc14 := NB318_317.out; obtain ⟨hcz15_0, hcz15_1, hfz15_0, hfz15_1⟩ := c2_ BK317) | ((with_reducible refine gA_ (f := 75) rfl ?_); refine gL_ (some 6) Try.func75 #[.agg #[.slice A0_0 l0_0.length c0_0, .slice A0_1 l0_1.length c0_1]] rfl qa_ ?_; (with_reducible refine (Z30.calls k _ _ l0_0 _ _ l0_1 t319 _ (cb_ HR0_0) HC0_0.out (cb_ HR0_1) HC0_1.out A2.out).mono ?_); rintro e w16 ⟨v320, rfl, ho0, hb⟩; refine ⟨_, rfl, ?_⟩; have HO321 := A_ (Kd.S_lower (Kd.S_newB (Kd.S_newB (Kd.S_newM (M := fun k_ => (w.heap.size ≤ k_)) ho0 (bF_ hB_) (fun k_ h_ => h_)) (kk_ BK317)) (kk_ BK318)) (bF_ hB_)); replace BK317 := bb_ BK317 hb; replace BK318 := bb_ BK318 hb; replace HB := b1_ hb; clear hb ho0; obtain ⟨Ao17, co17, eo17⟩ := Kd.S_slice HO321.out; subst eo17) | ((with_reducible refine gA_ (f := 76) rfl ?_); refine gL_ (some 12) Try.func76 #[.slice Ao17 t319.length co17, .func (.func 77) #[] #[]] rfl qa_ ?_; (with_reducible refine (Z27.calls k (fun k_ => ((((w.heap.size ≤ k_) ∧ True) ∧ k_ ≠ gb317) ∧ k_ ≠ gb318)) _ _ t319 t322 t325 _ (Kd.S_V (HO321.out)) A11.out).mono ?_); rintro e w18 ⟨v323, v326, rfl, ho0, ho1, hb, hj_⟩; refine ⟨_, rfl, ?_⟩; have HOW_ := A_ (atJ_own (ss_ HO321) hj_ hb); clear hj_; replace HO321 := sb_ HO321 hb; have HO324 := A_ (Kd.V_lower (Kd.V_mono (ok' := fun k_ => (w.heap.size ≤ k_) ∧ k_ ≠ gb317 ∧ k_ ≠ gb318) ho0 (fun k_ hk_ => ⟨Or.elim hk_ (fun hs_ => hs_.1.1.1) (fun hn_ => (Nat.le_trans (bF_ hB_) hn_)), Or.elim hk_ (fun hs_ => hs_.1.2) (fun hn_ => (Kd.freshB (kk_ BK317) k_ hn_)), Or.elim hk_ (fun hs_ => hs_.2) (fun hn_ => (Kd.freshB (kk_ BK318) k_ hn_))⟩)) (bF_ hB_)); have HO327 := A_ (Kd.V_lower (Kd.V_mono (ok' := fun k_ => (w.heap.size ≤ k_) ∧ k_ ≠ gb317 ∧ k_ ≠ gb318) ho1 (fun k_ hk_ => ⟨Or.elim hk_ (fun hs_ => hs_.1.1.1) (fun hn_ => (Nat.le_trans (bF_ hB_) hn_)), Or.elim hk_ (fun hs_ => hs_.1.2) (fun hn_ => (Kd.freshB (kk_ BK317) k_ hn_)), Or.elim hk_ (fun hs_ => hs_.2) (fun hn_ => (Kd.freshB (kk_ BK318) k_ hn_))⟩)) (bF_ hB_)); replace BK317 := bb_ BK317 hb; replace BK318 := bb_ BK318 hb; replace HB := b1_ hb; clear hb ho0 ho1; obtain ⟨Ao19, co19, eo19⟩ := Kd.V_slice HO324.out; subst eo19; obtain ⟨hcz20_0, hcz20_1, hfz20_0, hfz20_1⟩ := c2_ BK318; obtain ⟨Ao21, co21, eo21⟩ := Kd.V_slice HO327.out; subst eo21))
  refine bodyPost_ret (results_ct rfl _ _ gb318 25 #[.slice Ao19 t322.length co19, .slice Ao21 t325.length co21] (0, 0) _ rfl qp_ Try.underlying25 rfl (by kernel_rfl)) rfl ?_
  exact ⟨_, _, qb_, (rw_ (Kd.R_mono (Kd.R_tight rfl (Kd.R_far (p := ⟨gb318, 1, none⟩) (Kd.R_far (p := ⟨gb318, 0, none⟩) (Kd.R_types HOW_.out.1 (BK318.out) (by decide)) (fun _ hk => hk.2) _) (fun _ hk => hk.2) _)) (fun k_ e1_ e2_ => HOW_.out.2.2 k_ e1_.symm e2_.symm))), (rw_ (Kd.R_mono (Kd.R_tight rfl (Kd.R_far (p := ⟨gb318, 1, none⟩) (Kd.R_far (p := ⟨gb318, 0, none⟩) (Kd.R_types HOW_.out.2.1 (BK318.out) (by decide)) (fun _ hk => hk.2) _) (fun _ hk => hk.2) _)) (fun k_ e1_ e2_ => HOW_.out.2.2 k_ e2_.symm e1_.symm))), hB_⟩
def Z7.f (k : Nat) (l0_0 : List Int) (l0_1 : List Int) : Option (List Int × List Int × Bool) := (Z29.f k l0_0 l0_1).bind fun t362 => (if t362 = true then ((Z38.f l0_0).bind fun t363 => ((Z37.f k l0_0 l0_1).bind fun t366 => (some (t363, t366, true)))) else (some (([] : List Int), ([] : List Int), false)))
theorem Z7.mono : ∀ a0 a1 k, LeO (Z7.f k a0 a1) (Z7.f (k + 1) a0 a1) := by
 intro a0 a1 k
 unfold Z7.f
 repeat' first|exact Z29.mono _ _ _|exact Z37.mono _ _ _|exact lo_|refine LeO.ite ?_ ?_|refine LeO.bind ?_ (fun _ => ?_)
def Z7.T3 : Bool × List (List Nat × List Nat) := (true, [([], []), ([0], [0]), ([1], [1]), ([], []), ([3], [3]), ([], []), ([5], [5]), ([4, 6, 2], [4, 6]), ([2, 7], [2, 7]), ([8, 7, 0, 1, 2, 3, 4, 5, 6, 7, 8], [8]), ([9, 0, 1, 2, 3, 4, 5, 6, 7, 8, 9], [])])
def Z7.B3 : List Nat := [0, 1, 3, 0, 8, 0, 32, 127, 255, 511, 1023]
theorem Z7.tab3 : rtab .any (opsOf Try.f99 3) = Z7.T3 := by kernel_rfl
theorem Z7.bits3 : waitsOk Z7.T3.2 Z7.B3 = true := by kernel_rfl
set_option maxHeartbeats 8000000 in
set_option maxRecDepth 100000 in
theorem Z7.calls (k : Nat) (A0_0 : Option Addr) (c0_0 : Nat) (l0_0 : List Int) (A0_1 : Option Addr) (c0_1 : Nat) (l0_1 : List Int) (r1 : List Int) (r2 : List Int) (r3 : Bool) (w : World) (hr0_0 : Kd.C (Kd.int .i64) w A0_0 l0_0.length l0_0) (hc0_0 : l0_0.length ≤ c0_0) (hr0_1 : Kd.C (Kd.int .i64) w A0_1 l0_1.length l0_1) (hc0_1 : l0_1.length ≤ c0_1) (h : Z7.f k l0_0 l0_1 = some (r1, r2, r3)) :
  Calls Try.prog 99 #[.agg #[.slice A0_0 l0_0.length c0_0, .slice A0_1 l0_1.length c0_1]] w fun e w' => ∃ v0_ v1_ : Value, e = .returned (.tuple #[.agg #[v0_, v1_], .bool r3]) ∧ Kd.R (Kd.int .i64) 3 w' w.heap.size (fun k_ => some k_ ≠ (v1_ : Value).ownBlock) v0_ r1 ∧ Kd.R (Kd.int .i64) 3 w' w.heap.size (fun k_ => some k_ ≠ (v0_ : Value).ownBlock) v1_ r2 ∧ Below w.heap.size w w' := by
 have hu25 := Try.underlying25
 have HR0_0 := A_ hr0_0
 have HC0_0 := A_ hc0_0
 clear hr0_0 hc0_0
 have HR0_1 := A_ hr0_1
 have HC0_1 := A_ hc0_1
 clear hr0_1 hc0_1
 have HB := A_ (Below.refl w.heap.size w)
 have H := h
 unfold Z7.f at H
 clear h
 obtain ⟨t362, A2, H⟩ := bi_ H
 by_cases c3 : t362 = true
 ·subst c3
  rw [if_pos rfl] at H
  obtain ⟨t363, A4, H⟩ := bi_ H
  obtain ⟨t366, A5, H⟩ := bi_ H
  simp only [Option.some.injEq, Prod.mk.injEq] at H
  obtain ⟨rfl, rfl, rfl⟩ := H
  go_enter Try.func99, Try.ntmps99
  try go_wp2_with (first | ((with_reducible refine gB_ (N := 1) rfl ?_); refine bx_ 1 #[.slice A0_0 l0_0.length c0_0, .slice A0_1 l0_1.length c0_1] 25 ?_; intro gb360 hg w6 hbox hb; have BK360 := A_ hbox; have GW360 := gw_ w hg; have GE360 := GW360; replace HB := b1_ hb; clear hb hbox hg) | ((with_reducible refine gB_ (N := 2) rfl ?_); refine bx_ 2 #[.slice none 0 0, .slice none 0 0] 25 ?_; intro gb361 hg w7 hbox hb; have BK361 := A_ hbox; have GW361 := gw_ w hg; have GE361 := GW361; replace HB := b1_ hb; have NB360_361 := gN_ BK360 hg; have NB361_360 := gP_ BK360 hg; replace BK360 := bb_ BK360 hb; clear hb hbox hg; have hnb8 := NB360_361.out; have hnc8 := NB361_360.out; obtain ⟨hcz9_0, hcz9_1, hfz9_0, hfz9_1⟩ := c2_ BK360) | ((with_reducible refine gA_ (f := 66) rfl ?_); refine gL_ (some 5) Try.func66 #[.agg #[.slice A0_0 l0_0.length c0_0, .slice A0_1 l0_1.length c0_1]] rfl qa_ ?_; (with_reducible refine (Z29.calls k _ _ l0_0 _ _ l0_1 true _ (cb_ HR0_0) HC0_0.out (cb_ HR0_1) HC0_1.out A2.out).mono ?_); rintro e w10 ⟨rfl, hb⟩; refine ⟨_, rfl, ?_⟩; replace BK360 := bb_ BK360 hb; replace BK361 := bb_ BK361 hb; replace HB := b1_ hb; clear hb))
  replace BK360 := A_ (kB_ BK360.out)
  replace BK361 := A_ (kB_ BK361.out)
  replace HB := A_ (bC_ HB.out)
  refine start_ (n := 11) (S := fun w' => w'.cell? ⟨gb360, 0, none⟩ = some (.slice A0_0 l0_0.length c0_0) ∧ w'.cell? ⟨gb360, 1, none⟩ = some (.slice A0_1 l0_1.length c0_1)) (ds := []) (bl_ 11 0) (by kernel_rfl) rfl (by kernel_rfl) ⟨cz0_ BK360, cz1_ BK360⟩ (fun hHeld => ?_); refine with_tabW Z7.tab3 Z7.bits3 (fun HT_ HW_ => ?_)
  generalize w10.drew = w11 at BK360 BK361 HB hHeld ⊢
  refine pu_ 0 (some 8) (bl_ 11 1) HT_ ?_
  refine pu_ 3 (some 11) (bl_ 11 9) HT_ ?_
  refine pu_ 5 (some 13) (bl_ 11 41) HT_ ?_
  refine ta_ 1 (some 9) (bl_ 11 43) HT_ HW_ hHeld ?_
  refine ta_ 4 (some 12) (bl_ 11 59) HT_ HW_ hHeld ?_
  refine ta_ 6 (some 14) (bl_ 11 123) HT_ HW_ hHeld ?_
  refine on_ 2 (some 10) (bl_ 11 127) HT_ (fun K hK => ?_)
  refine gO_ Try.func67 #[.slice A0_0 l0_0.length c0_0] (by rfl) rfl rfl qa_ ?_
  with_reducible refine (Z38.calls _ _ l0_0 t363 _ (cb_ HR0_0) HC0_0.out A4.out).mono ?_
  rintro e w12 ⟨v364, rfl, ho0, hb⟩
  refine ⟨_, rfl, ?_⟩
  have HO365 := rl_ w ho0
  replace BK360 := bb_ BK360 hb
  replace BK361 := bb_ BK361 hb
  replace HB := b1_ hb
  clear hb ho0
  refine hK.out _ _ ⟨cz0_ BK360, cz1_ BK360⟩ (fun hHeld => ?_)
  clear hK K
  refine no_ (some 10) ?_
  refine on_ 7 (some 15) (bl_ 11 255) HT_ (fun K hK => ?_)
  refine gO_ Try.func68 #[.slice A0_0 l0_0.length c0_0, .slice A0_1 l0_1.length c0_1] (by rfl) rfl rfl qa_ ?_
  with_reducible refine (Z37.calls k _ _ l0_0 _ _ l0_1 t366 _ (cb_ HR0_0) HC0_0.out (cb_ HR0_1) HC0_1.out A5.out).mono ?_
  rintro e w13 ⟨v367, rfl, ho0, hb⟩
  refine ⟨_, rfl, ?_⟩
  have HO368 := A_ (rE_ (Kd.R_new' ho0 (Kd.R_lt (rr_ HO365))) (bF_ hB_))
  replace HO365 := A_ (Kd.R_elder' (rr_ HO365) (Kd.R_base ho0) hb)
  replace BK360 := bb_ BK360 hb
  replace BK361 := bb_ BK361 hb
  replace HB := b1_ hb
  clear hb ho0
  obtain ⟨Ao14, co14, eo14⟩ := Kd.R_slice HO368.out
  (first | subst eo14 | (injection eo14 with f1_ f2_ f3_; have f4_ := f1_.symm; have f5_ := f3_.symm; clear f1_ f2_ f3_; subst f4_; subst f5_))
  obtain ⟨Ao15, co15, eo15⟩ := Kd.R_slice HO365.out
  (first | subst eo15 | (injection eo15 with f1_ f2_ f3_; have f4_ := f1_.symm; have f5_ := f3_.symm; clear f1_ f2_ f3_; subst f4_; subst f5_))
  refine hK.out _ _ ⟨cz0_ BK360, cz1_ BK360⟩ (fun hHeld => ?_)
  clear hK K
  refine no_ (some 15) ?_
  refine pu_ 8 (some 16) (bl_ 11 511) HT_ ?_
  refine on_ 9 (none) (bl_ 11 1023) HT_ (fun K hK => ?_)
  have hs16 : w13.cell? ⟨gb361, 0, none⟩ = some (.slice none 0 0) := cz0_ BK361
  have hfs16 := kD_ BK361.out 0
  have hns16_0 := NB360_361.out
  have hms16_0 := NB361_360.out
  have hs17 : w13.cell? ⟨gb361, 1, none⟩ = some (.slice none 0 0) := cz1_ BK361
  have hfs17 := kD_ BK361.out 1
  have hns17_0 := NB360_361.out
  have hms17_0 := NB361_360.out
  refine skip_ (w1 := ?_) (by rfl) rfl ?_ ?_
  rotate_left
  ·go_simp
   rfl
  refine hK.out _ _ ⟨((cell_far (p := ⟨gb361, _, none⟩) NB360_361.out _).trans (((cell_far (p := ⟨gb361, _, none⟩) NB360_361.out _).trans (hHeld.1)))), ((cell_far (p := ⟨gb361, _, none⟩) NB360_361.out _).trans (((cell_far (p := ⟨gb361, _, none⟩) NB360_361.out _).trans (hHeld.2))))⟩ (fun hHeld => ?_)
  clear hK K
  refine pu_ 10 (some 3) (bl_ 11 2047) HT_ ?_
  refine done_ (done_of HT_.out (by kernel_rfl)) ?_
  try go_wp2
  refine bodyPost_ret (results_ct rfl _ _ gb361 25 #[.slice Ao15 t363.length co15, .slice Ao14 t366.length co14] (0, 0) _ rfl qp_ Try.underlying25 rfl (by kernel_rfl)) rfl ?_
  exact ⟨_, _, qb_, (rw_ (Kd.R_mono (fa_ HO365 BK361) (fun _ hk => hk.2))), (rw_ (Kd.R_mono (fa_ HO368 BK361) (fun _ hk => hk.2))), hB_⟩
 ·replace c3 := Bool.eq_false_iff.mpr c3
  subst c3
  have H1 : (some (([] : List Int), ([] : List Int), false)) = some (r1, r2, r3) := by rw [if_neg (show ¬ (false = true) by decide)] at H; exact H
  clear H
  have H := H1
  clear H1
  simp only [Option.some.injEq, Prod.mk.injEq] at H
  obtain ⟨rfl, rfl, rfl⟩ := H
  go_enter Try.func99, Try.ntmps99
  go_wp2_with (first | ((with_reducible refine gB_ (N := 1) rfl ?_); refine bx_ 1 #[.slice A0_0 l0_0.length c0_0, .slice A0_1 l0_1.length c0_1] 25 ?_; intro gb360 hg w18 hbox hb; have BK360 := A_ hbox; have GW360 := gw_ w hg; have GE360 := GW360; replace HB := b1_ hb; clear hb hbox hg) | ((with_reducible refine gB_ (N := 2) rfl ?_); refine bx_ 2 #[.slice none 0 0, .slice none 0 0] 25 ?_; intro gb361 hg w19 hbox hb; have BK361 := A_ hbox; have GW361 := gw_ w hg; have GE361 := GW361; replace HB := b1_ hb; have NB360_361 := gN_ BK360 hg; have NB361_360 := gP_ BK360 hg; replace BK360 := bb_ BK360 hb; clear hb hbox hg; have hnb20 := NB360_361.out; have hnc20 := NB361_360.out; obtain ⟨hcz21_0, hcz21_1, hfz21_0, hfz21_1⟩ := c2_ BK360) | ((with_reducible refine gA_ (f := 66) rfl ?_); refine gL_ (some 5) Try.func66 #[.agg #[.slice A0_0 l0_0.length c0_0, .slice A0_1 l0_1.length c0_1]] rfl qa_ ?_; (with_reducible refine (Z29.calls k _ _ l0_0 _ _ l0_1 false _ (cb_ HR0_0) HC0_0.out (cb_ HR0_1) HC0_1.out A2.out).mono ?_); rintro e w22 ⟨rfl, hb⟩; refine ⟨_, rfl, ?_⟩; replace BK360 := bb_ BK360 hb; replace BK361 := bb_ BK361 hb; replace HB := b1_ hb; clear hb; obtain ⟨hcz23_0, hcz23_1, hfz23_0, hfz23_1⟩ := c2_ BK361))
  refine bodyPost_ret (results_ct rfl _ _ gb361 25 #[.slice none 0 0, .slice none 0 0] (0, 0) _ rfl qp_ Try.underlying25 rfl (by kernel_rfl)) rfl ?_
  exact ⟨_, _, qb_, by first | exact Kd.R_nil _ _ _ _ _ | exact Kd.N_nil _ _ _ _ _ | exact Kd.V_nil _ _ _ _ _ | exact Kd.Q_nil _ _ _ _ _ | exact Kd.S_nil _ _ _ _ _, by first | exact Kd.R_nil _ _ _ _ _ | exact Kd.N_nil _ _ _ _ _ | exact Kd.V_nil _ _ _ _ _ | exact Kd.Q_nil _ _ _ _ _ | exact Kd.S_nil _ _ _ _ _, hB_⟩
def Z22.f (k : Nat) (l0_0 : List Int) (l0_1 : List Int) : Option (List Int × List Int × Bool) := (Z29.f k l0_0 l0_1).bind fun t371 => (if t371 = true then ((Z18.f k l0_1).bind fun t372 => ((Z38.f l0_0).bind fun t375 => (some (t372, t375, true)))) else (some (([] : List Int), ([] : List Int), false)))
theorem Z22.mono : ∀ a0 a1 k, LeO (Z22.f k a0 a1) (Z22.f (k + 1) a0 a1) := by
 intro a0 a1 k
 unfold Z22.f
 repeat' first|exact Z18.mono _ _|exact Z29.mono _ _ _|exact lo_|refine LeO.ite ?_ ?_|refine LeO.bind ?_ (fun _ => ?_)
def Z22.T3 : Bool × List (List Nat × List Nat) := (true, [([], []), ([0], [0]), ([1], [1]), ([], []), ([3], [3]), ([4, 2], [4]), ([2, 5], [2, 5]), ([6, 5, 0, 1, 2, 3, 4, 5, 6], [6]), ([7, 0, 1, 2, 3, 4, 5, 6, 7], [])])
def Z22.B3 : List Nat := [0, 1, 3, 0, 8, 31, 63, 127, 255]
theorem Z22.tab3 : rtab .any (opsOf Try.f100 3) = Z22.T3 := by kernel_rfl
theorem Z22.bits3 : waitsOk Z22.T3.2 Z22.B3 = true := by kernel_rfl
set_option maxHeartbeats 8000000 in
set_option maxRecDepth 100000 in
theorem Z22.calls (k : Nat) (A0_0 : Option Addr) (c0_0 : Nat) (l0_0 : List Int) (A0_1 : Option Addr) (c0_1 : Nat) (l0_1 : List Int) (r1 : List Int) (r2 : List Int) (r3 : Bool) (w : World) (hr0_0 : Kd.C (Kd.int .i64) w A0_0 l0_0.length l0_0) (hc0_0 : l0_0.length ≤ c0_0) (hr0_1 : Kd.C (Kd.int .i64) w A0_1 l0_1.length l0_1) (hc0_1 : l0_1.length ≤ c0_1) (h : Z22.f k l0_0 l0_1 = some (r1, r2, r3)) :
  Calls Try.prog 100 #[.agg #[.slice A0_0 l0_0.length c0_0, .slice A0_1 l0_1.length c0_1]] w fun e w' => ∃ v0_ v1_ : Value, e = .returned (.tuple #[.agg #[v0_, v1_], .bool r3]) ∧ Kd.R (Kd.int .i64) 3 w' w.heap.size (fun k_ => some k_ ≠ (v1_ : Value).ownBlock) v0_ r1 ∧ Kd.R (Kd.int .i64) 3 w' w.heap.size (fun k_ => some k_ ≠ (v0_ : Value).ownBlock) v1_ r2 ∧ Below w.heap.size w w' := by
 have hu25 := Try.underlying25
 have HR0_0 := A_ hr0_0
 have HC0_0 := A_ hc0_0
 clear hr0_0 hc0_0
 have HR0_1 := A_ hr0_1
 have HC0_1 := A_ hc0_1
 clear hr0_1 hc0_1
 have HB := A_ (Below.refl w.heap.size w)
 have H := h
 unfold Z22.f at H
 clear h
 obtain ⟨t371, A2, H⟩ := bi_ H
 by_cases c3 : t371 = true
 ·subst c3
  rw [if_pos rfl] at H
  obtain ⟨t372, A4, H⟩ := bi_ H
  obtain ⟨t375, A5, H⟩ := bi_ H
  simp only [Option.some.injEq, Prod.mk.injEq] at H
  obtain ⟨rfl, rfl, rfl⟩ := H
  go_enter Try.func100, Try.ntmps100
  try go_wp2_with (first | ((with_reducible refine gB_ (N := 1) rfl ?_); refine bx_ 1 #[.slice A0_0 l0_0.length c0_0, .slice A0_1 l0_1.length c0_1] 25 ?_; intro gb369 hg w6 hbox hb; have BK369 := A_ hbox; have GW369 := gw_ w hg; have GE369 := GW369; replace HB := b1_ hb; clear hb hbox hg) | ((with_reducible refine gB_ (N := 2) rfl ?_); refine bx_ 2 #[.slice none 0 0, .slice none 0 0] 25 ?_; intro gb370 hg w7 hbox hb; have BK370 := A_ hbox; have GW370 := gw_ w hg; have GE370 := GW370; replace HB := b1_ hb; have NB369_370 := gN_ BK369 hg; have NB370_369 := gP_ BK369 hg; replace BK369 := bb_ BK369 hb; clear hb hbox hg; have hnb8 := NB369_370.out; have hnc8 := NB370_369.out; obtain ⟨hcz9_0, hcz9_1, hfz9_0, hfz9_1⟩ := c2_ BK369) | ((with_reducible refine gA_ (f := 66) rfl ?_); refine gL_ (some 5) Try.func66 #[.agg #[.slice A0_0 l0_0.length c0_0, .slice A0_1 l0_1.length c0_1]] rfl qa_ ?_; (with_reducible refine (Z29.calls k _ _ l0_0 _ _ l0_1 true _ (cb_ HR0_0) HC0_0.out (cb_ HR0_1) HC0_1.out A2.out).mono ?_); rintro e w10 ⟨rfl, hb⟩; refine ⟨_, rfl, ?_⟩; replace BK369 := bb_ BK369 hb; replace BK370 := bb_ BK370 hb; replace HB := b1_ hb; clear hb))
  replace BK369 := A_ (kB_ BK369.out)
  replace BK370 := A_ (kB_ BK370.out)
  replace HB := A_ (bC_ HB.out)
  refine start_ (n := 9) (S := fun w' => w'.cell? ⟨gb369, 0, none⟩ = some (.slice A0_0 l0_0.length c0_0) ∧ w'.cell? ⟨gb369, 1, none⟩ = some (.slice A0_1 l0_1.length c0_1)) (ds := []) (bl_ 9 0) (by kernel_rfl) rfl (by kernel_rfl) ⟨cz0_ BK369, cz1_ BK369⟩ (fun hHeld => ?_); refine with_tabW Z22.tab3 Z22.bits3 (fun HT_ HW_ => ?_)
  generalize w10.drew = w11 at BK369 BK370 HB hHeld ⊢
  refine pu_ 0 (some 8) (bl_ 9 1) HT_ ?_
  refine pu_ 3 (some 11) (bl_ 9 9) HT_ ?_
  refine ta_ 1 (some 9) (bl_ 9 11) HT_ HW_ hHeld ?_
  refine ta_ 4 (some 12) (bl_ 9 27) HT_ HW_ hHeld ?_
  refine on_ 2 (some 10) (bl_ 9 31) HT_ (fun K hK => ?_)
  refine gO_ Try.func69 #[.slice A0_1 l0_1.length c0_1] (by rfl) rfl rfl qa_ ?_
  with_reducible refine (Z18.calls k _ _ l0_1 t372 _ (cb_ HR0_1) HC0_1.out A4.out).mono ?_
  rintro e w12 ⟨v373, rfl, ho0, hb⟩
  refine ⟨_, rfl, ?_⟩
  have HO374 := rl_ w ho0
  replace BK369 := bb_ BK369 hb
  replace BK370 := bb_ BK370 hb
  replace HB := b1_ hb
  clear hb ho0
  refine hK.out _ _ ⟨cz0_ BK369, cz1_ BK369⟩ (fun hHeld => ?_)
  clear hK K
  refine no_ (some 10) ?_
  refine on_ 5 (some 13) (bl_ 9 63) HT_ (fun K hK => ?_)
  refine gO_ Try.func67 #[.slice A0_0 l0_0.length c0_0] (by rfl) rfl rfl qa_ ?_
  with_reducible refine (Z38.calls _ _ l0_0 t375 _ (cb_ HR0_0) HC0_0.out A5.out).mono ?_
  rintro e w13 ⟨v376, rfl, ho0, hb⟩
  refine ⟨_, rfl, ?_⟩
  have HO377 := A_ (rE_ (Kd.R_new' ho0 (Kd.R_lt (rr_ HO374))) (bF_ hB_))
  replace HO374 := A_ (Kd.R_elder' (rr_ HO374) (Kd.R_base ho0) hb)
  replace BK369 := bb_ BK369 hb
  replace BK370 := bb_ BK370 hb
  replace HB := b1_ hb
  clear hb ho0
  obtain ⟨Ao14, co14, eo14⟩ := Kd.R_slice HO377.out
  (first | subst eo14 | (injection eo14 with f1_ f2_ f3_; have f4_ := f1_.symm; have f5_ := f3_.symm; clear f1_ f2_ f3_; subst f4_; subst f5_))
  obtain ⟨Ao15, co15, eo15⟩ := Kd.R_slice HO374.out
  (first | subst eo15 | (injection eo15 with f1_ f2_ f3_; have f4_ := f1_.symm; have f5_ := f3_.symm; clear f1_ f2_ f3_; subst f4_; subst f5_))
  refine hK.out _ _ ⟨cz0_ BK369, cz1_ BK369⟩ (fun hHeld => ?_)
  clear hK K
  refine no_ (some 13) ?_
  refine pu_ 6 (some 14) (bl_ 9 127) HT_ ?_
  refine on_ 7 (none) (bl_ 9 255) HT_ (fun K hK => ?_)
  have hs16 : w13.cell? ⟨gb370, 0, none⟩ = some (.slice none 0 0) := cz0_ BK370
  have hfs16 := kD_ BK370.out 0
  have hns16_0 := NB369_370.out
  have hms16_0 := NB370_369.out
  have hs17 : w13.cell? ⟨gb370, 1, none⟩ = some (.slice none 0 0) := cz1_ BK370
  have hfs17 := kD_ BK370.out 1
  have hns17_0 := NB369_370.out
  have hms17_0 := NB370_369.out
  refine skip_ (w1 := ?_) (by rfl) rfl ?_ ?_
  rotate_left
  ·go_simp
   rfl
  refine hK.out _ _ ⟨((cell_far (p := ⟨gb370, _, none⟩) NB369_370.out _).trans (((cell_far (p := ⟨gb370, _, none⟩) NB369_370.out _).trans (hHeld.1)))), ((cell_far (p := ⟨gb370, _, none⟩) NB369_370.out _).trans (((cell_far (p := ⟨gb370, _, none⟩) NB369_370.out _).trans (hHeld.2))))⟩ (fun hHeld => ?_)
  clear hK K
  refine pu_ 8 (some 3) (bl_ 9 511) HT_ ?_
  refine done_ (done_of HT_.out (by kernel_rfl)) ?_
  try go_wp2
  refine bodyPost_ret (results_ct rfl _ _ gb370 25 #[.slice Ao15 t372.length co15, .slice Ao14 t375.length co14] (0, 0) _ rfl qp_ Try.underlying25 rfl (by kernel_rfl)) rfl ?_
  exact ⟨_, _, qb_, (rw_ (Kd.R_mono (fa_ HO374 BK370) (fun _ hk => hk.2))), (rw_ (Kd.R_mono (fa_ HO377 BK370) (fun _ hk => hk.2))), hB_⟩
 ·replace c3 := Bool.eq_false_iff.mpr c3
  subst c3
  have H1 : (some (([] : List Int), ([] : List Int), false)) = some (r1, r2, r3) := by rw [if_neg (show ¬ (false = true) by decide)] at H; exact H
  clear H
  have H := H1
  clear H1
  simp only [Option.some.injEq, Prod.mk.injEq] at H
  obtain ⟨rfl, rfl, rfl⟩ := H
  go_enter Try.func100, Try.ntmps100
  go_wp2_with (first | ((with_reducible refine gB_ (N := 1) rfl ?_); refine bx_ 1 #[.slice A0_0 l0_0.length c0_0, .slice A0_1 l0_1.length c0_1] 25 ?_; intro gb369 hg w18 hbox hb; have BK369 := A_ hbox; have GW369 := gw_ w hg; have GE369 := GW369; replace HB := b1_ hb; clear hb hbox hg) | ((with_reducible refine gB_ (N := 2) rfl ?_); refine bx_ 2 #[.slice none 0 0, .slice none 0 0] 25 ?_; intro gb370 hg w19 hbox hb; have BK370 := A_ hbox; have GW370 := gw_ w hg; have GE370 := GW370; replace HB := b1_ hb; have NB369_370 := gN_ BK369 hg; have NB370_369 := gP_ BK369 hg; replace BK369 := bb_ BK369 hb; clear hb hbox hg; have hnb20 := NB369_370.out; have hnc20 := NB370_369.out; obtain ⟨hcz21_0, hcz21_1, hfz21_0, hfz21_1⟩ := c2_ BK369) | ((with_reducible refine gA_ (f := 66) rfl ?_); refine gL_ (some 5) Try.func66 #[.agg #[.slice A0_0 l0_0.length c0_0, .slice A0_1 l0_1.length c0_1]] rfl qa_ ?_; (with_reducible refine (Z29.calls k _ _ l0_0 _ _ l0_1 false _ (cb_ HR0_0) HC0_0.out (cb_ HR0_1) HC0_1.out A2.out).mono ?_); rintro e w22 ⟨rfl, hb⟩; refine ⟨_, rfl, ?_⟩; replace BK369 := bb_ BK369 hb; replace BK370 := bb_ BK370 hb; replace HB := b1_ hb; clear hb; obtain ⟨hcz23_0, hcz23_1, hfz23_0, hfz23_1⟩ := c2_ BK370))
  refine bodyPost_ret (results_ct rfl _ _ gb370 25 #[.slice none 0 0, .slice none 0 0] (0, 0) _ rfl qp_ Try.underlying25 rfl (by kernel_rfl)) rfl ?_
  exact ⟨_, _, qb_, by first | exact Kd.R_nil _ _ _ _ _ | exact Kd.N_nil _ _ _ _ _ | exact Kd.V_nil _ _ _ _ _ | exact Kd.Q_nil _ _ _ _ _ | exact Kd.S_nil _ _ _ _ _, by first | exact Kd.R_nil _ _ _ _ _ | exact Kd.N_nil _ _ _ _ _ | exact Kd.V_nil _ _ _ _ _ | exact Kd.Q_nil _ _ _ _ _ | exact Kd.S_nil _ _ _ _ _, hB_⟩
def Z10.f (k : Nat) (l0_0 : List Int) (l0_1 : List Int) : Option (List Int × List Int × Bool) := (Z29.f k l0_0 l0_1).bind fun t380 => (if t380 = true then ((Z38.f l0_1).bind fun t381 => ((Z18.f k l0_0).bind fun t384 => (some (t381, t384, true)))) else (some (([] : List Int), ([] : List Int), false)))
theorem Z10.mono : ∀ a0 a1 k, LeO (Z10.f k a0 a1) (Z10.f (k + 1) a0 a1) := by
 intro a0 a1 k
 unfold Z10.f
 repeat' first|exact Z18.mono _ _|exact Z29.mono _ _ _|exact lo_|refine LeO.ite ?_ ?_|refine LeO.bind ?_ (fun _ => ?_)
def Z10.T3 : Bool × List (List Nat × List Nat) := (true, [([], []), ([0], [0]), ([1], [1]), ([], []), ([3], [3]), ([4, 2], [4]), ([2, 5], [2, 5]), ([6, 5, 0, 1, 2, 3, 4, 5, 6], [6]), ([7, 0, 1, 2, 3, 4, 5, 6, 7], [])])
def Z10.B3 : List Nat := [0, 1, 3, 0, 8, 31, 63, 127, 255]
theorem Z10.tab3 : rtab .any (opsOf Try.f101 3) = Z10.T3 := by kernel_rfl
theorem Z10.bits3 : waitsOk Z10.T3.2 Z10.B3 = true := by kernel_rfl
set_option maxHeartbeats 8000000 in
set_option maxRecDepth 100000 in
theorem Z10.calls (k : Nat) (A0_0 : Option Addr) (c0_0 : Nat) (l0_0 : List Int) (A0_1 : Option Addr) (c0_1 : Nat) (l0_1 : List Int) (r1 : List Int) (r2 : List Int) (r3 : Bool) (w : World) (hr0_0 : Kd.C (Kd.int .i64) w A0_0 l0_0.length l0_0) (hc0_0 : l0_0.length ≤ c0_0) (hr0_1 : Kd.C (Kd.int .i64) w A0_1 l0_1.length l0_1) (hc0_1 : l0_1.length ≤ c0_1) (h : Z10.f k l0_0 l0_1 = some (r1, r2, r3)) :
  Calls Try.prog 101 #[.agg #[.slice A0_0 l0_0.length c0_0, .slice A0_1 l0_1.length c0_1]] w fun e w' => ∃ v0_ v1_ : Value, e = .returned (.tuple #[.agg #[v0_, v1_], .bool r3]) ∧ Kd.R (Kd.int .i64) 3 w' w.heap.size (fun k_ => some k_ ≠ (v1_ : Value).ownBlock) v0_ r1 ∧ Kd.R (Kd.int .i64) 3 w' w.heap.size (fun k_ => some k_ ≠ (v0_ : Value).ownBlock) v1_ r2 ∧ Below w.heap.size w w' := by
 have hu25 := Try.underlying25
 have HR0_0 := A_ hr0_0
 have HC0_0 := A_ hc0_0
 clear hr0_0 hc0_0
 have HR0_1 := A_ hr0_1
 have HC0_1 := A_ hc0_1
 clear hr0_1 hc0_1
 have HB := A_ (Below.refl w.heap.size w)
 have H := h
 unfold Z10.f at H
 clear h
 obtain ⟨t380, A2, H⟩ := bi_ H
 by_cases c3 : t380 = true
 ·subst c3
  rw [if_pos rfl] at H
  obtain ⟨t381, A4, H⟩ := bi_ H
  obtain ⟨t384, A5, H⟩ := bi_ H
  simp only [Option.some.injEq, Prod.mk.injEq] at H
  obtain ⟨rfl, rfl, rfl⟩ := H
  go_enter Try.func101, Try.ntmps101
  try go_wp2_with (first | ((with_reducible refine gB_ (N := 1) rfl ?_); refine bx_ 1 #[.slice A0_0 l0_0.length c0_0, .slice A0_1 l0_1.length c0_1] 25 ?_; intro gb378 hg w6 hbox hb; have BK378 := A_ hbox; have GW378 := gw_ w hg; have GE378 := GW378; replace HB := b1_ hb; clear hb hbox hg) | ((with_reducible refine gB_ (N := 2) rfl ?_); refine bx_ 2 #[.slice none 0 0, .slice none 0 0] 25 ?_; intro gb379 hg w7 hbox hb; have BK379 := A_ hbox; have GW379 := gw_ w hg; have GE379 := GW379; replace HB := b1_ hb; have NB378_379 := gN_ BK378 hg; have NB379_378 := gP_ BK378 hg; replace BK378 := bb_ BK378 hb; clear hb hbox hg; have hnb8 := NB378_379.out; have hnc8 := NB379_378.out; obtain ⟨hcz9_0, hcz9_1, hfz9_0, hfz9_1⟩ := c2_ BK378) | ((with_reducible refine gA_ (f := 66) rfl ?_); refine gL_ (some 5) Try.func66 #[.agg #[.slice A0_0 l0_0.length c0_0, .slice A0_1 l0_1.length c0_1]] rfl qa_ ?_; (with_reducible refine (Z29.calls k _ _ l0_0 _ _ l0_1 true _ (cb_ HR0_0) HC0_0.out (cb_ HR0_1) HC0_1.out A2.out).mono ?_); rintro e w10 ⟨rfl, hb⟩; refine ⟨_, rfl, ?_⟩; replace BK378 := bb_ BK378 hb; replace BK379 := bb_ BK379 hb; replace HB := b1_ hb; clear hb))
  replace BK378 := A_ (kB_ BK378.out)
  replace BK379 := A_ (kB_ BK379.out)
  replace HB := A_ (bC_ HB.out)
  refine start_ (n := 9) (S := fun w' => w'.cell? ⟨gb378, 0, none⟩ = some (.slice A0_0 l0_0.length c0_0) ∧ w'.cell? ⟨gb378, 1, none⟩ = some (.slice A0_1 l0_1.length c0_1)) (ds := []) (bl_ 9 0) (by kernel_rfl) rfl (by kernel_rfl) ⟨cz0_ BK378, cz1_ BK378⟩ (fun hHeld => ?_); refine with_tabW Z10.tab3 Z10.bits3 (fun HT_ HW_ => ?_)
  generalize w10.drew = w11 at BK378 BK379 HB hHeld ⊢
  refine pu_ 0 (some 8) (bl_ 9 1) HT_ ?_
  refine pu_ 3 (some 11) (bl_ 9 9) HT_ ?_
  refine ta_ 1 (some 9) (bl_ 9 11) HT_ HW_ hHeld ?_
  refine ta_ 4 (some 12) (bl_ 9 27) HT_ HW_ hHeld ?_
  refine on_ 2 (some 10) (bl_ 9 31) HT_ (fun K hK => ?_)
  refine gO_ Try.func67 #[.slice A0_1 l0_1.length c0_1] (by rfl) rfl rfl qa_ ?_
  with_reducible refine (Z38.calls _ _ l0_1 t381 _ (cb_ HR0_1) HC0_1.out A4.out).mono ?_
  rintro e w12 ⟨v382, rfl, ho0, hb⟩
  refine ⟨_, rfl, ?_⟩
  have HO383 := rl_ w ho0
  replace BK378 := bb_ BK378 hb
  replace BK379 := bb_ BK379 hb
  replace HB := b1_ hb
  clear hb ho0
  refine hK.out _ _ ⟨cz0_ BK378, cz1_ BK378⟩ (fun hHeld => ?_)
  clear hK K
  refine no_ (some 10) ?_
  refine on_ 5 (some 13) (bl_ 9 63) HT_ (fun K hK => ?_)
  refine gO_ Try.func69 #[.slice A0_0 l0_0.length c0_0] (by rfl) rfl rfl qa_ ?_
  with_reducible refine (Z18.calls k _ _ l0_0 t384 _ (cb_ HR0_0) HC0_0.out A5.out).mono ?_
  rintro e w13 ⟨v385, rfl, ho0, hb⟩
  refine ⟨_, rfl, ?_⟩
  have HO386 := A_ (rE_ (Kd.R_new' ho0 (Kd.R_lt (rr_ HO383))) (bF_ hB_))
  replace HO383 := A_ (Kd.R_elder' (rr_ HO383) (Kd.R_base ho0) hb)
  replace BK378 := bb_ BK378 hb
  replace BK379 := bb_ BK379 hb
  replace HB := b1_ hb
  clear hb ho0
  obtain ⟨Ao14, co14, eo14⟩ := Kd.R_slice HO386.out
  (first | subst eo14 | (injection eo14 with f1_ f2_ f3_; have f4_ := f1_.symm; have f5_ := f3_.symm; clear f1_ f2_ f3_; subst f4_; subst f5_))
  obtain ⟨Ao15, co15, eo15⟩ := Kd.R_slice HO383.out
  (first | subst eo15 | (injection eo15 with f1_ f2_ f3_; have f4_ := f1_.symm; have f5_ := f3_.symm; clear f1_ f2_ f3_; subst f4_; subst f5_))
  refine hK.out _ _ ⟨cz0_ BK378, cz1_ BK378⟩ (fun hHeld => ?_)
  clear hK K
  refine no_ (some 13) ?_
  refine pu_ 6 (some 14) (bl_ 9 127) HT_ ?_
  refine on_ 7 (none) (bl_ 9 255) HT_ (fun K hK => ?_)
  have hs16 : w13.cell? ⟨gb379, 0, none⟩ = some (.slice none 0 0) := cz0_ BK379
  have hfs16 := kD_ BK379.out 0
  have hns16_0 := NB378_379.out
  have hms16_0 := NB379_378.out
  have hs17 : w13.cell? ⟨gb379, 1, none⟩ = some (.slice none 0 0) := cz1_ BK379
  have hfs17 := kD_ BK379.out 1
  have hns17_0 := NB378_379.out
  have hms17_0 := NB379_378.out
  refine skip_ (w1 := ?_) (by rfl) rfl ?_ ?_
  rotate_left
  ·go_simp
   rfl
  refine hK.out _ _ ⟨((cell_far (p := ⟨gb379, _, none⟩) NB378_379.out _).trans (((cell_far (p := ⟨gb379, _, none⟩) NB378_379.out _).trans (hHeld.1)))), ((cell_far (p := ⟨gb379, _, none⟩) NB378_379.out _).trans (((cell_far (p := ⟨gb379, _, none⟩) NB378_379.out _).trans (hHeld.2))))⟩ (fun hHeld => ?_)
  clear hK K
  refine pu_ 8 (some 3) (bl_ 9 511) HT_ ?_
  refine done_ (done_of HT_.out (by kernel_rfl)) ?_
  try go_wp2
  refine bodyPost_ret (results_ct rfl _ _ gb379 25 #[.slice Ao15 t381.length co15, .slice Ao14 t384.length co14] (0, 0) _ rfl qp_ Try.underlying25 rfl (by kernel_rfl)) rfl ?_
  exact ⟨_, _, qb_, (rw_ (Kd.R_mono (fa_ HO383 BK379) (fun _ hk => hk.2))), (rw_ (Kd.R_mono (fa_ HO386 BK379) (fun _ hk => hk.2))), hB_⟩
 ·replace c3 := Bool.eq_false_iff.mpr c3
  subst c3
  have H1 : (some (([] : List Int), ([] : List Int), false)) = some (r1, r2, r3) := by rw [if_neg (show ¬ (false = true) by decide)] at H; exact H
  clear H
  have H := H1
  clear H1
  simp only [Option.some.injEq, Prod.mk.injEq] at H
  obtain ⟨rfl, rfl, rfl⟩ := H
  go_enter Try.func101, Try.ntmps101
  go_wp2_with (first | ((with_reducible refine gB_ (N := 1) rfl ?_); refine bx_ 1 #[.slice A0_0 l0_0.length c0_0, .slice A0_1 l0_1.length c0_1] 25 ?_; intro gb378 hg w18 hbox hb; have BK378 := A_ hbox; have GW378 := gw_ w hg; have GE378 := GW378; replace HB := b1_ hb; clear hb hbox hg) | ((with_reducible refine gB_ (N := 2) rfl ?_); refine bx_ 2 #[.slice none 0 0, .slice none 0 0] 25 ?_; intro gb379 hg w19 hbox hb; have BK379 := A_ hbox; have GW379 := gw_ w hg; have GE379 := GW379; replace HB := b1_ hb; have NB378_379 := gN_ BK378 hg; have NB379_378 := gP_ BK378 hg; replace BK378 := bb_ BK378 hb; clear hb hbox hg; have hnb20 := NB378_379.out; have hnc20 := NB379_378.out; obtain ⟨hcz21_0, hcz21_1, hfz21_0, hfz21_1⟩ := c2_ BK378) | ((with_reducible refine gA_ (f := 66) rfl ?_); refine gL_ (some 5) Try.func66 #[.agg #[.slice A0_0 l0_0.length c0_0, .slice A0_1 l0_1.length c0_1]] rfl qa_ ?_; (with_reducible refine (Z29.calls k _ _ l0_0 _ _ l0_1 false _ (cb_ HR0_0) HC0_0.out (cb_ HR0_1) HC0_1.out A2.out).mono ?_); rintro e w22 ⟨rfl, hb⟩; refine ⟨_, rfl, ?_⟩; replace BK378 := bb_ BK378 hb; replace BK379 := bb_ BK379 hb; replace HB := b1_ hb; clear hb; obtain ⟨hcz23_0, hcz23_1, hfz23_0, hfz23_1⟩ := c2_ BK379))
  refine bodyPost_ret (results_ct rfl _ _ gb379 25 #[.slice none 0 0, .slice none 0 0] (0, 0) _ rfl qp_ Try.underlying25 rfl (by kernel_rfl)) rfl ?_
  exact ⟨_, _, qb_, by first | exact Kd.R_nil _ _ _ _ _ | exact Kd.N_nil _ _ _ _ _ | exact Kd.V_nil _ _ _ _ _ | exact Kd.Q_nil _ _ _ _ _ | exact Kd.S_nil _ _ _ _ _, by first | exact Kd.R_nil _ _ _ _ _ | exact Kd.N_nil _ _ _ _ _ | exact Kd.V_nil _ _ _ _ _ | exact Kd.Q_nil _ _ _ _ _ | exact Kd.S_nil _ _ _ _ _, hB_⟩
def Z11.f (k : Nat) (l0_0 : List Int) (l0_1 : List Int) (a1 : Int) : Option (List Int × List Int) := if a1 = 84 then ((Z15.f k l0_0 l0_1).bind fun bt390 => (some (bt390.1, bt390.2.1))) else (if a1 = 116 then ((Z7.f k l0_0 l0_1).bind fun bt397 => (some (bt397.1, bt397.2.1))) else (if a1 = 83 then ((Z22.f k l0_0 l0_1).bind fun bt404 => (some (bt404.1, bt404.2.1))) else (if a1 = 115 then ((Z10.f k l0_0 l0_1).bind fun bt411 => (some (bt411.1, bt411.2.1))) else (some (([] : List Int), ([] : List Int))))))
theorem Z11.mono : ∀ a0 a1 a2 k, LeO (Z11.f k a0 a1 a2) (Z11.f (k + 1) a0 a1 a2) := by
 intro a0 a1 a2 k
 unfold Z11.f
 repeat' first|exact Z15.mono _ _ _|exact Z22.mono _ _ _|exact Z7.mono _ _ _|exact Z10.mono _ _ _|exact lo_|refine LeO.ite ?_ ?_|refine LeO.bind ?_ (fun _ => ?_)
set_option maxHeartbeats 8000000 in
set_option maxRecDepth 100000 in
theorem Z11.calls (k : Nat) (A0_0 : Option Addr) (c0_0 : Nat) (l0_0 : List Int) (A0_1 : Option Addr) (c0_1 : Nat) (l0_1 : List Int) (a1 : Int) (r1 : List Int) (r2 : List Int) (w : World) (hr0_0 : Kd.C (Kd.int .i64) w A0_0 l0_0.length l0_0) (hc0_0 : l0_0.length ≤ c0_0) (hr0_1 : Kd.C (Kd.int .i64) w A0_1 l0_1.length l0_1) (hc0_1 : l0_1.length ≤ c0_1) (h : Z11.f k l0_0 l0_1 a1 = some (r1, r2)) :
  Calls Try.prog 63 #[.agg #[.slice A0_0 l0_0.length c0_0, .slice A0_1 l0_1.length c0_1], .int .u8 a1] w fun e w' => ∃ v0_ v1_ : Value, e = .returned (.agg #[v0_, v1_]) ∧ Kd.R (Kd.int .i64) 3 w' w.heap.size (fun k_ => some k_ ≠ (v1_ : Value).ownBlock) v0_ r1 ∧ Kd.R (Kd.int .i64) 3 w' w.heap.size (fun k_ => some k_ ≠ (v0_ : Value).ownBlock) v1_ r2 ∧ Below w.heap.size w w' := by
 have hu25 := Try.underlying25
 have HR0_0 := A_ hr0_0
 have HC0_0 := A_ hc0_0
 clear hr0_0 hc0_0
 have HR0_1 := A_ hr0_1
 have HC0_1 := A_ hc0_1
 clear hr0_1 hc0_1
 have HB := A_ (Below.refl w.heap.size w)
 have H := h
 unfold Z11.f at H
 clear h
 by_cases c3 : a1 = 84
 ·rw [if_pos c3] at H
  have c3b0 : (a1 == 84) = true := beq_iff_eq.mpr c3
  have c3b1 : (a1 != 84) = false := bne_eq_false_iff_eq.mpr c3
  clear c3
  obtain ⟨⟨t390, t393, t396⟩, A4, H⟩ := bi_ H
  try dsimp only at H
  simp only [Option.some.injEq, Prod.mk.injEq] at H
  obtain ⟨rfl, rfl⟩ := H
  go_enter Try.func63, Try.ntmps63
  go_wp2_with (first | ((with_reducible refine gB_ (N := 2) rfl ?_); refine bx_ 2 #[.slice A0_0 l0_0.length c0_0, .slice A0_1 l0_1.length c0_1] 25 ?_; intro gb387 hg w5 hbox hb; have BK387 := A_ hbox; have GW387 := gw_ w hg; have GE387 := GW387; replace HB := b1_ hb; clear hb hbox hg) | ((with_reducible refine gB_ (N := 4) rfl ?_); refine bx_ 4 #[.slice none 0 0, .slice none 0 0] 25 ?_; intro gb388 hg w6 hbox hb; have BK388 := A_ hbox; have GW388 := gw_ w hg; have GE388 := GW388; replace HB := b1_ hb; have NB387_388 := gN_ BK387 hg; have NB388_387 := gP_ BK387 hg; replace BK387 := bb_ BK387 hb; clear hb hbox hg) | ((with_reducible refine gB_ (N := 5) rfl ?_); refine bx_ 5 #[.slice none 0 0, .slice none 0 0] 25 ?_; intro gb389 hg w7 hbox hb; have BK389 := A_ hbox; have GW389 := gw_ w hg; have GE389 := GW389; replace HB := b1_ hb; have NB387_389 := gN_ BK387 hg; have NB389_387 := gP_ BK387 hg; replace BK387 := bb_ BK387 hb; have NB388_389 := gN_ BK388 hg; have NB389_388 := gP_ BK388 hg; replace BK388 := bb_ BK388 hb; clear hb hbox hg; have hnb8 := NB389_387.out; have hnc8 := NB387_389.out; have hnb9 := NB389_388.out; have hnc9 := NB388_389.out; obtain ⟨hcz10_0, hcz10_1, hfz10_0, hfz10_1⟩ := c2_ BK389; have hnb11 := NB387_388.out; have hnc11 := NB388_387.out; obtain ⟨hcz12_0, hcz12_1, hfz12_0, hfz12_1⟩ := c2_ BK387) | ((with_reducible refine gA_ (f := 22) rfl ?_); refine gL_ (some 12) Try.func22 #[.agg #[.slice A0_0 l0_0.length c0_0, .slice A0_1 l0_1.length c0_1]] rfl qa_ ?_; (with_reducible refine (Z15.calls k _ _ l0_0 _ _ l0_1 t390 t393 t396 _ (cD_ HR0_0.out hB_) HC0_0.out (cD_ HR0_1.out hB_) HC0_1.out A4.out).mono ?_); rintro e w13 ⟨v391, v394, rfl, ho0, ho1, hb⟩; refine ⟨_, rfl, ?_⟩; have HO392 := rl_ w ho0; have HO395 := rl_ w ho1; replace BK387 := A_ (kE_ (g := gb387) (o := .cells #[.slice A0_0 l0_0.length c0_0, .slice A0_1 l0_1.length c0_1] 25 (0, 0)) (by (with_reducible repeat (first | refine kA_ ?_ _ | refine kB_ ?_ | refine kC_ ?_ _)); refine blk_far ?_ NB387_389.out _; (with_reducible repeat (first | refine kA_ ?_ _ | refine kB_ ?_ | refine kC_ ?_ _)); refine blk_far ?_ NB387_389.out _; (with_reducible repeat (first | refine kA_ ?_ _ | refine kB_ ?_ | refine kC_ ?_ _)); exact BK387.out) hb); replace BK388 := A_ (kE_ (g := gb388) (o := .cells #[.slice none 0 0, .slice none 0 0] 25 (0, 0)) (by (with_reducible repeat (first | refine kA_ ?_ _ | refine kB_ ?_ | refine kC_ ?_ _)); refine blk_far ?_ NB388_389.out _; (with_reducible repeat (first | refine kA_ ?_ _ | refine kB_ ?_ | refine kC_ ?_ _)); refine blk_far ?_ NB388_389.out _; (with_reducible repeat (first | refine kA_ ?_ _ | refine kB_ ?_ | refine kC_ ?_ _)); exact BK388.out) hb); replace BK389 := A_ (kE_ (g := gb389) (o := .cells #[.slice none 0 0, .slice none 0 0] 25 (0, 0)) qp_ hb); replace HB := b1_ hb; clear hb ho0 ho1; obtain ⟨Ao14, co14, eo14⟩ := Kd.R_slice HO392.out; subst eo14; obtain ⟨hcz15_0, hcz15_1, hfz15_0, hfz15_1⟩ := c2_ BK389; obtain ⟨Ao16, co16, eo16⟩ := Kd.R_slice HO395.out; subst eo16; obtain ⟨hcz17_0, hcz17_1, hfz17_0, hfz17_1⟩ := c2_ BK388))
  refine bodyPost_ret (results_cell_row rfl _ _ gb388 25 #[.slice Ao14 t390.length co14, .slice Ao16 t393.length co16] (0, 0) _ rfl (by (with_reducible repeat (first | refine kA_ ?_ _ | refine kB_ ?_ | refine kC_ ?_ _)); refine blk_put (cs := #[.slice Ao14 t390.length co14, .slice none 0 0]) ?_ 1 _ rfl; (with_reducible repeat (first | refine kA_ ?_ _ | refine kB_ ?_ | refine kC_ ?_ _)); refine blk_put (cs := #[.slice none 0 0, .slice none 0 0]) ?_ 0 _ rfl; (with_reducible repeat (first | refine kA_ ?_ _ | refine kB_ ?_ | refine kC_ ?_ _)); refine blk_far ?_ NB388_389.out _; (with_reducible repeat (first | refine kA_ ?_ _ | refine kB_ ?_ | refine kC_ ?_ _)); refine blk_far ?_ NB388_389.out _; (with_reducible repeat (first | refine kA_ ?_ _ | refine kB_ ?_ | refine kC_ ?_ _)); exact BK388.out) Try.underlying25 rfl (by kernel_rfl)) rfl ?_
  exact ⟨_, _, qb_, (rw_ (Kd.R_mono (Kd.R_far (p := ⟨gb388, 1, none⟩) (Kd.R_far (p := ⟨gb388, 0, none⟩) (Kd.R_far (p := ⟨gb389, 1, none⟩) (Kd.R_far (p := ⟨gb389, 0, none⟩) (Kd.R_types (Kd.R_types HO392.out BK389.out (by decide)) BK388.out (by decide)) (fun _ hk => hk.1.2) (.slice Ao14 t390.length co14)) (fun _ hk => hk.1.2) (.slice Ao16 t393.length co16)) (fun _ hk => hk.2) (.slice Ao14 t390.length co14)) (fun _ hk => hk.2) (.slice Ao16 t393.length co16)) (fun _ hk => hk.1.1))), (rw_ (Kd.R_mono (Kd.R_far (p := ⟨gb388, 1, none⟩) (Kd.R_far (p := ⟨gb388, 0, none⟩) (Kd.R_far (p := ⟨gb389, 1, none⟩) (Kd.R_far (p := ⟨gb389, 0, none⟩) (Kd.R_types (Kd.R_types HO395.out BK389.out (by decide)) BK388.out (by decide)) (fun _ hk => hk.1.2) (.slice Ao14 t390.length co14)) (fun _ hk => hk.1.2) (.slice Ao16 t393.length co16)) (fun _ hk => hk.2) (.slice Ao14 t390.length co14)) (fun _ hk => hk.2) (.slice Ao16 t393.length co16)) (fun _ hk => hk.1.1))), hB_⟩
 ·rw [if_neg c3] at H
  have c3b0 : (a1 == 84) = false := beq_eq_false_iff_ne.mpr c3
  have c3b1 : (a1 != 84) = true := bne_iff_ne.mpr c3
  by_cases c18 : a1 = 116
  ·rw [if_pos c18] at H
   have c18b0 : (a1 == 116) = true := beq_iff_eq.mpr c18
   have c18b1 : (a1 != 116) = false := bne_eq_false_iff_eq.mpr c18
   clear c18
   obtain ⟨⟨t397, t400, t403⟩, A19, H⟩ := bi_ H
   try dsimp only at H
   simp only [Option.some.injEq, Prod.mk.injEq] at H
   obtain ⟨rfl, rfl⟩ := H
   go_enter Try.func63, Try.ntmps63
   go_wp2_with (first | ((with_reducible refine gB_ (N := 2) rfl ?_); refine bx_ 2 #[.slice A0_0 l0_0.length c0_0, .slice A0_1 l0_1.length c0_1] 25 ?_; intro gb387 hg w20 hbox hb; have BK387 := A_ hbox; have GW387 := gw_ w hg; have GE387 := GW387; replace HB := b1_ hb; clear hb hbox hg) | ((with_reducible refine gB_ (N := 4) rfl ?_); refine bx_ 4 #[.slice none 0 0, .slice none 0 0] 25 ?_; intro gb388 hg w21 hbox hb; have BK388 := A_ hbox; have GW388 := gw_ w hg; have GE388 := GW388; replace HB := b1_ hb; have NB387_388 := gN_ BK387 hg; have NB388_387 := gP_ BK387 hg; replace BK387 := bb_ BK387 hb; clear hb hbox hg) | ((with_reducible refine gB_ (N := 5) rfl ?_); refine bx_ 5 #[.slice none 0 0, .slice none 0 0] 25 ?_; intro gb389 hg w22 hbox hb; have BK389 := A_ hbox; have GW389 := gw_ w hg; have GE389 := GW389; replace HB := b1_ hb; have NB387_389 := gN_ BK387 hg; have NB389_387 := gP_ BK387 hg; replace BK387 := bb_ BK387 hb; have NB388_389 := gN_ BK388 hg; have NB389_388 := gP_ BK388 hg; replace BK388 := bb_ BK388 hb; clear hb hbox hg; have hnb23 := NB389_387.out; have hnc23 := NB387_389.out; have hnb24 := NB389_388.out; have hnc24 := NB388_389.out; obtain ⟨hcz25_0, hcz25_1, hfz25_0, hfz25_1⟩ := c2_ BK389; have hnb26 := NB387_388.out; have hnc26 := NB388_387.out; obtain ⟨hcz27_0, hcz27_1, hfz27_0, hfz27_1⟩ := c2_ BK387) | ((with_reducible refine gA_ (f := 99) rfl ?_); refine gL_ (some 19) Try.func99 #[.agg #[.slice A0_0 l0_0.length c0_0, .slice A0_1 l0_1.length c0_1]] rfl qa_ ?_; (with_reducible refine (Z7.calls k _ _ l0_0 _ _ l0_1 t397 t400 t403 _ (cD_ HR0_0.out hB_) HC0_0.out (cD_ HR0_1.out hB_) HC0_1.out A19.out).mono ?_); rintro e w28 ⟨v398, v401, rfl, ho0, ho1, hb⟩; refine ⟨_, rfl, ?_⟩; have HO399 := rl_ w ho0; have HO402 := rl_ w ho1; replace BK387 := A_ (kE_ (g := gb387) (o := .cells #[.slice A0_0 l0_0.length c0_0, .slice A0_1 l0_1.length c0_1] 25 (0, 0)) (by (with_reducible repeat (first | refine kA_ ?_ _ | refine kB_ ?_ | refine kC_ ?_ _)); refine blk_far ?_ NB387_389.out _; (with_reducible repeat (first | refine kA_ ?_ _ | refine kB_ ?_ | refine kC_ ?_ _)); refine blk_far ?_ NB387_389.out _; (with_reducible repeat (first | refine kA_ ?_ _ | refine kB_ ?_ | refine kC_ ?_ _)); exact BK387.out) hb); replace BK388 := A_ (kE_ (g := gb388) (o := .cells #[.slice none 0 0, .slice none 0 0] 25 (0, 0)) (by (with_reducible repeat (first | refine kA_ ?_ _ | refine kB_ ?_ | refine kC_ ?_ _)); refine blk_far ?_ NB388_389.out _; (with_reducible repeat (first | refine kA_ ?_ _ | refine kB_ ?_ | refine kC_ ?_ _)); refine blk_far ?_ NB388_389.out _; (with_reducible repeat (first | refine kA_ ?_ _ | refine kB_ ?_ | refine kC_ ?_ _)); exact BK388.out) hb); replace BK389 := A_ (kE_ (g := gb389) (o := .cells #[.slice none 0 0, .slice none 0 0] 25 (0, 0)) qp_ hb); replace HB := b1_ hb; clear hb ho0 ho1; obtain ⟨Ao29, co29, eo29⟩ := Kd.R_slice HO399.out; subst eo29; obtain ⟨hcz30_0, hcz30_1, hfz30_0, hfz30_1⟩ := c2_ BK389; obtain ⟨Ao31, co31, eo31⟩ := Kd.R_slice HO402.out; subst eo31; obtain ⟨hcz32_0, hcz32_1, hfz32_0, hfz32_1⟩ := c2_ BK388))
   refine bodyPost_ret (results_cell_row rfl _ _ gb388 25 #[.slice Ao29 t397.length co29, .slice Ao31 t400.length co31] (0, 0) _ rfl (by (with_reducible repeat (first | refine kA_ ?_ _ | refine kB_ ?_ | refine kC_ ?_ _)); refine blk_put (cs := #[.slice Ao29 t397.length co29, .slice none 0 0]) ?_ 1 _ rfl; (with_reducible repeat (first | refine kA_ ?_ _ | refine kB_ ?_ | refine kC_ ?_ _)); refine blk_put (cs := #[.slice none 0 0, .slice none 0 0]) ?_ 0 _ rfl; (with_reducible repeat (first | refine kA_ ?_ _ | refine kB_ ?_ | refine kC_ ?_ _)); refine blk_far ?_ NB388_389.out _; (with_reducible repeat (first | refine kA_ ?_ _ | refine kB_ ?_ | refine kC_ ?_ _)); refine blk_far ?_ NB388_389.out _; (with_reducible repeat (first | refine kA_ ?_ _ | refine kB_ ?_ | refine kC_ ?_ _)); exact BK388.out) Try.underlying25 rfl (by kernel_rfl)) rfl ?_
   exact ⟨_, _, qb_, (rw_ (Kd.R_mono (Kd.R_far (p := ⟨gb388, 1, none⟩) (Kd.R_far (p := ⟨gb388, 0, none⟩) (Kd.R_far (p := ⟨gb389, 1, none⟩) (Kd.R_far (p := ⟨gb389, 0, none⟩) (Kd.R_types (Kd.R_types HO399.out BK389.out (by decide)) BK388.out (by decide)) (fun _ hk => hk.1.2) (.slice Ao29 t397.length co29)) (fun _ hk => hk.1.2) (.slice Ao31 t400.length co31)) (fun _ hk => hk.2) (.slice Ao29 t397.length co29)) (fun _ hk => hk.2) (.slice Ao31 t400.length co31)) (fun _ hk => hk.1.1))), (rw_ (Kd.R_mono (Kd.R_far (p := ⟨gb388, 1, none⟩) (Kd.R_far (p := ⟨gb388, 0, none⟩) (Kd.R_far (p := ⟨gb389, 1, none⟩) (Kd.R_far (p := ⟨gb389, 0, none⟩) (Kd.R_types (Kd.R_types HO402.out BK389.out (by decide)) BK388.out (by decide)) (fun _ hk => hk.1.2) (.slice Ao29 t397.length co29)) (fun _ hk => hk.1.2) (.slice Ao31 t400.length co31)) (fun _ hk => hk.2) (.slice Ao29 t397.length co29)) (fun _ hk => hk.2) (.slice Ao31 t400.length co31)) (fun _ hk => hk.1.1))), hB_⟩
  ·rw [if_neg c18] at H
   have c18b0 : (a1 == 116) = false := beq_eq_false_iff_ne.mpr c18
   have c18b1 : (a1 != 116) = true := bne_iff_ne.mpr c18
   by_cases c33 : a1 = 83
   ·rw [if_pos c33] at H
    have c33b0 : (a1 == 83) = true := beq_iff_eq.mpr c33
    have c33b1 : (a1 != 83) = false := bne_eq_false_iff_eq.mpr c33
    clear c33
    obtain ⟨⟨t404, t407, t410⟩, A34, H⟩ := bi_ H
    try dsimp only at H
    simp only [Option.some.injEq, Prod.mk.injEq] at H
    obtain ⟨rfl, rfl⟩ := H
    go_enter Try.func63, Try.ntmps63
    go_wp2_with (first | ((with_reducible refine gB_ (N := 2) rfl ?_); refine bx_ 2 #[.slice A0_0 l0_0.length c0_0, .slice A0_1 l0_1.length c0_1] 25 ?_; intro gb387 hg w35 hbox hb; have BK387 := A_ hbox; have GW387 := gw_ w hg; have GE387 := GW387; replace HB := b1_ hb; clear hb hbox hg) | ((with_reducible refine gB_ (N := 4) rfl ?_); refine bx_ 4 #[.slice none 0 0, .slice none 0 0] 25 ?_; intro gb388 hg w36 hbox hb; have BK388 := A_ hbox; have GW388 := gw_ w hg; have GE388 := GW388; replace HB := b1_ hb; have NB387_388 := gN_ BK387 hg; have NB388_387 := gP_ BK387 hg; replace BK387 := bb_ BK387 hb; clear hb hbox hg) | ((with_reducible refine gB_ (N := 5) rfl ?_); refine bx_ 5 #[.slice none 0 0, .slice none 0 0] 25 ?_; intro gb389 hg w37 hbox hb; have BK389 := A_ hbox; have GW389 := gw_ w hg; have GE389 := GW389; replace HB := b1_ hb; have NB387_389 := gN_ BK387 hg; have NB389_387 := gP_ BK387 hg; replace BK387 := bb_ BK387 hb; have NB388_389 := gN_ BK388 hg; have NB389_388 := gP_ BK388 hg; replace BK388 := bb_ BK388 hb; clear hb hbox hg; have hnb38 := NB389_387.out; have hnc38 := NB387_389.out; have hnb39 := NB389_388.out; have hnc39 := NB388_389.out; obtain ⟨hcz40_0, hcz40_1, hfz40_0, hfz40_1⟩ := c2_ BK389; have hnb41 := NB387_388.out; have hnc41 := NB388_387.out; obtain ⟨hcz42_0, hcz42_1, hfz42_0, hfz42_1⟩ := c2_ BK387) | ((with_reducible refine gA_ (f := 100) rfl ?_); refine gL_ (some 26) Try.func100 #[.agg #[.slice A0_0 l0_0.length c0_0, .slice A0_1 l0_1.length c0_1]] rfl qa_ ?_; (with_reducible refine (Z22.calls k _ _ l0_0 _ _ l0_1 t404 t407 t410 _ (cD_ HR0_0.out hB_) HC0_0.out (cD_ HR0_1.out hB_) HC0_1.out A34.out).mono ?_); rintro e w43 ⟨v405, v408, rfl, ho0, ho1, hb⟩; refine ⟨_, rfl, ?_⟩; have HO406 := rl_ w ho0; have HO409 := rl_ w ho1; replace BK387 := A_ (kE_ (g := gb387) (o := .cells #[.slice A0_0 l0_0.length c0_0, .slice A0_1 l0_1.length c0_1] 25 (0, 0)) (by (with_reducible repeat (first | refine kA_ ?_ _ | refine kB_ ?_ | refine kC_ ?_ _)); refine blk_far ?_ NB387_389.out _; (with_reducible repeat (first | refine kA_ ?_ _ | refine kB_ ?_ | refine kC_ ?_ _)); refine blk_far ?_ NB387_389.out _; (with_reducible repeat (first | refine kA_ ?_ _ | refine kB_ ?_ | refine kC_ ?_ _)); exact BK387.out) hb); replace BK388 := A_ (kE_ (g := gb388) (o := .cells #[.slice none 0 0, .slice none 0 0] 25 (0, 0)) (by (with_reducible repeat (first | refine kA_ ?_ _ | refine kB_ ?_ | refine kC_ ?_ _)); refine blk_far ?_ NB388_389.out _; (with_reducible repeat (first | refine kA_ ?_ _ | refine kB_ ?_ | refine kC_ ?_ _)); refine blk_far ?_ NB388_389.out _; (with_reducible repeat (first | refine kA_ ?_ _ | refine kB_ ?_ | refine kC_ ?_ _)); exact BK388.out) hb); replace BK389 := A_ (kE_ (g := gb389) (o := .cells #[.slice none 0 0, .slice none 0 0] 25 (0, 0)) qp_ hb); replace HB := b1_ hb; clear hb ho0 ho1; obtain ⟨Ao44, co44, eo44⟩ := Kd.R_slice HO406.out; subst eo44; obtain ⟨hcz45_0, hcz45_1, hfz45_0, hfz45_1⟩ := c2_ BK389; obtain ⟨Ao46, co46, eo46⟩ := Kd.R_slice HO409.out; subst eo46; obtain ⟨hcz47_0, hcz47_1, hfz47_0, hfz47_1⟩ := c2_ BK388))
    refine bodyPost_ret (results_cell_row rfl _ _ gb388 25 #[.slice Ao44 t404.length co44, .slice Ao46 t407.length co46] (0, 0) _ rfl (by (with_reducible repeat (first | refine kA_ ?_ _ | refine kB_ ?_ | refine kC_ ?_ _)); refine blk_put (cs := #[.slice Ao44 t404.length co44, .slice none 0 0]) ?_ 1 _ rfl; (with_reducible repeat (first | refine kA_ ?_ _ | refine kB_ ?_ | refine kC_ ?_ _)); refine blk_put (cs := #[.slice none 0 0, .slice none 0 0]) ?_ 0 _ rfl; (with_reducible repeat (first | refine kA_ ?_ _ | refine kB_ ?_ | refine kC_ ?_ _)); refine blk_far ?_ NB388_389.out _; (with_reducible repeat (first | refine kA_ ?_ _ | refine kB_ ?_ | refine kC_ ?_ _)); refine blk_far ?_ NB388_389.out _; (with_reducible repeat (first | refine kA_ ?_ _ | refine kB_ ?_ | refine kC_ ?_ _)); exact BK388.out) Try.underlying25 rfl (by kernel_rfl)) rfl ?_
    exact ⟨_, _, qb_, (rw_ (Kd.R_mono (Kd.R_far (p := ⟨gb388, 1, none⟩) (Kd.R_far (p := ⟨gb388, 0, none⟩) (Kd.R_far (p := ⟨gb389, 1, none⟩) (Kd.R_far (p := ⟨gb389, 0, none⟩) (Kd.R_types (Kd.R_types HO406.out BK389.out (by decide)) BK388.out (by decide)) (fun _ hk => hk.1.2) (.slice Ao44 t404.length co44)) (fun _ hk => hk.1.2) (.slice Ao46 t407.length co46)) (fun _ hk => hk.2) (.slice Ao44 t404.length co44)) (fun _ hk => hk.2) (.slice Ao46 t407.length co46)) (fun _ hk => hk.1.1))), (rw_ (Kd.R_mono (Kd.R_far (p := ⟨gb388, 1, none⟩) (Kd.R_far (p := ⟨gb388, 0, none⟩) (Kd.R_far (p := ⟨gb389, 1, none⟩) (Kd.R_far (p := ⟨gb389, 0, none⟩) (Kd.R_types (Kd.R_types HO409.out BK389.out (by decide)) BK388.out (by decide)) (fun _ hk => hk.1.2) (.slice Ao44 t404.length co44)) (fun _ hk => hk.1.2) (.slice Ao46 t407.length co46)) (fun _ hk => hk.2) (.slice Ao44 t404.length co44)) (fun _ hk => hk.2) (.slice Ao46 t407.length co46)) (fun _ hk => hk.1.1))), hB_⟩
   ·rw [if_neg c33] at H
    have c33b0 : (a1 == 83) = false := beq_eq_false_iff_ne.mpr c33
    have c33b1 : (a1 != 83) = true := bne_iff_ne.mpr c33
    by_cases c48 : a1 = 115
    ·rw [if_pos c48] at H
     have c48b0 : (a1 == 115) = true := beq_iff_eq.mpr c48
     have c48b1 : (a1 != 115) = false := bne_eq_false_iff_eq.mpr c48
     clear c48
     obtain ⟨⟨t411, t414, t417⟩, A49, H⟩ := bi_ H
     try dsimp only at H
     simp only [Option.some.injEq, Prod.mk.injEq] at H
     obtain ⟨rfl, rfl⟩ := H
     go_enter Try.func63, Try.ntmps63
     go_wp2_with (first | ((with_reducible refine gB_ (N := 2) rfl ?_); refine bx_ 2 #[.slice A0_0 l0_0.length c0_0, .slice A0_1 l0_1.length c0_1] 25 ?_; intro gb387 hg w50 hbox hb; have BK387 := A_ hbox; have GW387 := gw_ w hg; have GE387 := GW387; replace HB := b1_ hb; clear hb hbox hg) | ((with_reducible refine gB_ (N := 4) rfl ?_); refine bx_ 4 #[.slice none 0 0, .slice none 0 0] 25 ?_; intro gb388 hg w51 hbox hb; have BK388 := A_ hbox; have GW388 := gw_ w hg; have GE388 := GW388; replace HB := b1_ hb; have NB387_388 := gN_ BK387 hg; have NB388_387 := gP_ BK387 hg; replace BK387 := bb_ BK387 hb; clear hb hbox hg) | ((with_reducible refine gB_ (N := 5) rfl ?_); refine bx_ 5 #[.slice none 0 0, .slice none 0 0] 25 ?_; intro gb389 hg w52 hbox hb; have BK389 := A_ hbox; have GW389 := gw_ w hg; have GE389 := GW389; replace HB := b1_ hb; have NB387_389 := gN_ BK387 hg; have NB389_387 := gP_ BK387 hg; replace BK387 := bb_ BK387 hb; have NB388_389 := gN_ BK388 hg; have NB389_388 := gP_ BK388 hg; replace BK388 := bb_ BK388 hb; clear hb hbox hg; have hnb53 := NB389_387.out; have hnc53 := NB387_389.out; have hnb54 := NB389_388.out; have hnc54 := NB388_389.out; obtain ⟨hcz55_0, hcz55_1, hfz55_0, hfz55_1⟩ := c2_ BK389; have hnb56 := NB387_388.out; have hnc56 := NB388_387.out; obtain ⟨hcz57_0, hcz57_1, hfz57_0, hfz57_1⟩ := c2_ BK387) | ((with_reducible refine gA_ (f := 101) rfl ?_); refine gL_ (some 33) Try.func101 #[.agg #[.slice A0_0 l0_0.length c0_0, .slice A0_1 l0_1.length c0_1]] rfl qa_ ?_; (with_reducible refine (Z10.calls k _ _ l0_0 _ _ l0_1 t411 t414 t417 _ (cD_ HR0_0.out hB_) HC0_0.out (cD_ HR0_1.out hB_) HC0_1.out A49.out).mono ?_); rintro e w58 ⟨v412, v415, rfl, ho0, ho1, hb⟩; refine ⟨_, rfl, ?_⟩; have HO413 := rl_ w ho0; have HO416 := rl_ w ho1; replace BK387 := A_ (kE_ (g := gb387) (o := .cells #[.slice A0_0 l0_0.length c0_0, .slice A0_1 l0_1.length c0_1] 25 (0, 0)) (by (with_reducible repeat (first | refine kA_ ?_ _ | refine kB_ ?_ | refine kC_ ?_ _)); refine blk_far ?_ NB387_389.out _; (with_reducible repeat (first | refine kA_ ?_ _ | refine kB_ ?_ | refine kC_ ?_ _)); refine blk_far ?_ NB387_389.out _; (with_reducible repeat (first | refine kA_ ?_ _ | refine kB_ ?_ | refine kC_ ?_ _)); exact BK387.out) hb); replace BK388 := A_ (kE_ (g := gb388) (o := .cells #[.slice none 0 0, .slice none 0 0] 25 (0, 0)) (by (with_reducible repeat (first | refine kA_ ?_ _ | refine kB_ ?_ | refine kC_ ?_ _)); refine blk_far ?_ NB388_389.out _; (with_reducible repeat (first | refine kA_ ?_ _ | refine kB_ ?_ | refine kC_ ?_ _)); refine blk_far ?_ NB388_389.out _; (with_reducible repeat (first | refine kA_ ?_ _ | refine kB_ ?_ | refine kC_ ?_ _)); exact BK388.out) hb); replace BK389 := A_ (kE_ (g := gb389) (o := .cells #[.slice none 0 0, .slice none 0 0] 25 (0, 0)) qp_ hb); replace HB := b1_ hb; clear hb ho0 ho1; obtain ⟨Ao59, co59, eo59⟩ := Kd.R_slice HO413.out; subst eo59; obtain ⟨hcz60_0, hcz60_1, hfz60_0, hfz60_1⟩ := c2_ BK389; obtain ⟨Ao61, co61, eo61⟩ := Kd.R_slice HO416.out; subst eo61; obtain ⟨hcz62_0, hcz62_1, hfz62_0, hfz62_1⟩ := c2_ BK388))
     refine bodyPost_ret (results_cell_row rfl _ _ gb388 25 #[.slice Ao59 t411.length co59, .slice Ao61 t414.length co61] (0, 0) _ rfl (by (with_reducible repeat (first | refine kA_ ?_ _ | refine kB_ ?_ | refine kC_ ?_ _)); refine blk_put (cs := #[.slice Ao59 t411.length co59, .slice none 0 0]) ?_ 1 _ rfl; (with_reducible repeat (first | refine kA_ ?_ _ | refine kB_ ?_ | refine kC_ ?_ _)); refine blk_put (cs := #[.slice none 0 0, .slice none 0 0]) ?_ 0 _ rfl; (with_reducible repeat (first | refine kA_ ?_ _ | refine kB_ ?_ | refine kC_ ?_ _)); refine blk_far ?_ NB388_389.out _; (with_reducible repeat (first | refine kA_ ?_ _ | refine kB_ ?_ | refine kC_ ?_ _)); refine blk_far ?_ NB388_389.out _; (with_reducible repeat (first | refine kA_ ?_ _ | refine kB_ ?_ | refine kC_ ?_ _)); exact BK388.out) Try.underlying25 rfl (by kernel_rfl)) rfl ?_
     exact ⟨_, _, qb_, (rw_ (Kd.R_mono (Kd.R_far (p := ⟨gb388, 1, none⟩) (Kd.R_far (p := ⟨gb388, 0, none⟩) (Kd.R_far (p := ⟨gb389, 1, none⟩) (Kd.R_far (p := ⟨gb389, 0, none⟩) (Kd.R_types (Kd.R_types HO413.out BK389.out (by decide)) BK388.out (by decide)) (fun _ hk => hk.1.2) (.slice Ao59 t411.length co59)) (fun _ hk => hk.1.2) (.slice Ao61 t414.length co61)) (fun _ hk => hk.2) (.slice Ao59 t411.length co59)) (fun _ hk => hk.2) (.slice Ao61 t414.length co61)) (fun _ hk => hk.1.1))), (rw_ (Kd.R_mono (Kd.R_far (p := ⟨gb388, 1, none⟩) (Kd.R_far (p := ⟨gb388, 0, none⟩) (Kd.R_far (p := ⟨gb389, 1, none⟩) (Kd.R_far (p := ⟨gb389, 0, none⟩) (Kd.R_types (Kd.R_types HO416.out BK389.out (by decide)) BK388.out (by decide)) (fun _ hk => hk.1.2) (.slice Ao59 t411.length co59)) (fun _ hk => hk.1.2) (.slice Ao61 t414.length co61)) (fun _ hk => hk.2) (.slice Ao59 t411.length co59)) (fun _ hk => hk.2) (.slice Ao61 t414.length co61)) (fun _ hk => hk.1.1))), hB_⟩
    ·rw [if_neg c48] at H
     have c48b0 : (a1 == 115) = false := beq_eq_false_iff_ne.mpr c48
     have c48b1 : (a1 != 115) = true := bne_iff_ne.mpr c48
     simp only [Option.some.injEq, Prod.mk.injEq] at H
     obtain ⟨rfl, rfl⟩ := H
     go_enter Try.func63, Try.ntmps63
     go_wp2_with (first | ((with_reducible refine gB_ (N := 2) rfl ?_); refine bx_ 2 #[.slice A0_0 l0_0.length c0_0, .slice A0_1 l0_1.length c0_1] 25 ?_; intro gb387 hg w63 hbox hb; have BK387 := A_ hbox; have GW387 := gw_ w hg; have GE387 := GW387; replace HB := b1_ hb; clear hb hbox hg) | ((with_reducible refine gB_ (N := 4) rfl ?_); refine bx_ 4 #[.slice none 0 0, .slice none 0 0] 25 ?_; intro gb388 hg w64 hbox hb; have BK388 := A_ hbox; have GW388 := gw_ w hg; have GE388 := GW388; replace HB := b1_ hb; have NB387_388 := gN_ BK387 hg; have NB388_387 := gP_ BK387 hg; replace BK387 := bb_ BK387 hb; clear hb hbox hg) | ((with_reducible refine gB_ (N := 5) rfl ?_); refine bx_ 5 #[.slice none 0 0, .slice none 0 0] 25 ?_; intro gb389 hg w65 hbox hb; have BK389 := A_ hbox; have GW389 := gw_ w hg; have GE389 := GW389; replace HB := b1_ hb; have NB387_389 := gN_ BK387 hg; have NB389_387 := gP_ BK387 hg; replace BK387 := bb_ BK387 hb; have NB388_389 := gN_ BK388 hg; have NB389_388 := gP_ BK388 hg; replace BK388 := bb_ BK388 hb; clear hb hbox hg; have hnb66 := NB389_387.out; have hnc66 := NB387_389.out; have hnb67 := NB389_388.out; have hnc67 := NB388_389.out; obtain ⟨hcz68_0, hcz68_1, hfz68_0, hfz68_1⟩ := c2_ BK389; have hnb69 := NB388_387.out; have hnc69 := NB387_388.out; obtain ⟨hcz70_0, hcz70_1, hfz70_0, hfz70_1⟩ := c2_ BK388))
     refine bodyPost_ret (results_cell_row rfl _ _ gb388 25 #[.slice none 0 0, .slice none 0 0] (0, 0) _ rfl (by (with_reducible repeat (first | refine kA_ ?_ _ | refine kB_ ?_ | refine kC_ ?_ _)); refine blk_put (cs := #[.slice none 0 0, .slice none 0 0]) ?_ 1 _ rfl; (with_reducible repeat (first | refine kA_ ?_ _ | refine kB_ ?_ | refine kC_ ?_ _)); refine blk_put (cs := #[.slice none 0 0, .slice none 0 0]) ?_ 0 _ rfl; (with_reducible repeat (first | refine kA_ ?_ _ | refine kB_ ?_ | refine kC_ ?_ _)); refine blk_far ?_ NB388_389.out _; (with_reducible repeat (first | refine kA_ ?_ _ | refine kB_ ?_ | refine kC_ ?_ _)); refine blk_far ?_ NB388_389.out _; (with_reducible repeat (first | refine kA_ ?_ _ | refine kB_ ?_ | refine kC_ ?_ _)); exact BK388.out) Try.underlying25 rfl (by kernel_rfl)) rfl ?_
     exact ⟨_, _, qb_, by first | exact Kd.R_nil _ _ _ _ _ | exact Kd.N_nil _ _ _ _ _ | exact Kd.V_nil _ _ _ _ _ | exact Kd.Q_nil _ _ _ _ _ | exact Kd.S_nil _ _ _ _ _, by first | exact Kd.R_nil _ _ _ _ _ | exact Kd.N_nil _ _ _ _ _ | exact Kd.V_nil _ _ _ _ _ | exact Kd.Q_nil _ _ _ _ _ | exact Kd.S_nil _ _ _ _ _, hB_⟩
end Go.Proofs.Ytcggfjpnfodbaaa.A
end
section
/- The orbit: what finding it comes to, and how it lies in memory. No conditions. -/
namespace Go.Proofs.Ytcggfjpnfodbaaa.M
set_option linter.unusedVariables false
set_option linter.unusedSimpArgs false
open Go Go.RowKit Go.Proofs.YtcggfjpnfodbaaaW.PrintWords Go.Proofs.YtcggfjpnfodbaaaW.PrintLast Go.Proofs.YtcggfjpnfodbaaaW.PrintMore Go.Proofs.Ytcggfjpnfodbaaa.A
structure Orb where
 L : List S25
 W : List ByteArray
 F : List Int
 B : List Int
 T : List Int
 S : List Int
def stpO (k : Nat) (i c : Int) (s : Orb) : Option (Option Orb) :=
 if 0 ≤ i then (if i < (s.L.length : Int) then ((Z11.f k (rd_T25 s.L i).f0 (rd_T25 s.L i).f1 c).bind fun x => ((Z41.f k x.1 x.2).bind fun y => ((indexO k s.L y.1 y.2.1).bind fun j =>
  (if j < 0 then (if (s.L.length : Int) = 120 then some none else (if s.L.length < 1000000 ∧ s.W.length < 1000000 ∧ s.F.length < 1000000 ∧ s.B.length < 1000000 ∧ s.T.length < 1000000 ∧ s.S.length < 1000000 then (if i < (s.W.length : Int) then (if (rdOf ByteArray.empty s.W i).size + 1 ≤ 9223372036854775807 then
   some (some ⟨s.L ++ [⟨y.1, y.2.1⟩], s.W ++ [rdOf ByteArray.empty s.W i ++ strOfNums [c]], s.F ++ [i], s.B ++ [c], if c = 84 then s.T ++ [(s.L.length : Int)] else s.T, if c = 84 then s.S else s.S ++ [(s.L.length : Int)]⟩) else none) else none) else none))
  else (if s.T.length < 1000000 ∧ s.S.length < 1000000 then some (some ⟨s.L, s.W, s.F, s.B, if c = 84 then s.T ++ [j] else s.T, if c = 84 then s.S else s.S ++ [j]⟩) else none))))) else none) else none
def innerO (k : Nat) (i : Int) : List Int → Orb → Option (Option Orb)
 | [], s => some (some s)
 | c :: cs, s => (stpO k i c s).bind fun z => match z with | none => some none | some s' => innerO k i cs s'
def loopO : Nat → Orb → Int → Option (Option Orb)
 | 0, _, _ => none
 | k + 1, s, i => if i < (s.L.length : Int) then ((innerO k i [84, 83] s).bind fun z => match z with | none => some none | some s' => loopO k s' (wrap64 (i + 1))) else some (some s)
def orbitO (k : Nat) (r u : List Int) : Option (Option Orb) := (Z41.f k r u).bind fun y => if y.2.2 = true then loopO k ⟨[⟨y.1, y.2.1⟩], [⟨#[]⟩], [-1], [0], [], []⟩ 0 else some none
structure OrbH (base : Nat) (col : Nat → Nat) (W : World) (gO gM n : Nat) (vL vW vF vB vT vS : Value) (s : Orb) : Prop where
 hO : W.heap[gO]? = some (.cells #[vL, vW, vF, vB, .map (some gM)] 69 (0, 0))
 hM : W.heap[gM]? = some (mapO n vT vS)
 cO : col gO = 6
 cM : col gM = 7
 bO : base ≤ gO
 bM : base ≤ gM
 nT : n = 0 → vT = .slice none 0 0
 nS : n ≤ 1 → vS = .slice none 0 0
 hL : Kd.S k25 25 W base (fun k => col k = 0) vL s.L
 hW : Kd.R Kd.string 9 W base (fun k => col k = 1) vW s.W
 hF : Kd.R (Kd.int .i64) 3 W base (fun k => col k = 2) vF s.F
 hB : Kd.R (Kd.int .u8) 5 W base (fun k => col k = 3) vB s.B
 hT : Kd.R (Kd.int .i64) 3 W base (fun k => col k = 4) vT s.T
 hS : Kd.R (Kd.int .i64) 3 W base (fun k => col k = 5) vS s.S
def rcl (n : Nat) (col : Nat → Nat) (c : Nat) : Nat → Nat := fun k => if k < n then col k else c
theorem rcl_new {n : Nat} {col : Nat → Nat} {c k : Nat} (h : n ≤ k) : rcl n col c k = c := if_neg (by omega)
theorem rcl_old {n : Nat} {col : Nat → Nat} {c k : Nat} (h : k < n) : rcl n col c k = col k := if_pos h
section
variable {α : Type} {d : Kd α} {e base c c2 : Nat} {col col' : Nat → Nat} {W w1 : World} {v : Value} {xs : List α} {row : Option Nat}
theorem R_col (h : d.R e W base (fun k => col k = c) v xs) (hc : ∀ k, k < W.heap.size → col' k = col k) : d.R e W base (fun k => col' k = c) v xs := Kd.R_mono (Kd.R_bound h) (fun k hk => (hc k hk.2.2.1).trans hk.1)
theorem S_col (h : Kd.S d e W base (fun k => col k = c) v xs) (hc : ∀ k, k < W.heap.size → col' k = col k) : Kd.S d e W base (fun k => col' k = c) v xs := Kd.S_mono (Kd.S_bound h) (fun k hk => (hc k hk.2.2.1).trans hk.1)
theorem R_gr (h : d.R e W base (fun k => col k = c2) v xs) (hg : W.grownBy w1 row) (hr : ∀ k, row = some k → col k = c) (hne : c ≠ c2) : d.R e w1 base (fun k => rcl W.heap.size col c k = c2) v xs :=
 Kd.R_grown (R_col h (fun k hk => rcl_old hk)) hg (fun k hk he => by
  have h1 := hr k he.symm
  unfold rcl at hk
  split at hk
  ·exact hne (h1.symm.trans hk)
  ·exact hne hk)
theorem S_gr (h : Kd.S d e W base (fun k => col k = c2) v xs) (hg : W.grownBy w1 row) (hr : ∀ k, row = some k → col k = c) (hne : c ≠ c2) : Kd.S d e w1 base (fun k => rcl W.heap.size col c k = c2) v xs :=
 Kd.S_grown (S_col h (fun k hk => rcl_old hk)) hg (fun k hk he => by
  have h1 := hr k he.symm
  unfold rcl at hk
  split at hk
  ·exact hne (h1.symm.trans hk)
  ·exact hne hk)
theorem B_gr {g : Nat} {o : Obj} (h : W.heap[g]? = some o) (hcg : col g = c2) (hg : W.grownBy w1 row) (hr : ∀ k, row = some k → col k = c) (hne : c ≠ c2) : w1.heap[g]? = some o ∧ rcl W.heap.size col c g = c2 :=
 ⟨(hg.block g (Array.getElem?_eq_some_iff.1 h).1 (fun he => hne ((hr g he.symm).symm.trans hcg))).trans h, (rcl_old (Array.getElem?_eq_some_iff.1 h).1).trans hcg⟩
end
theorem put_at {w : World} {g t : Nat} {cs : Array Value} (hb : w.heap[g]? = some (.cells cs t (0, 0))) (j : Nat) (v : Value) : (w.setCell ⟨g, j, none⟩ v).heap[g]? = some (.cells (cs.setIfInBounds j v) t (0, 0)) := blk_set hb j v
theorem put_far {w : World} {g g' : Nat} {o : Obj} (hb : w.heap[g']? = some o) (h : g' ≠ g) (j : Nat) (v : Value) : (w.setCell ⟨g, j, none⟩ v).heap[g']? = some o := (Below.heap_setCell w ⟨g, j, none⟩ v g' h).trans hb
section
variable {base : Nat} {col col' : Nat → Nat} {W w1 : World} {gO gM n : Nat} {vL vW vF vB vT vS : Value} {s : Orb}
theorem OrbH.below (h : OrbH base col W gO gM n vL vW vF vB vT vS s) (hb : Below W.heap.size W w1) : OrbH base col w1 gO gM n vL vW vF vB vT vS s :=
 ⟨blk_below h.hO hb, blk_below h.hM hb, h.cO, h.cM, h.bO, h.bM, h.nT, h.nS, Kd.S_below h.hL hb, Kd.R_below h.hW hb, Kd.R_below h.hF hb, Kd.R_below h.hB hb, Kd.R_below h.hT hb, Kd.R_below h.hS hb⟩
theorem OrbH.recol (h : OrbH base col W gO gM n vL vW vF vB vT vS s) (hc : ∀ k, k < W.heap.size → col' k = col k) : OrbH base col' W gO gM n vL vW vF vB vT vS s :=
 ⟨h.hO, h.hM, (hc _ (Array.getElem?_eq_some_iff.1 h.hO).1).trans h.cO, (hc _ (Array.getElem?_eq_some_iff.1 h.hM).1).trans h.cM, h.bO, h.bM, h.nT, h.nS, S_col h.hL hc, R_col h.hW hc, R_col h.hF hc, R_col h.hB hc, R_col h.hT hc, R_col h.hS hc⟩
theorem OrbH.ne (h : OrbH base col W gO gM n vL vW vF vB vT vS s) : gO ≠ gM := fun e => by have h1 := h.cO; have h2 := h.cM; rw [e] at h1; omega
theorem OrbH.look (h : OrbH base col W gO gM n vL vW vF vB vT vS s) : mapV n 84 vT vS = vT ∧ mapV n 83 vT vS = vS := by
 unfold mapV
 constructor
 ·rw [if_pos rfl]
  split
  ·rfl
  ·exact (h.nT (by omega)).symm
 ·rw [if_neg (by decide)]
  split
  ·rfl
  ·exact (h.nS (by omega)).symm
theorem OrbH.putL {v1 : Value} {L1 : List S25} (h : OrbH base col W gO gM n vL vW vF vB vT vS s) (hg : W.grownBy w1 vL.ownBlock) (h1 : Kd.S k25 25 w1 base (fun k => rcl W.heap.size col 0 k = 0) v1 L1) :
  OrbH base (rcl W.heap.size col 0) (w1.setCell ⟨gO, 0, none⟩ v1) gO gM n v1 vW vF vB vT vS { s with L := L1 } := by
 have hr : ∀ k, vL.ownBlock = some k → col k = 0 := (Kd.S_R h.hL).1
 have bO := B_gr h.hO h.cO hg hr (by decide)
 have bM := B_gr h.hM h.cM hg hr (by decide)
 have far : ∀ c, c ≠ 6 → ∀ k, rcl W.heap.size col 0 k = c → k ≠ (⟨gO, 0, none⟩ : Addr).block := fun c hc k hk e => by
  have : k = gO := e
  rw [this, bO.2] at hk
  exact hc hk.symm
 exact ⟨put_at bO.1 0 v1, put_far bM.1 h.ne.symm 0 v1, bO.2, bM.2, h.bO, h.bM, h.nT, h.nS, Kd.S_far h1 (far 0 (by decide)) v1, Kd.R_far (R_gr h.hW hg hr (by decide)) (far 1 (by decide)) v1, Kd.R_far (R_gr h.hF hg hr (by decide)) (far 2 (by decide)) v1, Kd.R_far (R_gr h.hB hg hr (by decide)) (far 3 (by decide)) v1, Kd.R_far (R_gr h.hT hg hr (by decide)) (far 4 (by decide)) v1, Kd.R_far (R_gr h.hS hg hr (by decide)) (far 5 (by decide)) v1⟩
theorem OrbH.putW {v1 : Value} {L1 : List ByteArray} (h : OrbH base col W gO gM n vL vW vF vB vT vS s) (hg : W.grownBy w1 vW.ownBlock) (h1 : Kd.R Kd.string 9 w1 base (fun k => rcl W.heap.size col 1 k = 1) v1 L1) :
  OrbH base (rcl W.heap.size col 1) (w1.setCell ⟨gO, 1, none⟩ v1) gO gM n vL v1 vF vB vT vS { s with W := L1 } := by
 have hr : ∀ k, vW.ownBlock = some k → col k = 1 := h.hW.1
 have bO := B_gr h.hO h.cO hg hr (by decide)
 have bM := B_gr h.hM h.cM hg hr (by decide)
 have far : ∀ c, c ≠ 6 → ∀ k, rcl W.heap.size col 1 k = c → k ≠ (⟨gO, 1, none⟩ : Addr).block := fun c hc k hk e => by
  have : k = gO := e
  rw [this, bO.2] at hk
  exact hc hk.symm
 exact ⟨put_at bO.1 1 v1, put_far bM.1 h.ne.symm 1 v1, bO.2, bM.2, h.bO, h.bM, h.nT, h.nS, Kd.S_far (S_gr h.hL hg hr (by decide)) (far 0 (by decide)) v1, Kd.R_far h1 (far 1 (by decide)) v1, Kd.R_far (R_gr h.hF hg hr (by decide)) (far 2 (by decide)) v1, Kd.R_far (R_gr h.hB hg hr (by decide)) (far 3 (by decide)) v1, Kd.R_far (R_gr h.hT hg hr (by decide)) (far 4 (by decide)) v1, Kd.R_far (R_gr h.hS hg hr (by decide)) (far 5 (by decide)) v1⟩
theorem OrbH.putF {v1 : Value} {L1 : List Int} (h : OrbH base col W gO gM n vL vW vF vB vT vS s) (hg : W.grownBy w1 vF.ownBlock) (h1 : Kd.R (Kd.int .i64) 3 w1 base (fun k => rcl W.heap.size col 2 k = 2) v1 L1) :
  OrbH base (rcl W.heap.size col 2) (w1.setCell ⟨gO, 2, none⟩ v1) gO gM n vL vW v1 vB vT vS { s with F := L1 } := by
 have hr : ∀ k, vF.ownBlock = some k → col k = 2 := h.hF.1
 have bO := B_gr h.hO h.cO hg hr (by decide)
 have bM := B_gr h.hM h.cM hg hr (by decide)
 have far : ∀ c, c ≠ 6 → ∀ k, rcl W.heap.size col 2 k = c → k ≠ (⟨gO, 2, none⟩ : Addr).block := fun c hc k hk e => by
  have : k = gO := e
  rw [this, bO.2] at hk
  exact hc hk.symm
 exact ⟨put_at bO.1 2 v1, put_far bM.1 h.ne.symm 2 v1, bO.2, bM.2, h.bO, h.bM, h.nT, h.nS, Kd.S_far (S_gr h.hL hg hr (by decide)) (far 0 (by decide)) v1, Kd.R_far (R_gr h.hW hg hr (by decide)) (far 1 (by decide)) v1, Kd.R_far h1 (far 2 (by decide)) v1, Kd.R_far (R_gr h.hB hg hr (by decide)) (far 3 (by decide)) v1, Kd.R_far (R_gr h.hT hg hr (by decide)) (far 4 (by decide)) v1, Kd.R_far (R_gr h.hS hg hr (by decide)) (far 5 (by decide)) v1⟩
theorem OrbH.putB {v1 : Value} {L1 : List Int} (h : OrbH base col W gO gM n vL vW vF vB vT vS s) (hg : W.grownBy w1 vB.ownBlock) (h1 : Kd.R (Kd.int .u8) 5 w1 base (fun k => rcl W.heap.size col 3 k = 3) v1 L1) :
  OrbH base (rcl W.heap.size col 3) (w1.setCell ⟨gO, 3, none⟩ v1) gO gM n vL vW vF v1 vT vS { s with B := L1 } := by
 have hr : ∀ k, vB.ownBlock = some k → col k = 3 := h.hB.1
 have bO := B_gr h.hO h.cO hg hr (by decide)
 have bM := B_gr h.hM h.cM hg hr (by decide)
 have far : ∀ c, c ≠ 6 → ∀ k, rcl W.heap.size col 3 k = c → k ≠ (⟨gO, 3, none⟩ : Addr).block := fun c hc k hk e => by
  have : k = gO := e
  rw [this, bO.2] at hk
  exact hc hk.symm
 exact ⟨put_at bO.1 3 v1, put_far bM.1 h.ne.symm 3 v1, bO.2, bM.2, h.bO, h.bM, h.nT, h.nS, Kd.S_far (S_gr h.hL hg hr (by decide)) (far 0 (by decide)) v1, Kd.R_far (R_gr h.hW hg hr (by decide)) (far 1 (by decide)) v1, Kd.R_far (R_gr h.hF hg hr (by decide)) (far 2 (by decide)) v1, Kd.R_far h1 (far 3 (by decide)) v1, Kd.R_far (R_gr h.hT hg hr (by decide)) (far 4 (by decide)) v1, Kd.R_far (R_gr h.hS hg hr (by decide)) (far 5 (by decide)) v1⟩
theorem OrbH.putT {v1 : Value} {L1 : List Int} (h : OrbH base col W gO gM n vL vW vF vB vT vS s) (hg : W.grownBy w1 vT.ownBlock) (h1 : Kd.R (Kd.int .i64) 3 w1 base (fun k => rcl W.heap.size col 4 k = 4) v1 L1) :
  w1.heap[gM]? = some (mapO n vT vS) ∧ OrbH base (rcl W.heap.size col 4) (setMap w1 gM (max n 1) v1 vS) gO gM (max n 1) vL vW vF vB v1 vS { s with T := L1 } := by
 have hr : ∀ k, vT.ownBlock = some k → col k = 4 := h.hT.1
 have bO := B_gr h.hO h.cO hg hr (by decide)
 have bM := B_gr h.hM h.cM hg hr (by decide)
 have hgm : w1.grownBy (setMap w1 gM (max n 1) v1 vS) (some gM) := setMap_grown v1 vS
 have far : ∀ c, c ≠ 7 → ∀ k, rcl W.heap.size col 4 k = c → some k ≠ some gM := fun c hc k hk e => by
  injection e with e
  rw [e, bM.2] at hk
  exact hc hk.symm
 exact ⟨bM.1, (setMap_far v1 vS h.ne).trans bO.1, setMap_at bM.1 v1 vS, bO.2, bM.2, h.bO, h.bM, fun e => by omega, fun e => h.nS (by omega), Kd.S_grown (S_gr h.hL hg hr (by decide)) hgm (far 0 (by decide)), Kd.R_grown (R_gr h.hW hg hr (by decide)) hgm (far 1 (by decide)), Kd.R_grown (R_gr h.hF hg hr (by decide)) hgm (far 2 (by decide)), Kd.R_grown (R_gr h.hB hg hr (by decide)) hgm (far 3 (by decide)), Kd.R_grown h1 hgm (far 4 (by decide)), Kd.R_grown (R_gr h.hS hg hr (by decide)) hgm (far 5 (by decide))⟩
theorem OrbH.putS {v1 : Value} {L1 : List Int} (h : OrbH base col W gO gM n vL vW vF vB vT vS s) (hn : n = 1 ∨ n = 2) (hg : W.grownBy w1 vS.ownBlock) (h1 : Kd.R (Kd.int .i64) 3 w1 base (fun k => rcl W.heap.size col 5 k = 5) v1 L1) :
  w1.heap[gM]? = some (mapO n vT vS) ∧ OrbH base (rcl W.heap.size col 5) (setMap w1 gM 2 vT v1) gO gM 2 vL vW vF vB vT v1 { s with S := L1 } := by
 have hr : ∀ k, vS.ownBlock = some k → col k = 5 := h.hS.1
 have bO := B_gr h.hO h.cO hg hr (by decide)
 have bM := B_gr h.hM h.cM hg hr (by decide)
 have hgm : w1.grownBy (setMap w1 gM 2 vT v1) (some gM) := setMap_grown vT v1
 have far : ∀ c, c ≠ 7 → ∀ k, rcl W.heap.size col 5 k = c → some k ≠ some gM := fun c hc k hk e => by
  injection e with e
  rw [e, bM.2] at hk
  exact hc hk.symm
 exact ⟨bM.1, (setMap_far vT v1 h.ne).trans bO.1, setMap_at bM.1 vT v1, bO.2, bM.2, h.bO, h.bM, fun e => by omega, fun e => by omega, Kd.S_grown (S_gr h.hL hg hr (by decide)) hgm (far 0 (by decide)), Kd.R_grown (R_gr h.hW hg hr (by decide)) hgm (far 1 (by decide)), Kd.R_grown (R_gr h.hF hg hr (by decide)) hgm (far 2 (by decide)), Kd.R_grown (R_gr h.hB hg hr (by decide)) hgm (far 3 (by decide)), Kd.R_grown (R_gr h.hT hg hr (by decide)) hgm (far 4 (by decide)), Kd.R_grown h1 hgm (far 5 (by decide))⟩
end
end Go.Proofs.Ytcggfjpnfodbaaa.M
end
section
/- What a call made lies apart from what was there. No conditions. -/
namespace Go.Proofs.Ytcggfjpnfodbaaa.M
open Go.RowKit Go.Proofs.YtcggfjpnfodbaaaW.PrintWords Go.Proofs.YtcggfjpnfodbaaaW.PrintLast Go.Proofs.YtcggfjpnfodbaaaW.PrintMore
theorem box_store {w0 W : World} {g t : Nat} {cs : Array Value} (hb : W.heap[g]? = some (.cells cs t (0, 0))) (x y : Value) (hB : Below w0.heap.size w0 W) (hg : w0.heap.size ≤ g) :
  ((W.setCell ⟨g, 0, none⟩ x).setCell ⟨g, 1, none⟩ y).heap[g]? = some (.cells ((cs.setIfInBounds 0 x).setIfInBounds 1 y) t (0, 0)) ∧ Kept W ((W.setCell ⟨g, 0, none⟩ x).setCell ⟨g, 1, none⟩ y) (fun k => k = g) ∧ Below w0.heap.size w0 ((W.setCell ⟨g, 0, none⟩ x).setCell ⟨g, 1, none⟩ y) :=
 ⟨blk_set (blk_set hb 0 x) 1 y, Kept.setCell (p := ⟨g, 1, none⟩) (Kept.setCell (p := ⟨g, 0, none⟩) (Kept.refl W (fun k => k = g)) (.inl rfl) x) (.inl rfl) y, below_set (below_set hB hg) hg⟩
end Go.Proofs.Ytcggfjpnfodbaaa.M
end
