/- Lemmas for the row FnExactIsFixedBy: the program's functions told as plain functions, and plain mathematics. No conditions. -/
import Derived.Lib.Bytealg
import Derived.Lib.Walk
import Derived.Test.YtoijcallajegfaaQFnExactIsFixedBy1
section
namespace Go.Proofs.Ytoijcallajegfaa.A
open Go.RowKit Go.Proofs.YtoijcallajegfaaW.PrintWords Go.Proofs.YtoijcallajegfaaW.PrintLast Go.Proofs.YtoijcallajegfaaW.PrintMore
attribute [local go_sem] max2_int min2_int max_two min_two max_three min_three max_four min_four
set_option linter.unusedVariables false
set_option linter.unusedSimpArgs false
def spec_l02Rename.l0 : Nat → List Int → List Int → List Int → Int → Int → Option (List Int)
  | 0, _, _, _, _, _ => none
  | k + 1, x1, x5, x11, x12, x13 => if x13 < x12 then (if 0 ≤ x13 then (if x13 < (x11.length : Int) then (if x13 < (x1.length : Int) then (if 0 ≤ (rd x11 x13) then (if (rd x11 x13) < (x1.length : Int) then (if 0 ≤ (rd x1 x13) then (if (rd x1 x13) < (x5.length : Int) then (spec_l02Rename.l0 k x1 (x5.set ((rd x1 x13) : Int).toNat (rd x1 (rd x11 x13))) x11 x12 (wrap64 (x13 + 1))) else (none)) else (none)) else (none)) else (none)) else (none)) else (none)) else (none)) else (some x5)
def spec_l02Rename.f (k : Nat) (l0 : List Int) (l1 : List Int) : Option (List Int) := if 0 ≤ (l0.length : Int) then (if ((l0.length : Int) : Int).toNat ≤ 35184372088832 then (spec_l02Rename.l0 k l1 (List.replicate ((l0.length : Int) : Int).toNat 0) l0 (l0.length : Int) 0) else (none)) else (none)
theorem spec_l02Rename.mono_l : ∀ k, (∀ y0 y1 y2 y3 y4, LeO (spec_l02Rename.l0 k y0 y1 y2 y3 y4) (spec_l02Rename.l0 (k + 1) y0 y1 y2 y3 y4))
  | 0 => fun _ _ _ _ _ r h => by simp [spec_l02Rename.l0] at h
  | k + 1 => by
    have ih0 := spec_l02Rename.mono_l k
    · intro y0 y1 y2 y3 y4
      unfold spec_l02Rename.l0
      repeat' first|exact ih0 _ _ _ _ _|exact lo_|refine LeO.ite ?_ ?_|refine LeO.bind ?_ (fun _ => ?_)
theorem spec_l02Rename.mono : ∀ a0 a1 k, LeO (spec_l02Rename.f k a0 a1) (spec_l02Rename.f (k + 1) a0 a1) := by
  intro a0 a1 k
  have ih0 := spec_l02Rename.mono_l k
  unfold spec_l02Rename.f
  repeat' first|exact ih0 _ _ _ _ _|exact lo_|refine LeO.ite ?_ ?_|refine LeO.bind ?_ (fun _ => ?_)
def spec_l02Rename.T5 : Bool × List (List Nat × List Nat) := (true, [([], []), ([], []), ([], []), ([1, 2], [1, 2]), ([3], [3]), ([], []), ([], []), ([5, 6], [5, 6]), ([7], [7]), ([0, 4, 0, 1, 2, 3, 4, 5, 6, 7, 8], [0, 4]), ([9, 8, 0, 1, 2, 3, 4, 5, 6, 7, 8], [8, 9])])
def spec_l02Rename.B5 : List Nat := [0, 0, 0, 6, 14, 0, 0, 96, 224, 511, 1023]
theorem spec_l02Rename.tab5 : rtab .any (opsOf Try.f164 5) = spec_l02Rename.T5 := by kernel_rfl
theorem spec_l02Rename.bits5 : waitsOk spec_l02Rename.T5.2 spec_l02Rename.B5 = true := by kernel_rfl
set_option maxHeartbeats 8000000 in
set_option maxRecDepth 100000 in
theorem spec_l02Rename.calls (k : Nat) (A0 : Option Addr) (c0 : Nat) (l0 : List Int) (A1 : Option Addr) (c1 : Nat) (l1 : List Int) (r : List Int) (w : World) (hr0 : Kd.C (Kd.int .i64) w A0 l0.length l0) (hc0 : l0.length ≤ c0) (hr1 : Kd.C (Kd.int .i64) w A1 l1.length l1) (hc1 : l1.length ≤ c1) (h : spec_l02Rename.f k l0 l1 = some r) :
    Calls Try.prog 164 #[.slice A0 l0.length c0, .slice A1 l1.length c1] w fun e w' => ∃ v0_ : Value, e = .returned (v0_) ∧ Kd.R (Kd.int .i64) 3 w' w.heap.size (fun _ => True) v0_ r ∧ Below w.heap.size w w' := by
  have HR0 := Aside0.mk hr0
  have HC0 := Aside0.mk hc0
  clear hr0 hc0
  have HR1 := Aside0.mk hr1
  have HC1 := Aside0.mk hc1
  clear hr1 hc1
  have HB := Aside0.mk (Below.refl w.heap.size w)
  have H := h
  unfold spec_l02Rename.f at H
  clear h
  have c3 := cp_ H
  replace H := ca_ H
  have c3b0 := eq_true c3
  have c3b1 := decide_eq_true c3
  clear c3
  have c4 := cp_ H
  replace H := ca_ H
  have c4b0 := eq_true c4
  have c4b1 := decide_eq_true c4
  clear c4
  obtain ⟨y905, hy905⟩ : ∃ y_ : List Int, y_ = (List.replicate ((l0.length : Int) : Int).toNat 0) := ⟨_, rfl⟩
  replace H : (spec_l02Rename.l0 k l1 y905 l0 (l0.length : Int) 0) = some r := by first | (rw [hy905]; exact H) | exact H
  have Ny905 := Aside0.mk hy905
  clear hy905
  have H' := Aside0.mk H
  clear H
  go_enter Try.func164, Try.ntmps164
  go_wp2_with (first | ((with_reducible refine gate_dst (N := 10) rfl ?_); refine Kd.R_make (Kd.int .i64) _ 3 rfl (N := 10) rfl 23 _ _ rfl (l0.length : Int) rfl rfl Try.underlying23 (.int .i64 0) 8 info3 rfl (by decide) (by omega) 0 (ok := fun _ => True) (okp := fun _ => True) rfl (fun _ hk => hk) trivial (of_decide_eq_true qe_) (Nat.le_trans (Nat.mul_le_mul_right _ (of_decide_eq_true qe_ : (l0.length : Int).toNat ≤ 35184372088832)) (by omega)) (Below.refl _ _) (Nat.le_refl _) ?_; intro v906 w5 ho6 hb hg_ hnew_; clear hg_ hnew_; (first | rw [← Ny905.out] at ho6 | (simp only [Int.reduceToNat] at ho6; rw [← Ny905.out] at ho6)); have HO907 := rl_ w ho6; replace HB := b1_ hb; clear hb ho6))
  go_loopg [13] k (fun kq v13 w' => ∃ (x5_1 : List Int) (x13_1 : Int), v13 = .int .i64 x13_1 ∧ Aside0 (spec_l02Rename.l0 kq l1 x5_1 l0 (l0.length : Int) x13_1 = some r) ∧ Aside0 (kq ≤ k) ∧ Aside0 (Kd.R (Kd.int .i64) 3 w' w.heap.size (fun _ => True) v906 x5_1) ∧ Aside0 (Below w.heap.size w w'))
  case atStart => exact ⟨(y905), (0), qc_, H', ⟨Nat.le_refl _⟩, ⟨(rr_ HO907)⟩, ⟨hB_⟩⟩
  case round =>
    clear H'
    obtain ⟨x5_1, x13_1, rfl, HA, HK1, HO_5, HB⟩ := hrel
    cases gk with
    | zero => exact absurd HA.out (by simp [spec_l02Rename.l0])
    | succ k1 =>
      have H := HA.out
      clear HA
      simp only [spec_l02Rename.l0] at H
      by_cases c7 : x13_1 < (l0.length : Int)
      · rw [if_pos c7] at H
        have c7b0 := decide_eq_true c7
        clear c7
        have c8 := cp_ H
        replace H := ca_ H
        have c8b0 := decide_eq_true c8
        clear c8
        have c9 := cp_ H
        replace H := ca_ H
        have c9b0 := decide_eq_true c9
        clear c9
        have c10 := cp_ H
        replace H := ca_ H
        have c10b0 := decide_eq_true c10
        clear c10
        have c11 := cp_ H
        replace H := ca_ H
        have c11b0 := decide_eq_true c11
        clear c11
        have c12 := cp_ H
        replace H := ca_ H
        have c12b0 := decide_eq_true c12
        clear c12
        have c13 := cp_ H
        replace H := ca_ H
        have c13b0 := decide_eq_true c13
        clear c13
        have c14 := cp_ H
        replace H := ca_ H
        have c14b0 := decide_eq_true c14
        clear c14
        obtain ⟨y911, hy911⟩ : ∃ y_ : List Int, y_ = (x5_1.set ((rd l1 x13_1) : Int).toNat (rd l1 (rd l0 x13_1))) := ⟨_, rfl⟩
        replace H : (spec_l02Rename.l0 k1 l1 y911 l0 (l0.length : Int) (wrap64 (x13_1 + 1))) = some r := by first | (rw [hy911]; exact H) | exact H
        have Ny911 := Aside0.mk hy911
        clear hy911
        have H' := Aside0.mk H
        clear H
        have p908 : 0 ≤ (x13_1 : Int) := of_decide_eq_true qe_
        have q908 : x13_1 < (l0.length : Int) := of_decide_eq_true qe_
        obtain ⟨ad908, e908, hx908_0⟩ := Kd.at_int HR0.out x13_1 p908 q908
        cases e908
        replace hx908_0 := (HB.out.cell (World.block_lt_of_cell? w _ hx908_0)).trans hx908_0
        replace p908 := eq_true p908
        replace q908 := eq_true q908
        try go_wp2
        replace HO_5 := Aside0.mk (Kd.R_drew HO_5.out)
        replace HB := Aside0.mk (below_drew1 HB.out)
        have p909 : 0 ≤ (x13_1 : Int) := of_decide_eq_true qe_
        have q909 : x13_1 < (l1.length : Int) := of_decide_eq_true qe_
        obtain ⟨ad909, e909, hx909_0⟩ := Kd.at_int HR1.out x13_1 p909 q909
        have hw909_0 := hx909_0
        cases e909
        replace hx909_0 := (HB.out.cell (World.block_lt_of_cell? w _ hx909_0)).trans hx909_0
        replace p909 := eq_true p909
        replace q909 := eq_true q909
        have p910 : 0 ≤ ((rd l0 x13_1) : Int) := of_decide_eq_true qe_
        have q910 : (rd l0 x13_1) < (l1.length : Int) := of_decide_eq_true qe_
        obtain ⟨ad910, e910, hx910_0⟩ := Kd.at_int HR1.out (rd l0 x13_1) p910 q910
        have hw910_0 := hx910_0
        obtain rfl : ad909 = ad910 := (by injection e910)
        replace hx910_0 := (HB.out.cell (World.block_lt_of_cell? w _ hx910_0)).trans hx910_0
        replace p910 := eq_true p910
        replace q910 := eq_true q910
        have p15 : 0 ≤ ((rd l1 x13_1) : Int) := of_decide_eq_true qe_
        have q15 : ((rd l1 x13_1) : Int) < ((x5_1.length : Int) : Int) := of_decide_eq_true qe_
        obtain ⟨go15, co15, eo15, gb15, gl15, cl15, HG15⟩ := Kd.R_form HO_5.out (by omega)
        (first | cases eo15 | (injection eo15 with ea_ en_ ec_; (first | subst ea_ | (injection ea_ with ea_; subst ea_)); subst ec_; clear en_))
        have GB15 := Aside0.mk gb15
        have GG15 := Aside0.mk HG15
        clear gb15 gl15 HG15
        obtain ⟨hx15_0, hf15_0⟩ := Kd.R_celln 0 HO_5.out ((rd l1 x13_1) : Int) p15 q15
        replace p15 := eq_true p15
        replace q15 := eq_true q15
        have HP17 := Kd.R_putn HO_5.out ((rd l1 x13_1) : Int) (rd l1 (rd l0 x13_1))
        rw [← Ny911.out] at HP17
        have HQ17 := Aside0.mk HP17
        clear HP17
        refine start_ (n := 11) (S := fun w' => w'.cell? (ad909.add (x13_1).toNat) = some (.int .i64 (rd l1 x13_1)) ∧ w'.cell? (ad909.add ((rd l0 x13_1)).toNat) = some (.int .i64 (rd l1 (rd l0 x13_1)))) (ds := [10]) (bl_ 11 0) (by kernel_rfl) rfl (by kernel_rfl) ⟨((HB.out.cell (World.block_lt_of_cell? w _ hw909_0)).trans hw909_0), ((HB.out.cell (World.block_lt_of_cell? w _ hw910_0)).trans hw910_0)⟩ (fun hHeld => ?_); refine with_tabW spec_l02Rename.tab5 spec_l02Rename.bits5 (fun HT_ HW_ => ?_)
        generalize wr.drew = w16 at HO_5 HB GG15 HQ17 hf15_0 hx15_0 hx909_0 hx910_0 hHeld ⊢
        refine pu_ 0 (some 18) (bl_ 11 1) HT_ ?_
        refine pu_ 1 (some 19) (bl_ 11 3) HT_ ?_
        refine pu_ 2 (some 20) (bl_ 11 7) HT_ ?_
        refine pu_ 3 (some 21) (bl_ 11 15) HT_ ?_
        refine pu_ 5 (some 23) (bl_ 11 47) HT_ ?_
        refine pu_ 6 (some 24) (bl_ 11 111) HT_ ?_
        refine pu_ 7 (some 25) (bl_ 11 239) HT_ ?_
        refine ta_ 4 (some 22) (bl_ 11 255) HT_ HW_ hHeld ?_
        refine ta_ 8 (some 26) (bl_ 11 511) HT_ HW_ hHeld ?_
        refine pu_ 9 (some 27) (bl_ 11 1023) HT_ ?_
        refine last_ (i := 10) (N := none) (bl_ 11 2047) rfl rfl (one_of HT_.out (by kernel_rfl)) (by decide) (fun K hK => ?_)
        refine skip_ (w1 := ?_) (by rfl) rfl ?_ ?_
        rotate_left
        · go_simp
          rfl
        refine hK.out _ _ ?_
        clear hK K
        refine done_ (done_of HT_.out (by kernel_rfl)) ?_
        try go_wp2
        go_roundg k1
        case measure => have := HK1.out; omega
        case rel => exact ⟨(y911), (wrap64 (x13_1 + 1)), qc_, H', ⟨by have := HK1.out; omega⟩, ⟨(rr_ HQ17)⟩, ⟨by repeat (first | (with_reducible first | exact HB.out | apply below_alloc | apply pw_below_drewN | apply below_drew1 | refine below_set ?_ GB15.out) | exact HB.out)⟩⟩
      · rw [if_neg c7] at H
        have c7b0 := decide_eq_false c7
        clear c7
        obtain rfl := Option.some.inj H
        go_wp2
        go_ret
        exact ⟨_, qb_, (rr_ HO_5), hB_⟩
end Go.Proofs.Ytoijcallajegfaa.A
end
section
namespace Go.Proofs.Ytoijcallajegfaa.A
open Go.RowKit Go.Proofs.YtoijcallajegfaaW.PrintWords Go.Proofs.YtoijcallajegfaaW.PrintLast Go.Proofs.YtoijcallajegfaaW.PrintMore
attribute [local go_sem] max2_int min2_int max_two min_two max_three min_three max_four min_four
set_option linter.unusedVariables false
set_option linter.unusedSimpArgs false
def spec_l03Rename.f (k : Nat) (l0_0 : List Int) (l0_1 : List Int) (l1 : List Int) : Option (List Int × List Int) := (spec_l02Rename.f k l0_0 l1).bind fun t914 => ((spec_l02Rename.f k l0_1 l1).bind fun t917 => (some (t914, t917)))
theorem spec_l03Rename.mono : ∀ a0 a1 a2 k, LeO (spec_l03Rename.f k a0 a1 a2) (spec_l03Rename.f (k + 1) a0 a1 a2) := by
  intro a0 a1 a2 k
  unfold spec_l03Rename.f
  repeat' first|exact spec_l02Rename.mono _ _ _|exact lo_|refine LeO.ite ?_ ?_|refine LeO.bind ?_ (fun _ => ?_)
def spec_l03Rename.T1 : Bool × List (List Nat × List Nat) := (true, [([], []), ([0], [0]), ([], []), ([1, 2], [1, 2]), ([], []), ([4], [4]), ([], []), ([5, 6, 3], [5, 6]), ([3, 7], [3, 7]), ([8, 7, 0, 1, 2, 3, 4, 5, 6, 7, 8], [8])])
def spec_l03Rename.B1 : List Nat := [0, 1, 0, 7, 0, 16, 0, 127, 255, 511]
theorem spec_l03Rename.tab1 : rtab .any (opsOf Try.f129 1) = spec_l03Rename.T1 := by kernel_rfl
theorem spec_l03Rename.bits1 : waitsOk spec_l03Rename.T1.2 spec_l03Rename.B1 = true := by kernel_rfl
set_option maxHeartbeats 8000000 in
set_option maxRecDepth 100000 in
theorem spec_l03Rename.calls (k : Nat) (A0_0 : Option Addr) (c0_0 : Nat) (l0_0 : List Int) (A0_1 : Option Addr) (c0_1 : Nat) (l0_1 : List Int) (A1 : Option Addr) (c1 : Nat) (l1 : List Int) (r1 : List Int) (r2 : List Int) (w : World) (hr0_0 : Kd.C (Kd.int .i64) w A0_0 l0_0.length l0_0) (hc0_0 : l0_0.length ≤ c0_0) (hr0_1 : Kd.C (Kd.int .i64) w A0_1 l0_1.length l0_1) (hc0_1 : l0_1.length ≤ c0_1) (hr1 : Kd.C (Kd.int .i64) w A1 l1.length l1) (hc1 : l1.length ≤ c1) (h : spec_l03Rename.f k l0_0 l0_1 l1 = some (r1, r2)) :
    Calls Try.prog 129 #[.agg #[.slice A0_0 l0_0.length c0_0, .slice A0_1 l0_1.length c0_1], .slice A1 l1.length c1] w fun e w' => ∃ v0_ v1_ : Value, e = .returned (.agg #[v0_, v1_]) ∧ Kd.R (Kd.int .i64) 3 w' w.heap.size (fun k_ => some k_ ≠ (v1_ : Value).ownBlock) v0_ r1 ∧ Kd.R (Kd.int .i64) 3 w' w.heap.size (fun k_ => some k_ ≠ (v0_ : Value).ownBlock) v1_ r2 ∧ Below w.heap.size w w' := by
  have hu33 := Try.underlying33
  have HR0_0 := Aside0.mk hr0_0
  have HC0_0 := Aside0.mk hc0_0
  clear hr0_0 hc0_0
  have HR0_1 := Aside0.mk hr0_1
  have HC0_1 := Aside0.mk hc0_1
  clear hr0_1 hc0_1
  have HR1 := Aside0.mk hr1
  have HC1 := Aside0.mk hc1
  clear hr1 hc1
  have HB := Aside0.mk (Below.refl w.heap.size w)
  have H := h
  unfold spec_l03Rename.f at H
  clear h
  obtain ⟨t914, A3, H⟩ := bi_ H
  obtain ⟨t917, A4, H⟩ := bi_ H
  simp only [Option.some.injEq, Prod.mk.injEq] at H
  obtain ⟨rfl, rfl⟩ := H
  go_enter Try.func129, Try.ntmps129
  try go_wp2_with (first | ((with_reducible refine gate_dst (N := 2) rfl ?_); refine bx_ 2 #[.slice A0_0 l0_0.length c0_0, .slice A0_1 l0_1.length c0_1] 33 ?_; intro gb912 hg w5 hbox hb; have BK912 := Aside0.mk hbox; have GW912 := gw_ w hg; have GE912 := GW912; replace HB := b1_ hb; clear hb hbox hg) | ((with_reducible refine gate_dst (N := 4) rfl ?_); refine bx_ 4 #[.slice none 0 0, .slice none 0 0] 33 ?_; intro gb913 hg w6 hbox hb; have BK913 := Aside0.mk hbox; have GW913 := gw_ w hg; have GE913 := GW913; replace HB := b1_ hb; have NB912_913 := gN_ BK912 hg; have NB913_912 := gP_ BK912 hg; replace BK912 := bb_ BK912 hb; clear hb hbox hg))
  replace BK912 := Aside0.mk (blk_drew BK912.out)
  replace BK913 := Aside0.mk (blk_drew BK913.out)
  replace HB := Aside0.mk (below_drew1 HB.out)
  refine start_ (n := 10) (S := fun w' => w'.cell? ⟨gb912, 0, none⟩ = some (.slice A0_0 l0_0.length c0_0) ∧ w'.cell? ⟨gb912, 1, none⟩ = some (.slice A0_1 l0_1.length c0_1)) (ds := []) (bl_ 10 0) (by kernel_rfl) rfl (by kernel_rfl) ⟨cz0_ BK912, cz1_ BK912⟩ (fun hHeld => ?_); refine with_tabW spec_l03Rename.tab1 spec_l03Rename.bits1 (fun HT_ HW_ => ?_)
  generalize w6.drew = w7 at BK912 BK913 HB hHeld ⊢
  refine pu_ 0 (some 5) (bl_ 10 1) HT_ ?_
  refine pu_ 2 (some 7) (bl_ 10 5) HT_ ?_
  refine pu_ 4 (some 9) (bl_ 10 21) HT_ ?_
  refine pu_ 6 (some 11) (bl_ 10 85) HT_ ?_
  refine ta_ 1 (some 6) (bl_ 10 87) HT_ HW_ hHeld ?_
  refine ta_ 5 (some 10) (bl_ 10 119) HT_ HW_ hHeld ?_
  refine on_ 3 (some 8) (bl_ 10 127) HT_ (fun K hK => ?_)
  refine gO_ Try.func164 #[.slice A0_0 l0_0.length c0_0, .slice A1 l1.length c1] (by rfl) rfl rfl qa_ ?_
  with_reducible refine (spec_l02Rename.calls k _ _ l0_0 _ _ l1 t914 _ (cb_ HR0_0) HC0_0.out (cb_ HR1) HC1.out A3.out).mono ?_
  rintro e w8 ⟨v915, rfl, ho0, hb⟩
  refine ⟨_, rfl, ?_⟩
  have HO916 := rl_ w ho0
  replace BK912 := bb_ BK912 hb
  replace BK913 := bb_ BK913 hb
  replace HB := b1_ hb
  clear hb ho0
  refine hK.out _ _ ⟨cz0_ BK912, cz1_ BK912⟩ (fun hHeld => ?_)
  clear hK K
  refine no_ (some 8) ?_
  refine on_ 7 (some 12) (bl_ 10 255) HT_ (fun K hK => ?_)
  refine gO_ Try.func164 #[.slice A0_1 l0_1.length c0_1, .slice A1 l1.length c1] (by rfl) rfl rfl qa_ ?_
  with_reducible refine (spec_l02Rename.calls k _ _ l0_1 _ _ l1 t917 _ (cb_ HR0_1) HC0_1.out (cb_ HR1) HC1.out A4.out).mono ?_
  rintro e w9 ⟨v918, rfl, ho0, hb⟩
  refine ⟨_, rfl, ?_⟩
  have HO919 := Aside0.mk (Kd.R_lower (Kd.R_new' ho0 (Kd.R_lt (rr_ HO916))) (below_size hB_))
  replace HO916 := Aside0.mk (Kd.R_elder' (rr_ HO916) (Kd.R_base ho0) hb)
  replace BK912 := bb_ BK912 hb
  replace BK913 := bb_ BK913 hb
  replace HB := b1_ hb
  clear hb ho0
  obtain ⟨Ao10, co10, eo10⟩ := Kd.R_slice HO919.out
  (first | subst eo10 | (injection eo10 with f1_ f2_ f3_; have f4_ := f1_.symm; have f5_ := f3_.symm; clear f1_ f2_ f3_; subst f4_; subst f5_))
  obtain ⟨Ao11, co11, eo11⟩ := Kd.R_slice HO916.out
  (first | subst eo11 | (injection eo11 with f1_ f2_ f3_; have f4_ := f1_.symm; have f5_ := f3_.symm; clear f1_ f2_ f3_; subst f4_; subst f5_))
  refine hK.out _ _ ⟨cz0_ BK912, cz1_ BK912⟩ (fun hHeld => ?_)
  clear hK K
  refine no_ (some 12) ?_
  refine pu_ 8 (some 13) (bl_ 10 511) HT_ ?_
  refine on_ 9 (none) (bl_ 10 1023) HT_ (fun K hK => ?_)
  have hs12 : w9.cell? ⟨gb913, 0, none⟩ = some (.slice none 0 0) := cz0_ BK913
  have hfs12 := blk_frozen BK913.out 0
  have hns12_0 := NB912_913.out
  have hms12_0 := NB913_912.out
  have hs13 : w9.cell? ⟨gb913, 1, none⟩ = some (.slice none 0 0) := cz1_ BK913
  have hfs13 := blk_frozen BK913.out 1
  have hns13_0 := NB912_913.out
  have hms13_0 := NB913_912.out
  refine skip_ (w1 := ?_) (by rfl) rfl ?_ ?_
  rotate_left
  · go_simp
    rfl
  refine hK.out _ _ ⟨((cell_far (p := ⟨gb913, _, none⟩) NB912_913.out _).trans (((cell_far (p := ⟨gb913, _, none⟩) NB912_913.out _).trans (hHeld.1)))), ((cell_far (p := ⟨gb913, _, none⟩) NB912_913.out _).trans (((cell_far (p := ⟨gb913, _, none⟩) NB912_913.out _).trans (hHeld.2))))⟩ (fun hHeld => ?_)
  clear hK K
  refine done_ (done_of HT_.out (by kernel_rfl)) ?_
  try go_wp2
  refine bodyPost_ret (results_cell_row rfl _ _ gb913 33 #[.slice Ao11 t914.length co11, .slice Ao10 t917.length co10] (0, 0) _ rfl qp_ Try.underlying33 rfl (by kernel_rfl)) rfl ?_
  exact ⟨_, _, qb_, (rw_ (Kd.R_mono (fa_ HO916 BK913) (fun _ hk => hk.2))), (rw_ (Kd.R_mono (fa_ HO919 BK913) (fun _ hk => hk.2))), hB_⟩
end Go.Proofs.Ytoijcallajegfaa.A
end
section
namespace Go.Proofs.Ytoijcallajegfaa.A
open Go.RowKit Go.Proofs.YtoijcallajegfaaW.PrintWords Go.Proofs.YtoijcallajegfaaW.PrintLast Go.Proofs.YtoijcallajegfaaW.PrintMore
attribute [local go_sem] max2_int min2_int max_two min_two max_three min_three max_four min_four
set_option linter.unusedVariables false
set_option linter.unusedSimpArgs false
def spec_l03Names.f (k : Nat) (l0_0 : List Int) (l0_1 : List Int) (a1 : Int) : Option (List Int) := (spec_l02Reach.f k l0_0 l0_1 a1).bind fun t921 => ((spec_l02Inverse.f k t921).bind fun t924 => (some t924))
theorem spec_l03Names.mono : ∀ a0 a1 a2 k, LeO (spec_l03Names.f k a0 a1 a2) (spec_l03Names.f (k + 1) a0 a1 a2) := by
  intro a0 a1 a2 k
  unfold spec_l03Names.f
  repeat' first|exact spec_l02Inverse.mono _ _|exact spec_l02Reach.mono _ _ _ _|exact lo_|refine LeO.ite ?_ ?_|refine LeO.bind ?_ (fun _ => ?_)
set_option maxHeartbeats 8000000 in
set_option maxRecDepth 100000 in
theorem spec_l03Names.calls (k : Nat) (A0_0 : Option Addr) (c0_0 : Nat) (l0_0 : List Int) (A0_1 : Option Addr) (c0_1 : Nat) (l0_1 : List Int) (a1 : Int) (r : List Int) (w : World) (hr0_0 : Kd.C (Kd.int .i64) w A0_0 l0_0.length l0_0) (hc0_0 : l0_0.length ≤ c0_0) (hr0_1 : Kd.C (Kd.int .i64) w A0_1 l0_1.length l0_1) (hc0_1 : l0_1.length ≤ c0_1) (h : spec_l03Names.f k l0_0 l0_1 a1 = some r) :
    Calls Try.prog 130 #[.agg #[.slice A0_0 l0_0.length c0_0, .slice A0_1 l0_1.length c0_1], .int .i64 a1] w fun e w' => ∃ v0_ : Value, e = .returned (v0_) ∧ Kd.R (Kd.int .i64) 3 w' w.heap.size (fun _ => True) v0_ r ∧ Below w.heap.size w w' := by
  have hu33 := Try.underlying33
  have HR0_0 := Aside0.mk hr0_0
  have HC0_0 := Aside0.mk hc0_0
  clear hr0_0 hc0_0
  have HR0_1 := Aside0.mk hr0_1
  have HC0_1 := Aside0.mk hc0_1
  clear hr0_1 hc0_1
  have HB := Aside0.mk (Below.refl w.heap.size w)
  have H := h
  unfold spec_l03Names.f at H
  clear h
  obtain ⟨t921, A3, H⟩ := bi_ H
  obtain ⟨t924, A4, H⟩ := bi_ H
  obtain rfl := Option.some.inj H
  go_enter Try.func130, Try.ntmps130
  go_wp2_with (first | ((with_reducible refine gate_dst (N := 2) rfl ?_); refine bx_ 2 #[.slice A0_0 l0_0.length c0_0, .slice A0_1 l0_1.length c0_1] 33 ?_; intro gb920 hg w5 hbox hb; have BK920 := Aside0.mk hbox; have GW920 := gw_ w hg; have GE920 := GW920; replace HB := b1_ hb; clear hb hbox hg; obtain ⟨hcz6_0, hcz6_1, hfz6_0, hfz6_1⟩ := c2_ BK920) | ((with_reducible refine gate_callee (f := 162) rfl ?_); refine gL_ (some 10) Try.func162 #[.slice A0_0 l0_0.length c0_0, .slice A0_1 l0_1.length c0_1, .int .i64 a1] rfl qa_ ?_; (with_reducible refine (spec_l02Reach.calls k _ _ l0_0 _ _ l0_1 a1 t921 _ (cb_ HR0_0) HC0_0.out (cb_ HR0_1) HC0_1.out A3.out).mono ?_); rintro e w7 ⟨v922, rfl, ho0, hb⟩; refine ⟨_, rfl, ?_⟩; have HO923 := rl_ w ho0; replace BK920 := bb_ BK920 hb; replace HB := b1_ hb; clear hb ho0; obtain ⟨Ao8, co8, eo8⟩ := Kd.R_slice HO923.out; subst eo8) | ((with_reducible refine gate_callee (f := 111) rfl ?_); refine gL_ (some 11) Try.func111 #[.slice Ao8 t921.length co8] rfl qa_ ?_; (with_reducible refine (spec_l02Inverse.calls k _ _ t921 t924 _ (cr_ HO923) ((Kd.R_reads' HO923.out).2.1) A4.out).mono ?_); rintro e w9 ⟨v925, rfl, ho0, hb⟩; refine ⟨_, rfl, ?_⟩; have HO926 := Aside0.mk (Kd.R_lower (Kd.R_new' ho0 (Kd.R_lt (rr_ HO923))) (below_size hB_)); replace HO923 := Aside0.mk (Kd.R_elder' (rr_ HO923) (Kd.R_base ho0) hb); replace BK920 := bb_ BK920 hb; replace HB := b1_ hb; clear hb ho0))
  go_ret
  exact ⟨_, qb_, (rw_ (Kd.R_mono HO926.out (fun _ hk => trivial))), hB_⟩
end Go.Proofs.Ytoijcallajegfaa.A
end
section
namespace Go.Proofs.Ytoijcallajegfaa.A
open Go.RowKit Go.Proofs.YtoijcallajegfaaW.PrintWords Go.Proofs.YtoijcallajegfaaW.PrintLast Go.Proofs.YtoijcallajegfaaW.PrintMore
attribute [local go_sem] max2_int min2_int max_two min_two max_three min_three max_four min_four
set_option linter.unusedVariables false
set_option linter.unusedSimpArgs false
def spec_l03Canon.l0 : Nat → Int → List Int → List Int → List Int → List Int → Option (List Int × List Int)
  | 0, _, _, _, _, _ => none
  | k + 1, x4, x928000, x928001, x939000, x939001 => if x4 < (x928000.length : Int) then ((spec_l03Names.f k x928000 x928001 x4).bind fun t939 => ((spec_l03Rename.f k x928000 x928001 t939).bind fun bt942 => ((spec_l03Before.f k bt942.1 bt942.2 x939000 x939001).bind fun t949 => (if t949 = true then (spec_l03Canon.l0 k (wrap64 (x4 + 1)) x928000 x928001 bt942.1 bt942.2) else (spec_l03Canon.l0 k (wrap64 (x4 + 1)) x928000 x928001 x939000 x939001))))) else (some (x939000, x939001))
def spec_l03Canon.f (k : Nat) (l0_0 : List Int) (l0_1 : List Int) : Option (List Int × List Int) := (spec_l03Names.f k l0_0 l0_1 0).bind fun t929 => ((spec_l03Rename.f k l0_0 l0_1 t929).bind fun bt932 => (spec_l03Canon.l0 k 1 l0_0 l0_1 bt932.1 bt932.2))
theorem spec_l03Canon.mono_l : ∀ k, (∀ y0 y1 y2 y3 y4, LeO (spec_l03Canon.l0 k y0 y1 y2 y3 y4) (spec_l03Canon.l0 (k + 1) y0 y1 y2 y3 y4))
  | 0 => fun _ _ _ _ _ r h => by simp [spec_l03Canon.l0] at h
  | k + 1 => by
    have ih0 := spec_l03Canon.mono_l k
    · intro y0 y1 y2 y3 y4
      unfold spec_l03Canon.l0
      repeat' first|exact ih0 _ _ _ _ _|exact spec_l03Before.mono _ _ _ _ _|exact spec_l03Names.mono _ _ _ _|exact spec_l03Rename.mono _ _ _ _|exact lo_|refine LeO.ite ?_ ?_|refine LeO.bind ?_ (fun _ => ?_)
theorem spec_l03Canon.mono : ∀ a0 a1 k, LeO (spec_l03Canon.f k a0 a1) (spec_l03Canon.f (k + 1) a0 a1) := by
  intro a0 a1 k
  have ih0 := spec_l03Canon.mono_l k
  unfold spec_l03Canon.f
  repeat' first|exact ih0 _ _ _ _ _|exact spec_l03Before.mono _ _ _ _ _|exact spec_l03Names.mono _ _ _ _|exact spec_l03Rename.mono _ _ _ _|exact lo_|refine LeO.ite ?_ ?_|refine LeO.bind ?_ (fun _ => ?_)
set_option maxHeartbeats 8000000 in
set_option maxRecDepth 100000 in
theorem spec_l03Canon.calls (k : Nat) (A0_0 : Option Addr) (c0_0 : Nat) (l0_0 : List Int) (A0_1 : Option Addr) (c0_1 : Nat) (l0_1 : List Int) (r1 : List Int) (r2 : List Int) (w : World) (hr0_0 : Kd.C (Kd.int .i64) w A0_0 l0_0.length l0_0) (hc0_0 : l0_0.length ≤ c0_0) (hr0_1 : Kd.C (Kd.int .i64) w A0_1 l0_1.length l0_1) (hc0_1 : l0_1.length ≤ c0_1) (h : spec_l03Canon.f k l0_0 l0_1 = some (r1, r2)) :
    Calls Try.prog 87 #[.agg #[.slice A0_0 l0_0.length c0_0, .slice A0_1 l0_1.length c0_1]] w fun e w' => ∃ v0_ v1_ : Value, e = .returned (.agg #[v0_, v1_]) ∧ Kd.R (Kd.int .i64) 3 w' w.heap.size (fun k_ => some k_ ≠ (v1_ : Value).ownBlock) v0_ r1 ∧ Kd.R (Kd.int .i64) 3 w' w.heap.size (fun k_ => some k_ ≠ (v0_ : Value).ownBlock) v1_ r2 ∧ Below w.heap.size w w' := by
  have hu33 := Try.underlying33
  have HR0_0 := Aside0.mk hr0_0
  have HC0_0 := Aside0.mk hc0_0
  clear hr0_0 hc0_0
  have HR0_1 := Aside0.mk hr0_1
  have HC0_1 := Aside0.mk hc0_1
  clear hr0_1 hc0_1
  have HB := Aside0.mk (Below.refl w.heap.size w)
  have H := h
  unfold spec_l03Canon.f at H
  clear h
  obtain ⟨t929, A2, H⟩ := bi_ H
  obtain ⟨⟨t932, t935⟩, A3, H⟩ := bi_ H
  try dsimp only at H
  have H' := Aside0.mk H
  clear H
  go_enter Try.func87, Try.ntmps87
  try go_wp2_with (first | ((with_reducible refine gate_dst (N := 1) rfl ?_); refine bx_ 1 #[.slice A0_0 l0_0.length c0_0, .slice A0_1 l0_1.length c0_1] 33 ?_; intro gb927 hg w4 hbox hb; have BK927 := Aside0.mk hbox; have GW927 := gw_ w hg; have GE927 := GW927; replace HB := b1_ hb; clear hb hbox hg) | ((with_reducible refine gate_dst (N := 2) rfl ?_); refine bx_ 2 #[.slice none 0 0, .slice none 0 0] 33 ?_; intro gb928 hg w5 hbox hb; have BK928 := Aside0.mk hbox; have GW928 := gw_ w hg; have GE928 := GW928; replace HB := b1_ hb; have NB927_928 := gN_ BK927 hg; have NB928_927 := gP_ BK927 hg; replace BK927 := bb_ BK927 hb; clear hb hbox hg))
  replace BK927 := Aside0.mk (blk_drew BK927.out)
  replace BK928 := Aside0.mk (blk_drew BK928.out)
  replace HB := Aside0.mk (below_drew1 HB.out)
  refine start_ (n := 6) (S := fun w' => w'.cell? ⟨gb927, 0, none⟩ = some (.slice A0_0 l0_0.length c0_0) ∧ w'.cell? ⟨gb927, 1, none⟩ = some (.slice A0_1 l0_1.length c0_1)) (ds := []) (bl_ 6 0) (by kernel_rfl) rfl (by kernel_rfl) ⟨cz0_ BK927, cz1_ BK927⟩ (fun hHeld => ?_)
  generalize w5.drew = w6 at BK927 BK928 HB hHeld ⊢
  refine take_ (i := 0) (N := some 6) (v := ?_) (a' := ?_) (bl_ 6 1) rfl rfl (by kernel_rfl) (fun _ _ _ h => h) (Or.inl ⟨by rfl, ?_⟩) hHeld ?_ ?_
  rotate_left
  · rintro w' ⟨s0, s1⟩
    go_simp
    with_reducible rfl
  rotate_left
  · simp only [Act.put, List.setIfInBounds_toArray, List.set_cons_zero, List.set_cons_succ, i64_w, i32_w]
    rfl
  refine take_ (i := 1) (N := some 7) (v := ?_) (a' := ?_) (bl_ 6 3) rfl rfl (by kernel_rfl) (fun _ _ _ h => h) (Or.inl ⟨by rfl, ?_⟩) hHeld ?_ ?_
  rotate_left
  · rintro w' ⟨s0, s1⟩
    go_simp
    with_reducible rfl
  rotate_left
  · simp only [Act.put, List.setIfInBounds_toArray, List.set_cons_zero, List.set_cons_succ, i64_w, i32_w]
    rfl
  refine join_ (σ := Value × Value × Value × Nat) 1 (bl_ 6 31) (fun s_ => [(8, s_.1), (9, .agg #[s_.2.1, s_.2.2.1]), (3, .pointer (some ⟨s_.2.2.2, 0, none⟩))]) (fun s_ w' => (w'.cell? ⟨gb927, 0, none⟩ = some (.slice A0_0 l0_0.length c0_0) ∧ w'.cell? ⟨gb927, 1, none⟩ = some (.slice A0_1 l0_1.length c0_1)) ∧ (Kd.R (Kd.int .i64) 3 w' w.heap.size (fun k_ => some k_ ≠ (s_.2.1 : Value).ownBlock ∧ some k_ ≠ (s_.2.2.1 : Value).ownBlock) s_.1 t929) ∧ (Kd.R (Kd.int .i64) 3 w' w.heap.size (fun k_ => some k_ ≠ (s_.1 : Value).ownBlock ∧ some k_ ≠ (s_.2.2.1 : Value).ownBlock) s_.2.1 t932) ∧ (Kd.R (Kd.int .i64) 3 w' w.heap.size (fun k_ => some k_ ≠ (s_.1 : Value).ownBlock ∧ some k_ ≠ (s_.2.1 : Value).ownBlock) s_.2.2.1 t935) ∧ (w'.heap[gb927]? = some (.cells #[.slice A0_0 l0_0.length c0_0, .slice A0_1 l0_1.length c0_1] 33 (0, 0))) ∧ (w'.heap[gb928]? = some (.cells #[.slice none 0 0, .slice none 0 0] 33 (0, 0))) ∧ (w'.heap[s_.2.2.2]? = some (.cells #[.slice none 0 0, .slice none 0 0] 33 (0, 0))) ∧ (w.heap.size ≤ s_.2.2.2) ∧ (w.heap.size ≤ s_.2.2.2) ∧ (gb927 ≠ s_.2.2.2) ∧ (s_.2.2.2 ≠ gb927) ∧ (gb928 ≠ s_.2.2.2) ∧ (s_.2.2.2 ≠ gb928) ∧ (Below w.heap.size w w')) ?_ ?_
  rotate_left
  · intro hCont
    refine two_ (i := 2) (j := 4) (Ni := some 8) (Nj := some 3) (bl_ 6 7) (bl_ 6 19) rfl rfl rfl rfl (by kernel_rfl) (by decide) (by decide) (fun K hK => ?_) (fun K hK => ?_)
    · skip
      refine gO_ Try.func130 #[.agg #[.slice A0_0 l0_0.length c0_0, .slice A0_1 l0_1.length c0_1], .int .i64 0] (by rfl) rfl rfl qa_ ?_
      with_reducible refine (spec_l03Names.calls k _ _ l0_0 _ _ l0_1 0 t929 _ (cb_ HR0_0) HC0_0.out (cb_ HR0_1) HC0_1.out A2.out).mono ?_
      rintro e w7 ⟨v930, rfl, ho0, hb⟩
      refine ⟨_, rfl, ?_⟩
      have HO931 := rl_ w ho0
      replace BK927 := bb_ BK927 hb
      replace BK928 := bb_ BK928 hb
      replace HB := b1_ hb
      clear hb ho0
      obtain ⟨Ao8, co8, eo8⟩ := Kd.R_slice HO931.out
      (first | subst eo8 | (injection eo8 with f1_ f2_ f3_; have f4_ := f1_.symm; have f5_ := f3_.symm; clear f1_ f2_ f3_; subst f4_; subst f5_))
      refine hK.out _ _ ⟨cz0_ BK927, cz1_ BK927⟩ (fun hHeld => ?_)
      clear hK K
      refine no_ (some 8) ?_
      refine two_ (i := 3) (j := 4) (Ni := some 9) (Nj := some 3) (bl_ 6 15) (bl_ 6 23) rfl rfl rfl rfl (by kernel_rfl) (by decide) (by decide) (fun K hK => ?_) (fun K hK => ?_)
      · skip
        refine gO_ Try.func129 #[.agg #[.slice A0_0 l0_0.length c0_0, .slice A0_1 l0_1.length c0_1], .slice Ao8 t929.length co8] (by rfl) rfl rfl qa_ ?_
        with_reducible refine (spec_l03Rename.calls k _ _ l0_0 _ _ l0_1 _ _ t929 t932 t935 _ (cb_ HR0_0) HC0_0.out (cb_ HR0_1) HC0_1.out (cr_ HO931) ((Kd.R_reads' HO931.out).2.1) A3.out).mono ?_
        rintro e w9 ⟨v933, v936, rfl, ho0, ho1, hb⟩
        refine ⟨_, rfl, ?_⟩
        have HO934 := Aside0.mk (Kd.R_lower (Kd.R_new' ho0 (Kd.R_lt (rr_ HO931))) (below_size hB_))
        have HO937 := Aside0.mk (Kd.R_lower (Kd.R_new' ho1 (Kd.R_lt (rr_ HO931))) (below_size hB_))
        replace HO931 := Aside0.mk (Kd.R_mono (Kd.R_told (Kd.R_told (Kd.R_old (rr_ HO931) hb) (Kd.R_base ho0)) (Kd.R_base ho1)) (fun _ h_ => h_.1))
        replace BK927 := bb_ BK927 hb
        replace BK928 := bb_ BK928 hb
        replace HB := b1_ hb
        clear hb ho0 ho1
        refine hK.out _ _ ⟨cz0_ BK927, cz1_ BK927⟩ (fun hHeld => ?_)
        clear hK K
        refine no_ (some 9) ?_
        refine one_ (i := 4) (N := some 3) (bl_ 6 31) rfl rfl (by kernel_rfl) (by decide) (fun K hK => ?_)
        refine box_step ?hg (N := 3) ?hd (cs := #[.slice none 0 0, .slice none 0 0]) (t := 33) ?hr ?_; (case hd => rfl); (case hg => rfl); (case hr => first | (go_simp; done) | (go_simp; rfl))
        intro gb938 hg w10 hbox hb
        replace HO931 := rb_ HO931 hb
        replace HO934 := rb_ HO934 hb
        replace HO937 := rb_ HO937 hb
        have BK938 := Aside0.mk hbox
        have GW938 := gw_ w hg
        have GE938 := GW938
        replace HB := b1_ hb
        have NB927_938 := gN_ BK927 hg
        have NB938_927 := gP_ BK927 hg
        replace BK927 := bb_ BK927 hb
        have NB928_938 := gN_ BK928 hg
        have NB938_928 := gP_ BK928 hg
        replace BK928 := bb_ BK928 hb
        clear hb hbox hg
        refine hK.out _ _ ⟨cz0_ BK927, cz1_ BK927⟩ (fun hHeld => ?_)
        clear hK K
        refine no_ (some 3) ?_
        exact norm_ (by simp only [putAll, Act.put, List.setIfInBounds_toArray, List.set_cons_zero, List.set_cons_succ]) (hCont (.slice Ao8 t929.length co8, v933, v936, gb938) _ ⟨hHeld, (rw_ (Kd.R_mono HO931.out (fun _ hk => ⟨hk.1.2, hk.2⟩))), (rw_ (Kd.R_mono HO934.out (fun _ hk => ⟨hk.2, hk.1⟩))), (rw_ (Kd.R_mono HO937.out (fun _ hk => ⟨hk.2, hk.1⟩))), (kk_ BK927), (kk_ BK928), (kk_ BK938), GW938.out, GE938.out, NB927_938.out, NB938_927.out, NB928_938.out, NB938_928.out, hB_⟩)
      · skip
        refine box_step ?hg (N := 3) ?hd (cs := #[.slice none 0 0, .slice none 0 0]) (t := 33) ?hr ?_; (case hd => rfl); (case hg => rfl); (case hr => first | (go_simp; done) | (go_simp; rfl))
        intro gb938 hg w8 hbox hb
        replace HO931 := rb_ HO931 hb
        have BK938 := Aside0.mk hbox
        have GW938 := gw_ w hg
        have GE938 := GW938
        replace HB := b1_ hb
        have NB927_938 := gN_ BK927 hg
        have NB938_927 := gP_ BK927 hg
        replace BK927 := bb_ BK927 hb
        have NB928_938 := gN_ BK928 hg
        have NB938_928 := gP_ BK928 hg
        replace BK928 := bb_ BK928 hb
        clear hb hbox hg
        obtain ⟨Ao9, co9, eo9⟩ := Kd.R_slice HO931.out
        (first | subst eo9 | (injection eo9 with f1_ f2_ f3_; have f4_ := f1_.symm; have f5_ := f3_.symm; clear f1_ f2_ f3_; subst f4_; subst f5_))
        refine hK.out _ _ ⟨cz0_ BK927, cz1_ BK927⟩ (fun hHeld => ?_)
        clear hK K
        refine no_ (some 3) ?_
        refine one_ (i := 3) (N := some 9) (bl_ 6 31) rfl rfl (by kernel_rfl) (by decide) (fun K hK => ?_)
        refine gO_ Try.func129 #[.agg #[.slice A0_0 l0_0.length c0_0, .slice A0_1 l0_1.length c0_1], .slice Ao9 t929.length co9] (by rfl) rfl rfl qa_ ?_
        with_reducible refine (spec_l03Rename.calls k _ _ l0_0 _ _ l0_1 _ _ t929 t932 t935 _ (cb_ HR0_0) HC0_0.out (cb_ HR0_1) HC0_1.out (cr_ HO931) ((Kd.R_reads' HO931.out).2.1) A3.out).mono ?_
        rintro e w10 ⟨v933, v936, rfl, ho0, ho1, hb⟩
        refine ⟨_, rfl, ?_⟩
        have HO934 := Aside0.mk (Kd.R_lower (Kd.R_new' ho0 (Kd.R_lt (rr_ HO931))) (below_size hB_))
        have HO937 := Aside0.mk (Kd.R_lower (Kd.R_new' ho1 (Kd.R_lt (rr_ HO931))) (below_size hB_))
        replace HO931 := Aside0.mk (Kd.R_mono (Kd.R_told (Kd.R_told (Kd.R_old (rr_ HO931) hb) (Kd.R_base ho0)) (Kd.R_base ho1)) (fun _ h_ => h_.1))
        replace BK927 := bb_ BK927 hb
        replace BK928 := bb_ BK928 hb
        replace BK938 := bb_ BK938 hb
        replace HB := b1_ hb
        clear hb ho0 ho1
        refine hK.out _ _ ⟨cz0_ BK927, cz1_ BK927⟩ (fun hHeld => ?_)
        clear hK K
        refine no_ (some 9) ?_
        exact norm_ (by simp only [putAll, Act.put, List.setIfInBounds_toArray, List.set_cons_zero, List.set_cons_succ]) (hCont (.slice Ao9 t929.length co9, v933, v936, gb938) _ ⟨hHeld, (rw_ (Kd.R_mono HO931.out (fun _ hk => ⟨hk.1.2, hk.2⟩))), (rw_ (Kd.R_mono HO934.out (fun _ hk => ⟨hk.2, hk.1⟩))), (rw_ (Kd.R_mono HO937.out (fun _ hk => ⟨hk.2, hk.1⟩))), (kk_ BK927), (kk_ BK928), (kk_ BK938), GW938.out, GE938.out, NB927_938.out, NB938_927.out, NB928_938.out, NB938_928.out, hB_⟩)
    · skip
      refine box_step ?hg (N := 3) ?hd (cs := #[.slice none 0 0, .slice none 0 0]) (t := 33) ?hr ?_; (case hd => rfl); (case hg => rfl); (case hr => first | (go_simp; done) | (go_simp; rfl))
      intro gb938 hg w7 hbox hb
      have BK938 := Aside0.mk hbox
      have GW938 := gw_ w hg
      have GE938 := GW938
      replace HB := b1_ hb
      have NB927_938 := gN_ BK927 hg
      have NB938_927 := gP_ BK927 hg
      replace BK927 := bb_ BK927 hb
      have NB928_938 := gN_ BK928 hg
      have NB938_928 := gP_ BK928 hg
      replace BK928 := bb_ BK928 hb
      clear hb hbox hg
      refine hK.out _ _ ⟨cz0_ BK927, cz1_ BK927⟩ (fun hHeld => ?_)
      clear hK K
      refine no_ (some 3) ?_
      refine one_ (i := 2) (N := some 8) (bl_ 6 23) rfl rfl (by kernel_rfl) (by decide) (fun K hK => ?_)
      refine gO_ Try.func130 #[.agg #[.slice A0_0 l0_0.length c0_0, .slice A0_1 l0_1.length c0_1], .int .i64 0] (by rfl) rfl rfl qa_ ?_
      with_reducible refine (spec_l03Names.calls k _ _ l0_0 _ _ l0_1 0 t929 _ (cb_ HR0_0) HC0_0.out (cb_ HR0_1) HC0_1.out A2.out).mono ?_
      rintro e w8 ⟨v930, rfl, ho0, hb⟩
      refine ⟨_, rfl, ?_⟩
      have HO931 := rl_ w ho0
      replace BK927 := bb_ BK927 hb
      replace BK928 := bb_ BK928 hb
      replace BK938 := bb_ BK938 hb
      replace HB := b1_ hb
      clear hb ho0
      obtain ⟨Ao9, co9, eo9⟩ := Kd.R_slice HO931.out
      (first | subst eo9 | (injection eo9 with f1_ f2_ f3_; have f4_ := f1_.symm; have f5_ := f3_.symm; clear f1_ f2_ f3_; subst f4_; subst f5_))
      refine hK.out _ _ ⟨cz0_ BK927, cz1_ BK927⟩ (fun hHeld => ?_)
      clear hK K
      refine no_ (some 8) ?_
      refine one_ (i := 3) (N := some 9) (bl_ 6 31) rfl rfl (by kernel_rfl) (by decide) (fun K hK => ?_)
      refine gO_ Try.func129 #[.agg #[.slice A0_0 l0_0.length c0_0, .slice A0_1 l0_1.length c0_1], .slice Ao9 t929.length co9] (by rfl) rfl rfl qa_ ?_
      with_reducible refine (spec_l03Rename.calls k _ _ l0_0 _ _ l0_1 _ _ t929 t932 t935 _ (cb_ HR0_0) HC0_0.out (cb_ HR0_1) HC0_1.out (cr_ HO931) ((Kd.R_reads' HO931.out).2.1) A3.out).mono ?_
      rintro e w10 ⟨v933, v936, rfl, ho0, ho1, hb⟩
      refine ⟨_, rfl, ?_⟩
      have HO934 := Aside0.mk (Kd.R_lower (Kd.R_new' ho0 (Kd.R_lt (rr_ HO931))) (below_size hB_))
      have HO937 := Aside0.mk (Kd.R_lower (Kd.R_new' ho1 (Kd.R_lt (rr_ HO931))) (below_size hB_))
      replace HO931 := Aside0.mk (Kd.R_mono (Kd.R_told (Kd.R_told (Kd.R_old (rr_ HO931) hb) (Kd.R_base ho0)) (Kd.R_base ho1)) (fun _ h_ => h_.1))
      replace BK927 := bb_ BK927 hb
      replace BK928 := bb_ BK928 hb
      replace BK938 := bb_ BK938 hb
      replace HB := b1_ hb
      clear hb ho0 ho1
      refine hK.out _ _ ⟨cz0_ BK927, cz1_ BK927⟩ (fun hHeld => ?_)
      clear hK K
      refine no_ (some 9) ?_
      exact norm_ (by simp only [putAll, Act.put, List.setIfInBounds_toArray, List.set_cons_zero, List.set_cons_succ]) (hCont (.slice Ao9 t929.length co9, v933, v936, gb938) _ ⟨hHeld, (rw_ (Kd.R_mono HO931.out (fun _ hk => ⟨hk.1.2, hk.2⟩))), (rw_ (Kd.R_mono HO934.out (fun _ hk => ⟨hk.2, hk.1⟩))), (rw_ (Kd.R_mono HO937.out (fun _ hk => ⟨hk.2, hk.1⟩))), (kk_ BK927), (kk_ BK928), (kk_ BK938), GW938.out, GE938.out, NB927_938.out, NB938_927.out, NB928_938.out, NB938_928.out, hB_⟩)
  rintro ⟨v930, v933, v936, gb938⟩ w11 ⟨hS_, h0_, h1_, h2_, h3_, h4_, h5_, h6_, h7_, h8_, h9_, h10_, h11_, h12_⟩
  have n0_ : Aside0 (Kd.R (Kd.int .i64) 3 w11 w.heap.size (fun k_ => some k_ ≠ (v933 : Value).ownBlock ∧ some k_ ≠ (v936 : Value).ownBlock) v930 t929) := ⟨h0_⟩
  have n1_ : Aside0 (Kd.R (Kd.int .i64) 3 w11 w.heap.size (fun k_ => some k_ ≠ (v930 : Value).ownBlock ∧ some k_ ≠ (v936 : Value).ownBlock) v933 t932) := ⟨h1_⟩
  have n2_ : Aside0 (Kd.R (Kd.int .i64) 3 w11 w.heap.size (fun k_ => some k_ ≠ (v930 : Value).ownBlock ∧ some k_ ≠ (v933 : Value).ownBlock) v936 t935) := ⟨h2_⟩
  have n3_ : Aside0 (w11.heap[gb927]? = some (.cells #[.slice A0_0 l0_0.length c0_0, .slice A0_1 l0_1.length c0_1] 33 (0, 0))) := ⟨h3_⟩
  have n4_ : Aside0 (w11.heap[gb928]? = some (.cells #[.slice none 0 0, .slice none 0 0] 33 (0, 0))) := ⟨h4_⟩
  have n5_ : Aside0 (w11.heap[gb938]? = some (.cells #[.slice none 0 0, .slice none 0 0] 33 (0, 0))) := ⟨h5_⟩
  have n6_ : Aside0 (w.heap.size ≤ gb938) := ⟨h6_⟩
  have n7_ : Aside0 (w.heap.size ≤ gb938) := ⟨h7_⟩
  have n8_ : Aside0 (gb927 ≠ gb938) := ⟨h8_⟩
  have n9_ : Aside0 (gb938 ≠ gb927) := ⟨h9_⟩
  have n10_ : Aside0 (gb928 ≠ gb938) := ⟨h10_⟩
  have n11_ : Aside0 (gb938 ≠ gb928) := ⟨h11_⟩
  have n12_ : Aside0 (Below w.heap.size w w11) := ⟨h12_⟩
  clear BK927
  clear BK928
  clear HB
  clear h0_ h1_ h2_ h3_ h4_ h5_ h6_ h7_ h8_ h9_ h10_ h11_ h12_
  have HO931 := n0_
  have HO934 := n1_
  have HO937 := n2_
  have BK927 := n3_
  have BK928 := n4_
  have BK938 := n5_
  have GW938 := n6_
  have GE938 := n7_
  have NB927_938 := n8_
  have NB938_927 := n9_
  have NB928_938 := n10_
  have NB938_928 := n11_
  have HB := n12_
  clear n0_ n1_ n2_ n3_ n4_ n5_ n6_ n7_ n8_ n9_ n10_ n11_ n12_
  have hHeld : w11.cell? ⟨gb927, 0, none⟩ = some (.slice A0_0 l0_0.length c0_0) ∧ w11.cell? ⟨gb927, 1, none⟩ = some (.slice A0_1 l0_1.length c0_1) := hS_
  obtain ⟨Ao12, co12, eo12⟩ := Kd.R_slice HO934.out
  (first | subst eo12 | (injection eo12 with f1_ f2_ f3_; have f4_ := f1_.symm; have f5_ := f3_.symm; clear f1_ f2_ f3_; subst f4_; subst f5_))
  obtain ⟨Ao14, co14, eo14⟩ := Kd.R_slice HO937.out
  (first | subst eo14 | (injection eo14 with f1_ f2_ f3_; have f4_ := f1_.symm; have f5_ := f3_.symm; clear f1_ f2_ f3_; subst f4_; subst f5_))
  refine norm_ (a' := ?_) ?_ ?_
  rotate_left
  · simp only [putAll, Act.put, List.setIfInBounds_toArray, List.set_cons_zero, List.set_cons_succ]
    rfl
  refine one_ (i := 5) (N := none) (bl_ 6 63) rfl rfl (by kernel_rfl) (by decide) (fun K hK => ?_)
  have hs13 : w11.cell? ⟨gb938, 0, none⟩ = some (.slice none 0 0) := cz0_ BK938
  have hfs13 := blk_frozen BK938.out 0
  have hns13_0 := NB927_938.out
  have hns13_1 := NB928_938.out
  have hms13_0 := NB938_927.out
  have hms13_1 := NB938_928.out
  have hs15 : w11.cell? ⟨gb938, 1, none⟩ = some (.slice none 0 0) := cz1_ BK938
  have hfs15 := blk_frozen BK938.out 1
  have hns15_0 := NB927_938.out
  have hns15_1 := NB928_938.out
  have hms15_0 := NB938_927.out
  have hms15_1 := NB938_928.out
  refine skip_ (w1 := ?_) (by rfl) rfl ?_ ?_
  rotate_left
  · go_simp
    rfl
  refine hK.out _ _ ⟨((cell_far (p := ⟨gb938, _, none⟩) NB927_938.out _).trans (((cell_far (p := ⟨gb938, _, none⟩) NB927_938.out _).trans (hHeld.1)))), ((cell_far (p := ⟨gb938, _, none⟩) NB927_938.out _).trans (((cell_far (p := ⟨gb938, _, none⟩) NB927_938.out _).trans (hHeld.2))))⟩ (fun hHeld => ?_)
  clear hK K
  refine done_ (by kernel_rfl) ?_
  try go_wp2
  go_loopg [4] k (fun kq v4 w' => ∃ (x4_1 : Int) (x939000_1 : List Int) (x939001_1 : List Int) (u939000 : Value) (u939001 : Value), v4 = .int .i64 x4_1 ∧ Aside0 (spec_l03Canon.l0 kq x4_1 l0_0 l0_1 x939000_1 x939001_1 = some (r1, r2)) ∧ Aside0 (kq ≤ k) ∧ Aside0 (Kd.R (Kd.int .i64) 3 w' w.heap.size (fun k_ => some k_ ≠ (u939001 : Value).ownBlock) u939000 x939000_1) ∧ Aside0 (Kd.R (Kd.int .i64) 3 w' w.heap.size (fun k_ => some k_ ≠ (u939000 : Value).ownBlock) u939001 x939001_1) ∧ Aside0 (w'.heap[gb927]? = some (.cells #[(.slice A0_0 l0_0.length c0_0), (.slice A0_1 l0_1.length c0_1)] 33 (0, 0))) ∧ Aside0 (w'.heap[gb928]? = some (.cells #[(.slice none 0 0), (.slice none 0 0)] 33 (0, 0))) ∧ Aside0 (w'.heap[gb938]? = some (.cells #[u939000, u939001] 33 (0, 0))) ∧ Aside0 (Below w.heap.size w w'))
  case atStart => exact ⟨(1), (t932), (t935), (.slice Ao12 t932.length co12), (.slice Ao14 t935.length co14), qc_, H', ⟨Nat.le_refl _⟩, ⟨(rw_ (Kd.R_mono (fa_ HO934 BK938) (fun _ hk => hk.2)))⟩, ⟨(rw_ (Kd.R_mono (fa_ HO937 BK938) (fun _ hk => hk.2)))⟩, ⟨by (with_reducible repeat (first | refine blk_drewN ?_ _ | refine blk_drew ?_ | refine blk_alloc ?_ _)); refine blk_far ?_ NB927_938.out _; (with_reducible repeat (first | refine blk_drewN ?_ _ | refine blk_drew ?_ | refine blk_alloc ?_ _)); refine blk_far ?_ NB927_938.out _; (with_reducible repeat (first | refine blk_drewN ?_ _ | refine blk_drew ?_ | refine blk_alloc ?_ _)); exact BK927.out⟩, ⟨by (with_reducible repeat (first | refine blk_drewN ?_ _ | refine blk_drew ?_ | refine blk_alloc ?_ _)); refine blk_far ?_ NB928_938.out _; (with_reducible repeat (first | refine blk_drewN ?_ _ | refine blk_drew ?_ | refine blk_alloc ?_ _)); refine blk_far ?_ NB928_938.out _; (with_reducible repeat (first | refine blk_drewN ?_ _ | refine blk_drew ?_ | refine blk_alloc ?_ _)); exact BK928.out⟩, ⟨qp_⟩, ⟨hB_⟩⟩
  case round =>
    clear H'
    obtain ⟨x4_1, x939000_1, x939001_1, u939000, u939001, rfl, HA, HK1, HO_939000, HO_939001, BK927, BK928, BK938, HB⟩ := hrel
    cases gk with
    | zero => exact absurd HA.out (by simp [spec_l03Canon.l0])
    | succ k1 =>
      have H := HA.out
      clear HA
      simp only [spec_l03Canon.l0] at H
      by_cases c16 : x4_1 < (l0_0.length : Int)
      · rw [if_pos c16] at H
        have c16b0 := decide_eq_true c16
        clear c16
        obtain ⟨t939, A17, H⟩ := bi_ H
        obtain ⟨⟨t942, t945⟩, A18, H⟩ := bi_ H
        try dsimp only at H
        obtain ⟨t949, A19, H⟩ := bi_ H
        by_cases c20 : t949 = true
        · subst c20
          rw [if_pos rfl] at H
          have H' := Aside0.mk H
          clear H
          have hnb21 := NB927_928.out
          have hnc21 := NB928_927.out
          have hnb22 := NB927_938.out
          have hnc22 := NB938_927.out
          obtain ⟨hcz23_0, hcz23_1, hfz23_0, hfz23_1⟩ := c2_ BK927
          try go_wp2
          replace HO_939000 := Aside0.mk (Kd.R_drew HO_939000.out)
          replace HO_939001 := Aside0.mk (Kd.R_drew HO_939001.out)
          replace BK927 := Aside0.mk (blk_drew BK927.out)
          replace BK928 := Aside0.mk (blk_drew BK928.out)
          replace BK938 := Aside0.mk (blk_drew BK938.out)
          replace HB := Aside0.mk (below_drew1 HB.out)
          refine start_ (n := 7) (S := fun w' => w'.cell? ⟨gb927, 0, none⟩ = some (.slice A0_0 l0_0.length c0_0) ∧ w'.cell? ⟨gb927, 1, none⟩ = some (.slice A0_1 l0_1.length c0_1)) (ds := []) (bl_ 7 0) (by kernel_rfl) rfl (by kernel_rfl) ⟨cz0_ BK927, cz1_ BK927⟩ (fun hHeld => ?_)
          generalize wr.drew = w24 at HO_939000 HO_939001 BK927 BK928 BK938 HB hHeld ⊢
          refine pure_ (i := 2) (N := some 19) (v := ?_) (a' := ?_) (bl_ 7 4) rfl rfl (by kernel_rfl) (fun _ _ _ h => h) (Or.inl ⟨by rfl, ?_⟩) ?_ ?_
          rotate_left
          · intro w'
            go_simp
            with_reducible rfl
          rotate_left
          · simp only [Act.put, List.setIfInBounds_toArray, List.set_cons_zero, List.set_cons_succ, i64_w, i32_w]
            rfl
          refine take_ (i := 0) (N := some 17) (v := ?_) (a' := ?_) (bl_ 7 5) rfl rfl (by kernel_rfl) (fun _ _ _ h => h) (Or.inl ⟨by rfl, ?_⟩) hHeld ?_ ?_
          rotate_left
          · rintro w' ⟨s0, s1⟩
            go_simp
            with_reducible rfl
          rotate_left
          · simp only [Act.put, List.setIfInBounds_toArray, List.set_cons_zero, List.set_cons_succ, i64_w, i32_w]
            rfl
          refine take_ (i := 1) (N := some 18) (v := ?_) (a' := ?_) (bl_ 7 7) rfl rfl (by kernel_rfl) (fun _ _ _ h => h) (Or.inl ⟨by rfl, ?_⟩) hHeld ?_ ?_
          rotate_left
          · rintro w' ⟨s0, s1⟩
            go_simp
            with_reducible rfl
          rotate_left
          · simp only [Act.put, List.setIfInBounds_toArray, List.set_cons_zero, List.set_cons_succ, i64_w, i32_w]
            rfl
          refine join_ (σ := Value × Value × Value × Nat) 1 (bl_ 7 63) (fun s_ => [(20, s_.1), (21, .agg #[s_.2.1, s_.2.2.1]), (5, .pointer (some ⟨s_.2.2.2, 0, none⟩))]) (fun s_ w' => (w'.cell? ⟨gb927, 0, none⟩ = some (.slice A0_0 l0_0.length c0_0) ∧ w'.cell? ⟨gb927, 1, none⟩ = some (.slice A0_1 l0_1.length c0_1)) ∧ (Kd.R (Kd.int .i64) 3 w' w.heap.size (fun k_ => some k_ ≠ (s_.2.1 : Value).ownBlock ∧ some k_ ≠ (s_.2.2.1 : Value).ownBlock ∧ some k_ ≠ (u939000 : Value).ownBlock ∧ some k_ ≠ (u939001 : Value).ownBlock) s_.1 t939) ∧ (Kd.R (Kd.int .i64) 3 w' w.heap.size (fun k_ => some k_ ≠ (s_.1 : Value).ownBlock ∧ some k_ ≠ (s_.2.2.1 : Value).ownBlock ∧ some k_ ≠ (u939000 : Value).ownBlock ∧ some k_ ≠ (u939001 : Value).ownBlock) s_.2.1 t942) ∧ (Kd.R (Kd.int .i64) 3 w' w.heap.size (fun k_ => some k_ ≠ (s_.1 : Value).ownBlock ∧ some k_ ≠ (s_.2.1 : Value).ownBlock ∧ some k_ ≠ (u939000 : Value).ownBlock ∧ some k_ ≠ (u939001 : Value).ownBlock) s_.2.2.1 t945) ∧ (Kd.R (Kd.int .i64) 3 w' w.heap.size (fun k_ => some k_ ≠ (s_.1 : Value).ownBlock ∧ some k_ ≠ (s_.2.1 : Value).ownBlock ∧ some k_ ≠ (s_.2.2.1 : Value).ownBlock ∧ some k_ ≠ (u939001 : Value).ownBlock) u939000 x939000_1) ∧ (Kd.R (Kd.int .i64) 3 w' w.heap.size (fun k_ => some k_ ≠ (s_.1 : Value).ownBlock ∧ some k_ ≠ (s_.2.1 : Value).ownBlock ∧ some k_ ≠ (s_.2.2.1 : Value).ownBlock ∧ some k_ ≠ (u939000 : Value).ownBlock) u939001 x939001_1) ∧ (w'.heap[gb927]? = some (.cells #[.slice A0_0 l0_0.length c0_0, .slice A0_1 l0_1.length c0_1] 33 (0, 0))) ∧ (w'.heap[gb928]? = some (.cells #[.slice none 0 0, .slice none 0 0] 33 (0, 0))) ∧ (w'.heap[gb938]? = some (.cells #[u939000, u939001] 33 (0, 0))) ∧ (w'.heap[s_.2.2.2]? = some (.cells #[.slice none 0 0, .slice none 0 0] 33 (0, 0))) ∧ (w.heap.size ≤ s_.2.2.2) ∧ (w.heap.size ≤ s_.2.2.2) ∧ (gb927 ≠ s_.2.2.2) ∧ (s_.2.2.2 ≠ gb927) ∧ (gb928 ≠ s_.2.2.2) ∧ (s_.2.2.2 ≠ gb928) ∧ (gb938 ≠ s_.2.2.2) ∧ (s_.2.2.2 ≠ gb938) ∧ (Below w.heap.size w w')) ?_ ?_
          rotate_left
          · intro hCont
            refine two_ (i := 3) (j := 5) (Ni := some 20) (Nj := some 5) (bl_ 7 15) (bl_ 7 39) rfl rfl rfl rfl (by kernel_rfl) (by decide) (by decide) (fun K hK => ?_) (fun K hK => ?_)
            · skip
              refine gO_ Try.func130 #[.agg #[.slice A0_0 l0_0.length c0_0, .slice A0_1 l0_1.length c0_1], .int .i64 x4_1] (by rfl) rfl rfl qa_ ?_
              with_reducible refine (spec_l03Names.calls k1 _ _ l0_0 _ _ l0_1 x4_1 t939 _ (cb_ HR0_0) HC0_0.out (cb_ HR0_1) HC0_1.out A17.out).mono ?_
              rintro e w25 ⟨v940, rfl, ho0, hb⟩
              refine ⟨_, rfl, ?_⟩
              have HO941 := Aside0.mk (Kd.R_lower (Kd.R_new' (Kd.R_new' ho0 (Kd.R_lt (rr_ HO_939000))) (Kd.R_lt (rr_ HO_939001))) (below_size hB_))
              replace HO_939000 := Aside0.mk (Kd.R_elder' (rr_ HO_939000) (Kd.R_base ho0) hb)
              replace HO_939001 := Aside0.mk (Kd.R_elder' (rr_ HO_939001) (Kd.R_base ho0) hb)
              replace BK927 := bb_ BK927 hb
              replace BK928 := bb_ BK928 hb
              replace BK938 := bb_ BK938 hb
              replace HB := b1_ hb
              clear hb ho0
              obtain ⟨Ao26, co26, eo26⟩ := Kd.R_slice HO941.out
              (first | subst eo26 | (injection eo26 with f1_ f2_ f3_; have f4_ := f1_.symm; have f5_ := f3_.symm; clear f1_ f2_ f3_; subst f4_; subst f5_))
              refine hK.out _ _ ⟨cz0_ BK927, cz1_ BK927⟩ (fun hHeld => ?_)
              clear hK K
              refine no_ (some 20) ?_
              refine two_ (i := 4) (j := 5) (Ni := some 21) (Nj := some 5) (bl_ 7 31) (bl_ 7 47) rfl rfl rfl rfl (by kernel_rfl) (by decide) (by decide) (fun K hK => ?_) (fun K hK => ?_)
              · skip
                refine gO_ Try.func129 #[.agg #[.slice A0_0 l0_0.length c0_0, .slice A0_1 l0_1.length c0_1], .slice Ao26 t939.length co26] (by rfl) rfl rfl qa_ ?_
                with_reducible refine (spec_l03Rename.calls k1 _ _ l0_0 _ _ l0_1 _ _ t939 t942 t945 _ (cb_ HR0_0) HC0_0.out (cb_ HR0_1) HC0_1.out (cr_ HO941) ((Kd.R_reads' HO941.out).2.1) A18.out).mono ?_
                rintro e w27 ⟨v943, v946, rfl, ho0, ho1, hb⟩
                refine ⟨_, rfl, ?_⟩
                have HO944 := Aside0.mk (Kd.R_lower (Kd.R_new' (Kd.R_new' (Kd.R_new' ho0 (Kd.R_lt (rr_ HO_939000))) (Kd.R_lt (rr_ HO_939001))) (Kd.R_lt (rr_ HO941))) (below_size hB_))
                have HO947 := Aside0.mk (Kd.R_lower (Kd.R_new' (Kd.R_new' (Kd.R_new' ho1 (Kd.R_lt (rr_ HO_939000))) (Kd.R_lt (rr_ HO_939001))) (Kd.R_lt (rr_ HO941))) (below_size hB_))
                replace HO_939000 := Aside0.mk (Kd.R_mono (Kd.R_told (Kd.R_told (Kd.R_old (rr_ HO_939000) hb) (Kd.R_base ho0)) (Kd.R_base ho1)) (fun _ h_ => h_.1))
                replace HO_939001 := Aside0.mk (Kd.R_mono (Kd.R_told (Kd.R_told (Kd.R_old (rr_ HO_939001) hb) (Kd.R_base ho0)) (Kd.R_base ho1)) (fun _ h_ => h_.1))
                replace HO941 := Aside0.mk (Kd.R_mono (Kd.R_told (Kd.R_told (Kd.R_old (rr_ HO941) hb) (Kd.R_base ho0)) (Kd.R_base ho1)) (fun _ h_ => h_.1))
                replace BK927 := bb_ BK927 hb
                replace BK928 := bb_ BK928 hb
                replace BK938 := bb_ BK938 hb
                replace HB := b1_ hb
                clear hb ho0 ho1
                refine hK.out _ _ ⟨cz0_ BK927, cz1_ BK927⟩ (fun hHeld => ?_)
                clear hK K
                refine no_ (some 21) ?_
                refine one_ (i := 5) (N := some 5) (bl_ 7 63) rfl rfl (by kernel_rfl) (by decide) (fun K hK => ?_)
                refine box_step ?hg (N := 5) ?hd (cs := #[.slice none 0 0, .slice none 0 0]) (t := 33) ?hr ?_; (case hd => rfl); (case hg => rfl); (case hr => first | (go_simp; done) | (go_simp; rfl))
                intro gb948 hg w28 hbox hb
                replace HO_939000 := rb_ HO_939000 hb
                replace HO_939001 := rb_ HO_939001 hb
                replace HO941 := rb_ HO941 hb
                replace HO944 := rb_ HO944 hb
                replace HO947 := rb_ HO947 hb
                have BK948 := Aside0.mk hbox
                have GW948 := gw_ w hg
                have GE948 := GW948
                replace HB := b1_ hb
                have NB927_948 := gN_ BK927 hg
                have NB948_927 := gP_ BK927 hg
                replace BK927 := bb_ BK927 hb
                have NB928_948 := gN_ BK928 hg
                have NB948_928 := gP_ BK928 hg
                replace BK928 := bb_ BK928 hb
                have NB938_948 := gN_ BK938 hg
                have NB948_938 := gP_ BK938 hg
                replace BK938 := bb_ BK938 hb
                clear hb hbox hg
                refine hK.out _ _ ⟨cz0_ BK927, cz1_ BK927⟩ (fun hHeld => ?_)
                clear hK K
                refine no_ (some 5) ?_
                exact norm_ (by simp only [putAll, Act.put, List.setIfInBounds_toArray, List.set_cons_zero, List.set_cons_succ]) (hCont (.slice Ao26 t939.length co26, v943, v946, gb948) _ ⟨hHeld, (rw_ (Kd.R_mono HO941.out (fun _ hk => ⟨hk.1.2, ⟨hk.2, ⟨hk.1.1.1.2, hk.1.1.2⟩⟩⟩))), (rw_ (Kd.R_mono HO944.out (fun _ hk => ⟨hk.2, ⟨hk.1.1.1, ⟨hk.1.1.2, hk.1.2⟩⟩⟩))), (rw_ (Kd.R_mono HO947.out (fun _ hk => ⟨hk.2, ⟨hk.1.1.1, ⟨hk.1.1.2, hk.1.2⟩⟩⟩))), (rw_ (Kd.R_mono HO_939000.out (fun _ hk => ⟨hk.1.1.2, ⟨hk.1.2, ⟨hk.2, hk.1.1.1⟩⟩⟩))), (rw_ (Kd.R_mono HO_939001.out (fun _ hk => ⟨hk.1.1.2, ⟨hk.1.2, ⟨hk.2, hk.1.1.1⟩⟩⟩))), (kk_ BK927), (kk_ BK928), (kk_ BK938), (kk_ BK948), GW948.out, GE948.out, NB927_948.out, NB948_927.out, NB928_948.out, NB948_928.out, NB938_948.out, NB948_938.out, hB_⟩)
              · skip
                refine box_step ?hg (N := 5) ?hd (cs := #[.slice none 0 0, .slice none 0 0]) (t := 33) ?hr ?_; (case hd => rfl); (case hg => rfl); (case hr => first | (go_simp; done) | (go_simp; rfl))
                intro gb948 hg w26 hbox hb
                replace HO_939000 := rb_ HO_939000 hb
                replace HO_939001 := rb_ HO_939001 hb
                replace HO941 := rb_ HO941 hb
                have BK948 := Aside0.mk hbox
                have GW948 := gw_ w hg
                have GE948 := GW948
                replace HB := b1_ hb
                have NB927_948 := gN_ BK927 hg
                have NB948_927 := gP_ BK927 hg
                replace BK927 := bb_ BK927 hb
                have NB928_948 := gN_ BK928 hg
                have NB948_928 := gP_ BK928 hg
                replace BK928 := bb_ BK928 hb
                have NB938_948 := gN_ BK938 hg
                have NB948_938 := gP_ BK938 hg
                replace BK938 := bb_ BK938 hb
                clear hb hbox hg
                obtain ⟨Ao27, co27, eo27⟩ := Kd.R_slice HO941.out
                (first | subst eo27 | (injection eo27 with f1_ f2_ f3_; have f4_ := f1_.symm; have f5_ := f3_.symm; clear f1_ f2_ f3_; subst f4_; subst f5_))
                refine hK.out _ _ ⟨cz0_ BK927, cz1_ BK927⟩ (fun hHeld => ?_)
                clear hK K
                refine no_ (some 5) ?_
                refine one_ (i := 4) (N := some 21) (bl_ 7 63) rfl rfl (by kernel_rfl) (by decide) (fun K hK => ?_)
                refine gO_ Try.func129 #[.agg #[.slice A0_0 l0_0.length c0_0, .slice A0_1 l0_1.length c0_1], .slice Ao27 t939.length co27] (by rfl) rfl rfl qa_ ?_
                with_reducible refine (spec_l03Rename.calls k1 _ _ l0_0 _ _ l0_1 _ _ t939 t942 t945 _ (cb_ HR0_0) HC0_0.out (cb_ HR0_1) HC0_1.out (cr_ HO941) ((Kd.R_reads' HO941.out).2.1) A18.out).mono ?_
                rintro e w28 ⟨v943, v946, rfl, ho0, ho1, hb⟩
                refine ⟨_, rfl, ?_⟩
                have HO944 := Aside0.mk (Kd.R_lower (Kd.R_new' (Kd.R_new' (Kd.R_new' ho0 (Kd.R_lt (rr_ HO_939000))) (Kd.R_lt (rr_ HO_939001))) (Kd.R_lt (rr_ HO941))) (below_size hB_))
                have HO947 := Aside0.mk (Kd.R_lower (Kd.R_new' (Kd.R_new' (Kd.R_new' ho1 (Kd.R_lt (rr_ HO_939000))) (Kd.R_lt (rr_ HO_939001))) (Kd.R_lt (rr_ HO941))) (below_size hB_))
                replace HO_939000 := Aside0.mk (Kd.R_mono (Kd.R_told (Kd.R_told (Kd.R_old (rr_ HO_939000) hb) (Kd.R_base ho0)) (Kd.R_base ho1)) (fun _ h_ => h_.1))
                replace HO_939001 := Aside0.mk (Kd.R_mono (Kd.R_told (Kd.R_told (Kd.R_old (rr_ HO_939001) hb) (Kd.R_base ho0)) (Kd.R_base ho1)) (fun _ h_ => h_.1))
                replace HO941 := Aside0.mk (Kd.R_mono (Kd.R_told (Kd.R_told (Kd.R_old (rr_ HO941) hb) (Kd.R_base ho0)) (Kd.R_base ho1)) (fun _ h_ => h_.1))
                replace BK927 := bb_ BK927 hb
                replace BK928 := bb_ BK928 hb
                replace BK938 := bb_ BK938 hb
                replace BK948 := bb_ BK948 hb
                replace HB := b1_ hb
                clear hb ho0 ho1
                refine hK.out _ _ ⟨cz0_ BK927, cz1_ BK927⟩ (fun hHeld => ?_)
                clear hK K
                refine no_ (some 21) ?_
                exact norm_ (by simp only [putAll, Act.put, List.setIfInBounds_toArray, List.set_cons_zero, List.set_cons_succ]) (hCont (.slice Ao27 t939.length co27, v943, v946, gb948) _ ⟨hHeld, (rw_ (Kd.R_mono HO941.out (fun _ hk => ⟨hk.1.2, ⟨hk.2, ⟨hk.1.1.1.2, hk.1.1.2⟩⟩⟩))), (rw_ (Kd.R_mono HO944.out (fun _ hk => ⟨hk.2, ⟨hk.1.1.1, ⟨hk.1.1.2, hk.1.2⟩⟩⟩))), (rw_ (Kd.R_mono HO947.out (fun _ hk => ⟨hk.2, ⟨hk.1.1.1, ⟨hk.1.1.2, hk.1.2⟩⟩⟩))), (rw_ (Kd.R_mono HO_939000.out (fun _ hk => ⟨hk.1.1.2, ⟨hk.1.2, ⟨hk.2, hk.1.1.1⟩⟩⟩))), (rw_ (Kd.R_mono HO_939001.out (fun _ hk => ⟨hk.1.1.2, ⟨hk.1.2, ⟨hk.2, hk.1.1.1⟩⟩⟩))), (kk_ BK927), (kk_ BK928), (kk_ BK938), (kk_ BK948), GW948.out, GE948.out, NB927_948.out, NB948_927.out, NB928_948.out, NB948_928.out, NB938_948.out, NB948_938.out, hB_⟩)
            · skip
              refine box_step ?hg (N := 5) ?hd (cs := #[.slice none 0 0, .slice none 0 0]) (t := 33) ?hr ?_; (case hd => rfl); (case hg => rfl); (case hr => first | (go_simp; done) | (go_simp; rfl))
              intro gb948 hg w25 hbox hb
              replace HO_939000 := rb_ HO_939000 hb
              replace HO_939001 := rb_ HO_939001 hb
              have BK948 := Aside0.mk hbox
              have GW948 := gw_ w hg
              have GE948 := GW948
              replace HB := b1_ hb
              have NB927_948 := gN_ BK927 hg
              have NB948_927 := gP_ BK927 hg
              replace BK927 := bb_ BK927 hb
              have NB928_948 := gN_ BK928 hg
              have NB948_928 := gP_ BK928 hg
              replace BK928 := bb_ BK928 hb
              have NB938_948 := gN_ BK938 hg
              have NB948_938 := gP_ BK938 hg
              replace BK938 := bb_ BK938 hb
              clear hb hbox hg
              refine hK.out _ _ ⟨cz0_ BK927, cz1_ BK927⟩ (fun hHeld => ?_)
              clear hK K
              refine no_ (some 5) ?_
              refine one_ (i := 3) (N := some 20) (bl_ 7 47) rfl rfl (by kernel_rfl) (by decide) (fun K hK => ?_)
              refine gO_ Try.func130 #[.agg #[.slice A0_0 l0_0.length c0_0, .slice A0_1 l0_1.length c0_1], .int .i64 x4_1] (by rfl) rfl rfl qa_ ?_
              with_reducible refine (spec_l03Names.calls k1 _ _ l0_0 _ _ l0_1 x4_1 t939 _ (cb_ HR0_0) HC0_0.out (cb_ HR0_1) HC0_1.out A17.out).mono ?_
              rintro e w26 ⟨v940, rfl, ho0, hb⟩
              refine ⟨_, rfl, ?_⟩
              have HO941 := Aside0.mk (Kd.R_lower (Kd.R_new' (Kd.R_new' ho0 (Kd.R_lt (rr_ HO_939000))) (Kd.R_lt (rr_ HO_939001))) (below_size hB_))
              replace HO_939000 := Aside0.mk (Kd.R_elder' (rr_ HO_939000) (Kd.R_base ho0) hb)
              replace HO_939001 := Aside0.mk (Kd.R_elder' (rr_ HO_939001) (Kd.R_base ho0) hb)
              replace BK927 := bb_ BK927 hb
              replace BK928 := bb_ BK928 hb
              replace BK938 := bb_ BK938 hb
              replace BK948 := bb_ BK948 hb
              replace HB := b1_ hb
              clear hb ho0
              obtain ⟨Ao27, co27, eo27⟩ := Kd.R_slice HO941.out
              (first | subst eo27 | (injection eo27 with f1_ f2_ f3_; have f4_ := f1_.symm; have f5_ := f3_.symm; clear f1_ f2_ f3_; subst f4_; subst f5_))
              refine hK.out _ _ ⟨cz0_ BK927, cz1_ BK927⟩ (fun hHeld => ?_)
              clear hK K
              refine no_ (some 20) ?_
              refine one_ (i := 4) (N := some 21) (bl_ 7 63) rfl rfl (by kernel_rfl) (by decide) (fun K hK => ?_)
              refine gO_ Try.func129 #[.agg #[.slice A0_0 l0_0.length c0_0, .slice A0_1 l0_1.length c0_1], .slice Ao27 t939.length co27] (by rfl) rfl rfl qa_ ?_
              with_reducible refine (spec_l03Rename.calls k1 _ _ l0_0 _ _ l0_1 _ _ t939 t942 t945 _ (cb_ HR0_0) HC0_0.out (cb_ HR0_1) HC0_1.out (cr_ HO941) ((Kd.R_reads' HO941.out).2.1) A18.out).mono ?_
              rintro e w28 ⟨v943, v946, rfl, ho0, ho1, hb⟩
              refine ⟨_, rfl, ?_⟩
              have HO944 := Aside0.mk (Kd.R_lower (Kd.R_new' (Kd.R_new' (Kd.R_new' ho0 (Kd.R_lt (rr_ HO_939000))) (Kd.R_lt (rr_ HO_939001))) (Kd.R_lt (rr_ HO941))) (below_size hB_))
              have HO947 := Aside0.mk (Kd.R_lower (Kd.R_new' (Kd.R_new' (Kd.R_new' ho1 (Kd.R_lt (rr_ HO_939000))) (Kd.R_lt (rr_ HO_939001))) (Kd.R_lt (rr_ HO941))) (below_size hB_))
              replace HO_939000 := Aside0.mk (Kd.R_mono (Kd.R_told (Kd.R_told (Kd.R_old (rr_ HO_939000) hb) (Kd.R_base ho0)) (Kd.R_base ho1)) (fun _ h_ => h_.1))
              replace HO_939001 := Aside0.mk (Kd.R_mono (Kd.R_told (Kd.R_told (Kd.R_old (rr_ HO_939001) hb) (Kd.R_base ho0)) (Kd.R_base ho1)) (fun _ h_ => h_.1))
              replace HO941 := Aside0.mk (Kd.R_mono (Kd.R_told (Kd.R_told (Kd.R_old (rr_ HO941) hb) (Kd.R_base ho0)) (Kd.R_base ho1)) (fun _ h_ => h_.1))
              replace BK927 := bb_ BK927 hb
              replace BK928 := bb_ BK928 hb
              replace BK938 := bb_ BK938 hb
              replace BK948 := bb_ BK948 hb
              replace HB := b1_ hb
              clear hb ho0 ho1
              refine hK.out _ _ ⟨cz0_ BK927, cz1_ BK927⟩ (fun hHeld => ?_)
              clear hK K
              refine no_ (some 21) ?_
              exact norm_ (by simp only [putAll, Act.put, List.setIfInBounds_toArray, List.set_cons_zero, List.set_cons_succ]) (hCont (.slice Ao27 t939.length co27, v943, v946, gb948) _ ⟨hHeld, (rw_ (Kd.R_mono HO941.out (fun _ hk => ⟨hk.1.2, ⟨hk.2, ⟨hk.1.1.1.2, hk.1.1.2⟩⟩⟩))), (rw_ (Kd.R_mono HO944.out (fun _ hk => ⟨hk.2, ⟨hk.1.1.1, ⟨hk.1.1.2, hk.1.2⟩⟩⟩))), (rw_ (Kd.R_mono HO947.out (fun _ hk => ⟨hk.2, ⟨hk.1.1.1, ⟨hk.1.1.2, hk.1.2⟩⟩⟩))), (rw_ (Kd.R_mono HO_939000.out (fun _ hk => ⟨hk.1.1.2, ⟨hk.1.2, ⟨hk.2, hk.1.1.1⟩⟩⟩))), (rw_ (Kd.R_mono HO_939001.out (fun _ hk => ⟨hk.1.1.2, ⟨hk.1.2, ⟨hk.2, hk.1.1.1⟩⟩⟩))), (kk_ BK927), (kk_ BK928), (kk_ BK938), (kk_ BK948), GW948.out, GE948.out, NB927_948.out, NB948_927.out, NB928_948.out, NB948_928.out, NB938_948.out, NB948_938.out, hB_⟩)
          rintro ⟨v940, v943, v946, gb948⟩ w29 ⟨hS_, h0_, h1_, h2_, h3_, h4_, h5_, h6_, h7_, h8_, h9_, h10_, h11_, h12_, h13_, h14_, h15_, h16_, h17_⟩
          have n0_ : Aside0 (Kd.R (Kd.int .i64) 3 w29 w.heap.size (fun k_ => some k_ ≠ (v943 : Value).ownBlock ∧ some k_ ≠ (v946 : Value).ownBlock ∧ some k_ ≠ (u939000 : Value).ownBlock ∧ some k_ ≠ (u939001 : Value).ownBlock) v940 t939) := ⟨h0_⟩
          have n1_ : Aside0 (Kd.R (Kd.int .i64) 3 w29 w.heap.size (fun k_ => some k_ ≠ (v940 : Value).ownBlock ∧ some k_ ≠ (v946 : Value).ownBlock ∧ some k_ ≠ (u939000 : Value).ownBlock ∧ some k_ ≠ (u939001 : Value).ownBlock) v943 t942) := ⟨h1_⟩
          have n2_ : Aside0 (Kd.R (Kd.int .i64) 3 w29 w.heap.size (fun k_ => some k_ ≠ (v940 : Value).ownBlock ∧ some k_ ≠ (v943 : Value).ownBlock ∧ some k_ ≠ (u939000 : Value).ownBlock ∧ some k_ ≠ (u939001 : Value).ownBlock) v946 t945) := ⟨h2_⟩
          have n3_ : Aside0 (Kd.R (Kd.int .i64) 3 w29 w.heap.size (fun k_ => some k_ ≠ (v940 : Value).ownBlock ∧ some k_ ≠ (v943 : Value).ownBlock ∧ some k_ ≠ (v946 : Value).ownBlock ∧ some k_ ≠ (u939001 : Value).ownBlock) u939000 x939000_1) := ⟨h3_⟩
          have n4_ : Aside0 (Kd.R (Kd.int .i64) 3 w29 w.heap.size (fun k_ => some k_ ≠ (v940 : Value).ownBlock ∧ some k_ ≠ (v943 : Value).ownBlock ∧ some k_ ≠ (v946 : Value).ownBlock ∧ some k_ ≠ (u939000 : Value).ownBlock) u939001 x939001_1) := ⟨h4_⟩
          have n5_ : Aside0 (w29.heap[gb927]? = some (.cells #[.slice A0_0 l0_0.length c0_0, .slice A0_1 l0_1.length c0_1] 33 (0, 0))) := ⟨h5_⟩
          have n6_ : Aside0 (w29.heap[gb928]? = some (.cells #[.slice none 0 0, .slice none 0 0] 33 (0, 0))) := ⟨h6_⟩
          have n7_ : Aside0 (w29.heap[gb938]? = some (.cells #[u939000, u939001] 33 (0, 0))) := ⟨h7_⟩
          have n8_ : Aside0 (w29.heap[gb948]? = some (.cells #[.slice none 0 0, .slice none 0 0] 33 (0, 0))) := ⟨h8_⟩
          have n9_ : Aside0 (w.heap.size ≤ gb948) := ⟨h9_⟩
          have n10_ : Aside0 (w.heap.size ≤ gb948) := ⟨h10_⟩
          have n11_ : Aside0 (gb927 ≠ gb948) := ⟨h11_⟩
          have n12_ : Aside0 (gb948 ≠ gb927) := ⟨h12_⟩
          have n13_ : Aside0 (gb928 ≠ gb948) := ⟨h13_⟩
          have n14_ : Aside0 (gb948 ≠ gb928) := ⟨h14_⟩
          have n15_ : Aside0 (gb938 ≠ gb948) := ⟨h15_⟩
          have n16_ : Aside0 (gb948 ≠ gb938) := ⟨h16_⟩
          have n17_ : Aside0 (Below w.heap.size w w29) := ⟨h17_⟩
          clear HO_939000
          clear HO_939001
          clear BK927
          clear BK928
          clear BK938
          clear HB
          clear h0_ h1_ h2_ h3_ h4_ h5_ h6_ h7_ h8_ h9_ h10_ h11_ h12_ h13_ h14_ h15_ h16_ h17_
          have HO941 := n0_
          have HO944 := n1_
          have HO947 := n2_
          have HO_939000 := n3_
          have HO_939001 := n4_
          have BK927 := n5_
          have BK928 := n6_
          have BK938 := n7_
          have BK948 := n8_
          have GW948 := n9_
          have GE948 := n10_
          have NB927_948 := n11_
          have NB948_927 := n12_
          have NB928_948 := n13_
          have NB948_928 := n14_
          have NB938_948 := n15_
          have NB948_938 := n16_
          have HB := n17_
          clear n0_ n1_ n2_ n3_ n4_ n5_ n6_ n7_ n8_ n9_ n10_ n11_ n12_ n13_ n14_ n15_ n16_ n17_
          have hHeld : w29.cell? ⟨gb927, 0, none⟩ = some (.slice A0_0 l0_0.length c0_0) ∧ w29.cell? ⟨gb927, 1, none⟩ = some (.slice A0_1 l0_1.length c0_1) := hS_
          obtain ⟨Ao30, co30, eo30⟩ := Kd.R_slice HO944.out
          (first | subst eo30 | (injection eo30 with f1_ f2_ f3_; have f4_ := f1_.symm; have f5_ := f3_.symm; clear f1_ f2_ f3_; subst f4_; subst f5_))
          obtain ⟨Ao32, co32, eo32⟩ := Kd.R_slice HO947.out
          (first | subst eo32 | (injection eo32 with f1_ f2_ f3_; have f4_ := f1_.symm; have f5_ := f3_.symm; clear f1_ f2_ f3_; subst f4_; subst f5_))
          refine norm_ (a' := ?_) ?_ ?_
          rotate_left
          · simp only [putAll, Act.put, List.setIfInBounds_toArray, List.set_cons_zero, List.set_cons_succ]
            rfl
          refine one_ (i := 6) (N := none) (bl_ 7 127) rfl rfl (by kernel_rfl) (by decide) (fun K hK => ?_)
          have hs31 : w29.cell? ⟨gb948, 0, none⟩ = some (.slice none 0 0) := cz0_ BK948
          have hfs31 := blk_frozen BK948.out 0
          have hns31_0 := NB927_948.out
          have hns31_1 := NB928_948.out
          have hns31_2 := NB938_948.out
          have hms31_0 := NB948_927.out
          have hms31_1 := NB948_928.out
          have hms31_2 := NB948_938.out
          have hs33 : w29.cell? ⟨gb948, 1, none⟩ = some (.slice none 0 0) := cz1_ BK948
          have hfs33 := blk_frozen BK948.out 1
          have hns33_0 := NB927_948.out
          have hns33_1 := NB928_948.out
          have hns33_2 := NB938_948.out
          have hms33_0 := NB948_927.out
          have hms33_1 := NB948_928.out
          have hms33_2 := NB948_938.out
          refine skip_ (w1 := ?_) (by rfl) rfl ?_ ?_
          rotate_left
          · go_simp
            rfl
          refine hK.out _ _ ⟨((cell_far (p := ⟨gb948, _, none⟩) NB927_948.out _).trans (((cell_far (p := ⟨gb948, _, none⟩) NB927_948.out _).trans (hHeld.1)))), ((cell_far (p := ⟨gb948, _, none⟩) NB927_948.out _).trans (((cell_far (p := ⟨gb948, _, none⟩) NB927_948.out _).trans (hHeld.2))))⟩ (fun hHeld => ?_)
          clear hK K
          refine done_ (by kernel_rfl) ?_
          have hnb34 := NB948_927.out
          have hnc34 := NB927_948.out
          have hnb35 := NB948_928.out
          have hnc35 := NB928_948.out
          have hnb36 := NB948_938.out
          have hnc36 := NB938_948.out
          obtain ⟨hcz37_0, hcz37_1, hfz37_0, hfz37_1⟩ := c2_ BK948
          have hnb38 := NB938_928.out
          have hnc38 := NB928_938.out
          obtain ⟨hcz39_0, hcz39_1, hfz39_0, hfz39_1⟩ := c2_ BK938
          obtain ⟨Ao40, co40, eo40⟩ := Kd.R_slice HO_939000.out
          subst eo40
          obtain ⟨Ao41, co41, eo41⟩ := Kd.R_slice HO_939001.out
          subst eo41
          try go_wp2_with (first | ((with_reducible refine gate_callee (f := 128) rfl ?_); refine gL_ (some 24) Try.func128 #[.agg #[.slice Ao30 t942.length co30, .slice Ao32 t945.length co32], .agg #[.slice Ao40 x939000_1.length co40, .slice Ao41 x939001_1.length co41]] rfl qa_ ?_; (with_reducible refine (spec_l03Before.calls k1 _ _ t942 _ _ t945 _ _ x939000_1 _ _ x939001_1 true _ ?side1 ?side2 ?side3 ?side4 ?side5 ?side6 ?side7 ?side8 A19.out).mono ?_); (case side1 => refine (Kd.R_reads' (e := 3) (base := w.heap.size) (ok := fun k_ => (some k_ ≠ (v940 : Value).ownBlock ∧ (some k_ ≠ (.slice Ao32 t945.length co32 : Value).ownBlock ∧ (some k_ ≠ (.slice Ao40 x939000_1.length co40 : Value).ownBlock ∧ some k_ ≠ (.slice Ao41 x939001_1.length co41 : Value).ownBlock)))) (n := t942.length) (c := co30) ?_).2.2; exact (rw_ (fa_ HO944 BK948))); (case side2 => exact (Kd.R_reads' HO944.out).2.1); (case side3 => refine (Kd.R_reads' (e := 3) (base := w.heap.size) (ok := fun k_ => (some k_ ≠ (v940 : Value).ownBlock ∧ (some k_ ≠ (.slice Ao30 t942.length co30 : Value).ownBlock ∧ (some k_ ≠ (.slice Ao40 x939000_1.length co40 : Value).ownBlock ∧ some k_ ≠ (.slice Ao41 x939001_1.length co41 : Value).ownBlock)))) (n := t945.length) (c := co32) ?_).2.2; exact (rw_ (fa_ HO947 BK948))); (case side4 => exact (Kd.R_reads' HO947.out).2.1); (case side5 => refine (Kd.R_reads' (e := 3) (base := w.heap.size) (ok := fun k_ => (some k_ ≠ (v940 : Value).ownBlock ∧ (some k_ ≠ (.slice Ao30 t942.length co30 : Value).ownBlock ∧ (some k_ ≠ (.slice Ao32 t945.length co32 : Value).ownBlock ∧ some k_ ≠ (.slice Ao41 x939001_1.length co41 : Value).ownBlock)))) (n := x939000_1.length) (c := co40) ?_).2.2; exact (rw_ (fa_ HO_939000 BK948))); (case side6 => exact (Kd.R_reads' HO_939000.out).2.1); (case side7 => refine (Kd.R_reads' (e := 3) (base := w.heap.size) (ok := fun k_ => (some k_ ≠ (v940 : Value).ownBlock ∧ (some k_ ≠ (.slice Ao30 t942.length co30 : Value).ownBlock ∧ (some k_ ≠ (.slice Ao32 t945.length co32 : Value).ownBlock ∧ some k_ ≠ (.slice Ao40 x939000_1.length co40 : Value).ownBlock)))) (n := x939001_1.length) (c := co41) ?_).2.2; exact (rw_ (fa_ HO_939001 BK948))); (case side8 => exact (Kd.R_reads' HO_939001.out).2.1); rintro e w42 ⟨rfl, hb⟩; refine ⟨_, rfl, ?_⟩; replace HO_939000 := Aside0.mk (Kd.R_below (rw_ (fa_ HO_939000 BK948)) hb); replace HO_939001 := Aside0.mk (Kd.R_below (rw_ (fa_ HO_939001 BK948)) hb); replace HO941 := Aside0.mk (Kd.R_below (rw_ (fa_ HO941 BK948)) hb); replace HO944 := Aside0.mk (Kd.R_below (rw_ (fa_ HO944 BK948)) hb); replace HO947 := Aside0.mk (Kd.R_below (rw_ (fa_ HO947 BK948)) hb); replace BK927 := Aside0.mk (blk_below (g := gb927) (o := .cells #[.slice A0_0 l0_0.length c0_0, .slice A0_1 l0_1.length c0_1] 33 (0, 0)) (by (with_reducible repeat (first | refine blk_drewN ?_ _ | refine blk_drew ?_ | refine blk_alloc ?_ _)); refine blk_far ?_ NB927_948.out _; (with_reducible repeat (first | refine blk_drewN ?_ _ | refine blk_drew ?_ | refine blk_alloc ?_ _)); refine blk_far ?_ NB927_948.out _; (with_reducible repeat (first | refine blk_drewN ?_ _ | refine blk_drew ?_ | refine blk_alloc ?_ _)); exact BK927.out) hb); replace BK928 := Aside0.mk (blk_below (g := gb928) (o := .cells #[.slice none 0 0, .slice none 0 0] 33 (0, 0)) (by (with_reducible repeat (first | refine blk_drewN ?_ _ | refine blk_drew ?_ | refine blk_alloc ?_ _)); refine blk_far ?_ NB928_948.out _; (with_reducible repeat (first | refine blk_drewN ?_ _ | refine blk_drew ?_ | refine blk_alloc ?_ _)); refine blk_far ?_ NB928_948.out _; (with_reducible repeat (first | refine blk_drewN ?_ _ | refine blk_drew ?_ | refine blk_alloc ?_ _)); exact BK928.out) hb); replace BK938 := Aside0.mk (blk_below (g := gb938) (o := .cells #[.slice Ao40 x939000_1.length co40, .slice Ao41 x939001_1.length co41] 33 (0, 0)) (by (with_reducible repeat (first | refine blk_drewN ?_ _ | refine blk_drew ?_ | refine blk_alloc ?_ _)); refine blk_far ?_ NB938_948.out _; (with_reducible repeat (first | refine blk_drewN ?_ _ | refine blk_drew ?_ | refine blk_alloc ?_ _)); refine blk_far ?_ NB938_948.out _; (with_reducible repeat (first | refine blk_drewN ?_ _ | refine blk_drew ?_ | refine blk_alloc ?_ _)); exact BK938.out) hb); replace BK948 := Aside0.mk (blk_below (g := gb948) (o := .cells #[.slice Ao30 t942.length co30, .slice Ao32 t945.length co32] 33 (0, 0)) qp_ hb); replace HB := b1_ hb; clear hb; obtain ⟨hcz43_0, hcz43_1, hfz43_0, hfz43_1⟩ := c2_ BK948; obtain ⟨hcz44_0, hcz44_1, hfz44_0, hfz44_1⟩ := c2_ BK938))
          go_roundg k1
          case measure => have := HK1.out; omega
          case rel => exact ⟨(wrap64 (x4_1 + 1)), (t942), (t945), (.slice Ao30 t942.length co30), (.slice Ao32 t945.length co32), qc_, H', ⟨by have := HK1.out; omega⟩, ⟨(rw_ (Kd.R_mono (fa_ HO944 BK938) (fun _ hk => hk.2.1)))⟩, ⟨(rw_ (Kd.R_mono (fa_ HO947 BK938) (fun _ hk => hk.2.1)))⟩, ⟨by (with_reducible repeat (first | refine blk_drewN ?_ _ | refine blk_drew ?_ | refine blk_alloc ?_ _)); refine blk_far ?_ NB927_938.out _; (with_reducible repeat (first | refine blk_drewN ?_ _ | refine blk_drew ?_ | refine blk_alloc ?_ _)); refine blk_far ?_ NB927_938.out _; (with_reducible repeat (first | refine blk_drewN ?_ _ | refine blk_drew ?_ | refine blk_alloc ?_ _)); exact BK927.out⟩, ⟨by (with_reducible repeat (first | refine blk_drewN ?_ _ | refine blk_drew ?_ | refine blk_alloc ?_ _)); refine blk_far ?_ NB928_938.out _; (with_reducible repeat (first | refine blk_drewN ?_ _ | refine blk_drew ?_ | refine blk_alloc ?_ _)); refine blk_far ?_ NB928_938.out _; (with_reducible repeat (first | refine blk_drewN ?_ _ | refine blk_drew ?_ | refine blk_alloc ?_ _)); exact BK928.out⟩, ⟨qp_⟩, ⟨hB_⟩⟩
        · replace c20 := Bool.eq_false_iff.mpr c20
          subst c20
          have H1 : (spec_l03Canon.l0 k1 (wrap64 (x4_1 + 1)) l0_0 l0_1 x939000_1 x939001_1) = some (r1, r2) := by rw [if_neg (show ¬ (false = true) by decide)] at H; exact H
          clear H
          have H := H1
          clear H1
          have H' := Aside0.mk H
          clear H
          have hnb45 := NB927_928.out
          have hnc45 := NB928_927.out
          have hnb46 := NB927_938.out
          have hnc46 := NB938_927.out
          obtain ⟨hcz47_0, hcz47_1, hfz47_0, hfz47_1⟩ := c2_ BK927
          try go_wp2
          replace HO_939000 := Aside0.mk (Kd.R_drew HO_939000.out)
          replace HO_939001 := Aside0.mk (Kd.R_drew HO_939001.out)
          replace BK927 := Aside0.mk (blk_drew BK927.out)
          replace BK928 := Aside0.mk (blk_drew BK928.out)
          replace BK938 := Aside0.mk (blk_drew BK938.out)
          replace HB := Aside0.mk (below_drew1 HB.out)
          refine start_ (n := 7) (S := fun w' => w'.cell? ⟨gb927, 0, none⟩ = some (.slice A0_0 l0_0.length c0_0) ∧ w'.cell? ⟨gb927, 1, none⟩ = some (.slice A0_1 l0_1.length c0_1)) (ds := []) (bl_ 7 0) (by kernel_rfl) rfl (by kernel_rfl) ⟨cz0_ BK927, cz1_ BK927⟩ (fun hHeld => ?_)
          generalize wr.drew = w48 at HO_939000 HO_939001 BK927 BK928 BK938 HB hHeld ⊢
          refine pure_ (i := 2) (N := some 19) (v := ?_) (a' := ?_) (bl_ 7 4) rfl rfl (by kernel_rfl) (fun _ _ _ h => h) (Or.inl ⟨by rfl, ?_⟩) ?_ ?_
          rotate_left
          · intro w'
            go_simp
            with_reducible rfl
          rotate_left
          · simp only [Act.put, List.setIfInBounds_toArray, List.set_cons_zero, List.set_cons_succ, i64_w, i32_w]
            rfl
          refine take_ (i := 0) (N := some 17) (v := ?_) (a' := ?_) (bl_ 7 5) rfl rfl (by kernel_rfl) (fun _ _ _ h => h) (Or.inl ⟨by rfl, ?_⟩) hHeld ?_ ?_
          rotate_left
          · rintro w' ⟨s0, s1⟩
            go_simp
            with_reducible rfl
          rotate_left
          · simp only [Act.put, List.setIfInBounds_toArray, List.set_cons_zero, List.set_cons_succ, i64_w, i32_w]
            rfl
          refine take_ (i := 1) (N := some 18) (v := ?_) (a' := ?_) (bl_ 7 7) rfl rfl (by kernel_rfl) (fun _ _ _ h => h) (Or.inl ⟨by rfl, ?_⟩) hHeld ?_ ?_
          rotate_left
          · rintro w' ⟨s0, s1⟩
            go_simp
            with_reducible rfl
          rotate_left
          · simp only [Act.put, List.setIfInBounds_toArray, List.set_cons_zero, List.set_cons_succ, i64_w, i32_w]
            rfl
          refine join_ (σ := Value × Value × Value × Nat) 1 (bl_ 7 63) (fun s_ => [(20, s_.1), (21, .agg #[s_.2.1, s_.2.2.1]), (5, .pointer (some ⟨s_.2.2.2, 0, none⟩))]) (fun s_ w' => (w'.cell? ⟨gb927, 0, none⟩ = some (.slice A0_0 l0_0.length c0_0) ∧ w'.cell? ⟨gb927, 1, none⟩ = some (.slice A0_1 l0_1.length c0_1)) ∧ (Kd.R (Kd.int .i64) 3 w' w.heap.size (fun k_ => some k_ ≠ (s_.2.1 : Value).ownBlock ∧ some k_ ≠ (s_.2.2.1 : Value).ownBlock ∧ some k_ ≠ (u939000 : Value).ownBlock ∧ some k_ ≠ (u939001 : Value).ownBlock) s_.1 t939) ∧ (Kd.R (Kd.int .i64) 3 w' w.heap.size (fun k_ => some k_ ≠ (s_.1 : Value).ownBlock ∧ some k_ ≠ (s_.2.2.1 : Value).ownBlock ∧ some k_ ≠ (u939000 : Value).ownBlock ∧ some k_ ≠ (u939001 : Value).ownBlock) s_.2.1 t942) ∧ (Kd.R (Kd.int .i64) 3 w' w.heap.size (fun k_ => some k_ ≠ (s_.1 : Value).ownBlock ∧ some k_ ≠ (s_.2.1 : Value).ownBlock ∧ some k_ ≠ (u939000 : Value).ownBlock ∧ some k_ ≠ (u939001 : Value).ownBlock) s_.2.2.1 t945) ∧ (Kd.R (Kd.int .i64) 3 w' w.heap.size (fun k_ => some k_ ≠ (s_.1 : Value).ownBlock ∧ some k_ ≠ (s_.2.1 : Value).ownBlock ∧ some k_ ≠ (s_.2.2.1 : Value).ownBlock ∧ some k_ ≠ (u939001 : Value).ownBlock) u939000 x939000_1) ∧ (Kd.R (Kd.int .i64) 3 w' w.heap.size (fun k_ => some k_ ≠ (s_.1 : Value).ownBlock ∧ some k_ ≠ (s_.2.1 : Value).ownBlock ∧ some k_ ≠ (s_.2.2.1 : Value).ownBlock ∧ some k_ ≠ (u939000 : Value).ownBlock) u939001 x939001_1) ∧ (w'.heap[gb927]? = some (.cells #[.slice A0_0 l0_0.length c0_0, .slice A0_1 l0_1.length c0_1] 33 (0, 0))) ∧ (w'.heap[gb928]? = some (.cells #[.slice none 0 0, .slice none 0 0] 33 (0, 0))) ∧ (w'.heap[gb938]? = some (.cells #[u939000, u939001] 33 (0, 0))) ∧ (w'.heap[s_.2.2.2]? = some (.cells #[.slice none 0 0, .slice none 0 0] 33 (0, 0))) ∧ (w.heap.size ≤ s_.2.2.2) ∧ (w.heap.size ≤ s_.2.2.2) ∧ (gb927 ≠ s_.2.2.2) ∧ (s_.2.2.2 ≠ gb927) ∧ (gb928 ≠ s_.2.2.2) ∧ (s_.2.2.2 ≠ gb928) ∧ (gb938 ≠ s_.2.2.2) ∧ (s_.2.2.2 ≠ gb938) ∧ (Below w.heap.size w w')) ?_ ?_
          rotate_left
          · intro hCont
            refine two_ (i := 3) (j := 5) (Ni := some 20) (Nj := some 5) (bl_ 7 15) (bl_ 7 39) rfl rfl rfl rfl (by kernel_rfl) (by decide) (by decide) (fun K hK => ?_) (fun K hK => ?_)
            · skip
              refine gO_ Try.func130 #[.agg #[.slice A0_0 l0_0.length c0_0, .slice A0_1 l0_1.length c0_1], .int .i64 x4_1] (by rfl) rfl rfl qa_ ?_
              with_reducible refine (spec_l03Names.calls k1 _ _ l0_0 _ _ l0_1 x4_1 t939 _ (cb_ HR0_0) HC0_0.out (cb_ HR0_1) HC0_1.out A17.out).mono ?_
              rintro e w49 ⟨v940, rfl, ho0, hb⟩
              refine ⟨_, rfl, ?_⟩
              have HO941 := Aside0.mk (Kd.R_lower (Kd.R_new' (Kd.R_new' ho0 (Kd.R_lt (rr_ HO_939000))) (Kd.R_lt (rr_ HO_939001))) (below_size hB_))
              replace HO_939000 := Aside0.mk (Kd.R_elder' (rr_ HO_939000) (Kd.R_base ho0) hb)
              replace HO_939001 := Aside0.mk (Kd.R_elder' (rr_ HO_939001) (Kd.R_base ho0) hb)
              replace BK927 := bb_ BK927 hb
              replace BK928 := bb_ BK928 hb
              replace BK938 := bb_ BK938 hb
              replace HB := b1_ hb
              clear hb ho0
              obtain ⟨Ao50, co50, eo50⟩ := Kd.R_slice HO941.out
              (first | subst eo50 | (injection eo50 with f1_ f2_ f3_; have f4_ := f1_.symm; have f5_ := f3_.symm; clear f1_ f2_ f3_; subst f4_; subst f5_))
              refine hK.out _ _ ⟨cz0_ BK927, cz1_ BK927⟩ (fun hHeld => ?_)
              clear hK K
              refine no_ (some 20) ?_
              refine two_ (i := 4) (j := 5) (Ni := some 21) (Nj := some 5) (bl_ 7 31) (bl_ 7 47) rfl rfl rfl rfl (by kernel_rfl) (by decide) (by decide) (fun K hK => ?_) (fun K hK => ?_)
              · skip
                refine gO_ Try.func129 #[.agg #[.slice A0_0 l0_0.length c0_0, .slice A0_1 l0_1.length c0_1], .slice Ao50 t939.length co50] (by rfl) rfl rfl qa_ ?_
                with_reducible refine (spec_l03Rename.calls k1 _ _ l0_0 _ _ l0_1 _ _ t939 t942 t945 _ (cb_ HR0_0) HC0_0.out (cb_ HR0_1) HC0_1.out (cr_ HO941) ((Kd.R_reads' HO941.out).2.1) A18.out).mono ?_
                rintro e w51 ⟨v943, v946, rfl, ho0, ho1, hb⟩
                refine ⟨_, rfl, ?_⟩
                have HO944 := Aside0.mk (Kd.R_lower (Kd.R_new' (Kd.R_new' (Kd.R_new' ho0 (Kd.R_lt (rr_ HO_939000))) (Kd.R_lt (rr_ HO_939001))) (Kd.R_lt (rr_ HO941))) (below_size hB_))
                have HO947 := Aside0.mk (Kd.R_lower (Kd.R_new' (Kd.R_new' (Kd.R_new' ho1 (Kd.R_lt (rr_ HO_939000))) (Kd.R_lt (rr_ HO_939001))) (Kd.R_lt (rr_ HO941))) (below_size hB_))
                replace HO_939000 := Aside0.mk (Kd.R_mono (Kd.R_told (Kd.R_told (Kd.R_old (rr_ HO_939000) hb) (Kd.R_base ho0)) (Kd.R_base ho1)) (fun _ h_ => h_.1))
                replace HO_939001 := Aside0.mk (Kd.R_mono (Kd.R_told (Kd.R_told (Kd.R_old (rr_ HO_939001) hb) (Kd.R_base ho0)) (Kd.R_base ho1)) (fun _ h_ => h_.1))
                replace HO941 := Aside0.mk (Kd.R_mono (Kd.R_told (Kd.R_told (Kd.R_old (rr_ HO941) hb) (Kd.R_base ho0)) (Kd.R_base ho1)) (fun _ h_ => h_.1))
                replace BK927 := bb_ BK927 hb
                replace BK928 := bb_ BK928 hb
                replace BK938 := bb_ BK938 hb
                replace HB := b1_ hb
                clear hb ho0 ho1
                refine hK.out _ _ ⟨cz0_ BK927, cz1_ BK927⟩ (fun hHeld => ?_)
                clear hK K
                refine no_ (some 21) ?_
                refine one_ (i := 5) (N := some 5) (bl_ 7 63) rfl rfl (by kernel_rfl) (by decide) (fun K hK => ?_)
                refine box_step ?hg (N := 5) ?hd (cs := #[.slice none 0 0, .slice none 0 0]) (t := 33) ?hr ?_; (case hd => rfl); (case hg => rfl); (case hr => first | (go_simp; done) | (go_simp; rfl))
                intro gb948 hg w52 hbox hb
                replace HO_939000 := rb_ HO_939000 hb
                replace HO_939001 := rb_ HO_939001 hb
                replace HO941 := rb_ HO941 hb
                replace HO944 := rb_ HO944 hb
                replace HO947 := rb_ HO947 hb
                have BK948 := Aside0.mk hbox
                have GW948 := gw_ w hg
                have GE948 := GW948
                replace HB := b1_ hb
                have NB927_948 := gN_ BK927 hg
                have NB948_927 := gP_ BK927 hg
                replace BK927 := bb_ BK927 hb
                have NB928_948 := gN_ BK928 hg
                have NB948_928 := gP_ BK928 hg
                replace BK928 := bb_ BK928 hb
                have NB938_948 := gN_ BK938 hg
                have NB948_938 := gP_ BK938 hg
                replace BK938 := bb_ BK938 hb
                clear hb hbox hg
                refine hK.out _ _ ⟨cz0_ BK927, cz1_ BK927⟩ (fun hHeld => ?_)
                clear hK K
                refine no_ (some 5) ?_
                exact norm_ (by simp only [putAll, Act.put, List.setIfInBounds_toArray, List.set_cons_zero, List.set_cons_succ]) (hCont (.slice Ao50 t939.length co50, v943, v946, gb948) _ ⟨hHeld, (rw_ (Kd.R_mono HO941.out (fun _ hk => ⟨hk.1.2, ⟨hk.2, ⟨hk.1.1.1.2, hk.1.1.2⟩⟩⟩))), (rw_ (Kd.R_mono HO944.out (fun _ hk => ⟨hk.2, ⟨hk.1.1.1, ⟨hk.1.1.2, hk.1.2⟩⟩⟩))), (rw_ (Kd.R_mono HO947.out (fun _ hk => ⟨hk.2, ⟨hk.1.1.1, ⟨hk.1.1.2, hk.1.2⟩⟩⟩))), (rw_ (Kd.R_mono HO_939000.out (fun _ hk => ⟨hk.1.1.2, ⟨hk.1.2, ⟨hk.2, hk.1.1.1⟩⟩⟩))), (rw_ (Kd.R_mono HO_939001.out (fun _ hk => ⟨hk.1.1.2, ⟨hk.1.2, ⟨hk.2, hk.1.1.1⟩⟩⟩))), (kk_ BK927), (kk_ BK928), (kk_ BK938), (kk_ BK948), GW948.out, GE948.out, NB927_948.out, NB948_927.out, NB928_948.out, NB948_928.out, NB938_948.out, NB948_938.out, hB_⟩)
              · skip
                refine box_step ?hg (N := 5) ?hd (cs := #[.slice none 0 0, .slice none 0 0]) (t := 33) ?hr ?_; (case hd => rfl); (case hg => rfl); (case hr => first | (go_simp; done) | (go_simp; rfl))
                intro gb948 hg w50 hbox hb
                replace HO_939000 := rb_ HO_939000 hb
                replace HO_939001 := rb_ HO_939001 hb
                replace HO941 := rb_ HO941 hb
                have BK948 := Aside0.mk hbox
                have GW948 := gw_ w hg
                have GE948 := GW948
                replace HB := b1_ hb
                have NB927_948 := gN_ BK927 hg
                have NB948_927 := gP_ BK927 hg
                replace BK927 := bb_ BK927 hb
                have NB928_948 := gN_ BK928 hg
                have NB948_928 := gP_ BK928 hg
                replace BK928 := bb_ BK928 hb
                have NB938_948 := gN_ BK938 hg
                have NB948_938 := gP_ BK938 hg
                replace BK938 := bb_ BK938 hb
                clear hb hbox hg
                obtain ⟨Ao51, co51, eo51⟩ := Kd.R_slice HO941.out
                (first | subst eo51 | (injection eo51 with f1_ f2_ f3_; have f4_ := f1_.symm; have f5_ := f3_.symm; clear f1_ f2_ f3_; subst f4_; subst f5_))
                refine hK.out _ _ ⟨cz0_ BK927, cz1_ BK927⟩ (fun hHeld => ?_)
                clear hK K
                refine no_ (some 5) ?_
                refine one_ (i := 4) (N := some 21) (bl_ 7 63) rfl rfl (by kernel_rfl) (by decide) (fun K hK => ?_)
                refine gO_ Try.func129 #[.agg #[.slice A0_0 l0_0.length c0_0, .slice A0_1 l0_1.length c0_1], .slice Ao51 t939.length co51] (by rfl) rfl rfl qa_ ?_
                with_reducible refine (spec_l03Rename.calls k1 _ _ l0_0 _ _ l0_1 _ _ t939 t942 t945 _ (cb_ HR0_0) HC0_0.out (cb_ HR0_1) HC0_1.out (cr_ HO941) ((Kd.R_reads' HO941.out).2.1) A18.out).mono ?_
                rintro e w52 ⟨v943, v946, rfl, ho0, ho1, hb⟩
                refine ⟨_, rfl, ?_⟩
                have HO944 := Aside0.mk (Kd.R_lower (Kd.R_new' (Kd.R_new' (Kd.R_new' ho0 (Kd.R_lt (rr_ HO_939000))) (Kd.R_lt (rr_ HO_939001))) (Kd.R_lt (rr_ HO941))) (below_size hB_))
                have HO947 := Aside0.mk (Kd.R_lower (Kd.R_new' (Kd.R_new' (Kd.R_new' ho1 (Kd.R_lt (rr_ HO_939000))) (Kd.R_lt (rr_ HO_939001))) (Kd.R_lt (rr_ HO941))) (below_size hB_))
                replace HO_939000 := Aside0.mk (Kd.R_mono (Kd.R_told (Kd.R_told (Kd.R_old (rr_ HO_939000) hb) (Kd.R_base ho0)) (Kd.R_base ho1)) (fun _ h_ => h_.1))
                replace HO_939001 := Aside0.mk (Kd.R_mono (Kd.R_told (Kd.R_told (Kd.R_old (rr_ HO_939001) hb) (Kd.R_base ho0)) (Kd.R_base ho1)) (fun _ h_ => h_.1))
                replace HO941 := Aside0.mk (Kd.R_mono (Kd.R_told (Kd.R_told (Kd.R_old (rr_ HO941) hb) (Kd.R_base ho0)) (Kd.R_base ho1)) (fun _ h_ => h_.1))
                replace BK927 := bb_ BK927 hb
                replace BK928 := bb_ BK928 hb
                replace BK938 := bb_ BK938 hb
                replace BK948 := bb_ BK948 hb
                replace HB := b1_ hb
                clear hb ho0 ho1
                refine hK.out _ _ ⟨cz0_ BK927, cz1_ BK927⟩ (fun hHeld => ?_)
                clear hK K
                refine no_ (some 21) ?_
                exact norm_ (by simp only [putAll, Act.put, List.setIfInBounds_toArray, List.set_cons_zero, List.set_cons_succ]) (hCont (.slice Ao51 t939.length co51, v943, v946, gb948) _ ⟨hHeld, (rw_ (Kd.R_mono HO941.out (fun _ hk => ⟨hk.1.2, ⟨hk.2, ⟨hk.1.1.1.2, hk.1.1.2⟩⟩⟩))), (rw_ (Kd.R_mono HO944.out (fun _ hk => ⟨hk.2, ⟨hk.1.1.1, ⟨hk.1.1.2, hk.1.2⟩⟩⟩))), (rw_ (Kd.R_mono HO947.out (fun _ hk => ⟨hk.2, ⟨hk.1.1.1, ⟨hk.1.1.2, hk.1.2⟩⟩⟩))), (rw_ (Kd.R_mono HO_939000.out (fun _ hk => ⟨hk.1.1.2, ⟨hk.1.2, ⟨hk.2, hk.1.1.1⟩⟩⟩))), (rw_ (Kd.R_mono HO_939001.out (fun _ hk => ⟨hk.1.1.2, ⟨hk.1.2, ⟨hk.2, hk.1.1.1⟩⟩⟩))), (kk_ BK927), (kk_ BK928), (kk_ BK938), (kk_ BK948), GW948.out, GE948.out, NB927_948.out, NB948_927.out, NB928_948.out, NB948_928.out, NB938_948.out, NB948_938.out, hB_⟩)
            · skip
              refine box_step ?hg (N := 5) ?hd (cs := #[.slice none 0 0, .slice none 0 0]) (t := 33) ?hr ?_; (case hd => rfl); (case hg => rfl); (case hr => first | (go_simp; done) | (go_simp; rfl))
              intro gb948 hg w49 hbox hb
              replace HO_939000 := rb_ HO_939000 hb
              replace HO_939001 := rb_ HO_939001 hb
              have BK948 := Aside0.mk hbox
              have GW948 := gw_ w hg
              have GE948 := GW948
              replace HB := b1_ hb
              have NB927_948 := gN_ BK927 hg
              have NB948_927 := gP_ BK927 hg
              replace BK927 := bb_ BK927 hb
              have NB928_948 := gN_ BK928 hg
              have NB948_928 := gP_ BK928 hg
              replace BK928 := bb_ BK928 hb
              have NB938_948 := gN_ BK938 hg
              have NB948_938 := gP_ BK938 hg
              replace BK938 := bb_ BK938 hb
              clear hb hbox hg
              refine hK.out _ _ ⟨cz0_ BK927, cz1_ BK927⟩ (fun hHeld => ?_)
              clear hK K
              refine no_ (some 5) ?_
              refine one_ (i := 3) (N := some 20) (bl_ 7 47) rfl rfl (by kernel_rfl) (by decide) (fun K hK => ?_)
              refine gO_ Try.func130 #[.agg #[.slice A0_0 l0_0.length c0_0, .slice A0_1 l0_1.length c0_1], .int .i64 x4_1] (by rfl) rfl rfl qa_ ?_
              with_reducible refine (spec_l03Names.calls k1 _ _ l0_0 _ _ l0_1 x4_1 t939 _ (cb_ HR0_0) HC0_0.out (cb_ HR0_1) HC0_1.out A17.out).mono ?_
              rintro e w50 ⟨v940, rfl, ho0, hb⟩
              refine ⟨_, rfl, ?_⟩
              have HO941 := Aside0.mk (Kd.R_lower (Kd.R_new' (Kd.R_new' ho0 (Kd.R_lt (rr_ HO_939000))) (Kd.R_lt (rr_ HO_939001))) (below_size hB_))
              replace HO_939000 := Aside0.mk (Kd.R_elder' (rr_ HO_939000) (Kd.R_base ho0) hb)
              replace HO_939001 := Aside0.mk (Kd.R_elder' (rr_ HO_939001) (Kd.R_base ho0) hb)
              replace BK927 := bb_ BK927 hb
              replace BK928 := bb_ BK928 hb
              replace BK938 := bb_ BK938 hb
              replace BK948 := bb_ BK948 hb
              replace HB := b1_ hb
              clear hb ho0
              obtain ⟨Ao51, co51, eo51⟩ := Kd.R_slice HO941.out
              (first | subst eo51 | (injection eo51 with f1_ f2_ f3_; have f4_ := f1_.symm; have f5_ := f3_.symm; clear f1_ f2_ f3_; subst f4_; subst f5_))
              refine hK.out _ _ ⟨cz0_ BK927, cz1_ BK927⟩ (fun hHeld => ?_)
              clear hK K
              refine no_ (some 20) ?_
              refine one_ (i := 4) (N := some 21) (bl_ 7 63) rfl rfl (by kernel_rfl) (by decide) (fun K hK => ?_)
              refine gO_ Try.func129 #[.agg #[.slice A0_0 l0_0.length c0_0, .slice A0_1 l0_1.length c0_1], .slice Ao51 t939.length co51] (by rfl) rfl rfl qa_ ?_
              with_reducible refine (spec_l03Rename.calls k1 _ _ l0_0 _ _ l0_1 _ _ t939 t942 t945 _ (cb_ HR0_0) HC0_0.out (cb_ HR0_1) HC0_1.out (cr_ HO941) ((Kd.R_reads' HO941.out).2.1) A18.out).mono ?_
              rintro e w52 ⟨v943, v946, rfl, ho0, ho1, hb⟩
              refine ⟨_, rfl, ?_⟩
              have HO944 := Aside0.mk (Kd.R_lower (Kd.R_new' (Kd.R_new' (Kd.R_new' ho0 (Kd.R_lt (rr_ HO_939000))) (Kd.R_lt (rr_ HO_939001))) (Kd.R_lt (rr_ HO941))) (below_size hB_))
              have HO947 := Aside0.mk (Kd.R_lower (Kd.R_new' (Kd.R_new' (Kd.R_new' ho1 (Kd.R_lt (rr_ HO_939000))) (Kd.R_lt (rr_ HO_939001))) (Kd.R_lt (rr_ HO941))) (below_size hB_))
              replace HO_939000 := Aside0.mk (Kd.R_mono (Kd.R_told (Kd.R_told (Kd.R_old (rr_ HO_939000) hb) (Kd.R_base ho0)) (Kd.R_base ho1)) (fun _ h_ => h_.1))
              replace HO_939001 := Aside0.mk (Kd.R_mono (Kd.R_told (Kd.R_told (Kd.R_old (rr_ HO_939001) hb) (Kd.R_base ho0)) (Kd.R_base ho1)) (fun _ h_ => h_.1))
              replace HO941 := Aside0.mk (Kd.R_mono (Kd.R_told (Kd.R_told (Kd.R_old (rr_ HO941) hb) (Kd.R_base ho0)) (Kd.R_base ho1)) (fun _ h_ => h_.1))
              replace BK927 := bb_ BK927 hb
              replace BK928 := bb_ BK928 hb
              replace BK938 := bb_ BK938 hb
              replace BK948 := bb_ BK948 hb
              replace HB := b1_ hb
              clear hb ho0 ho1
              refine hK.out _ _ ⟨cz0_ BK927, cz1_ BK927⟩ (fun hHeld => ?_)
              clear hK K
              refine no_ (some 21) ?_
              exact norm_ (by simp only [putAll, Act.put, List.setIfInBounds_toArray, List.set_cons_zero, List.set_cons_succ]) (hCont (.slice Ao51 t939.length co51, v943, v946, gb948) _ ⟨hHeld, (rw_ (Kd.R_mono HO941.out (fun _ hk => ⟨hk.1.2, ⟨hk.2, ⟨hk.1.1.1.2, hk.1.1.2⟩⟩⟩))), (rw_ (Kd.R_mono HO944.out (fun _ hk => ⟨hk.2, ⟨hk.1.1.1, ⟨hk.1.1.2, hk.1.2⟩⟩⟩))), (rw_ (Kd.R_mono HO947.out (fun _ hk => ⟨hk.2, ⟨hk.1.1.1, ⟨hk.1.1.2, hk.1.2⟩⟩⟩))), (rw_ (Kd.R_mono HO_939000.out (fun _ hk => ⟨hk.1.1.2, ⟨hk.1.2, ⟨hk.2, hk.1.1.1⟩⟩⟩))), (rw_ (Kd.R_mono HO_939001.out (fun _ hk => ⟨hk.1.1.2, ⟨hk.1.2, ⟨hk.2, hk.1.1.1⟩⟩⟩))), (kk_ BK927), (kk_ BK928), (kk_ BK938), (kk_ BK948), GW948.out, GE948.out, NB927_948.out, NB948_927.out, NB928_948.out, NB948_928.out, NB938_948.out, NB948_938.out, hB_⟩)
          rintro ⟨v940, v943, v946, gb948⟩ w53 ⟨hS_, h0_, h1_, h2_, h3_, h4_, h5_, h6_, h7_, h8_, h9_, h10_, h11_, h12_, h13_, h14_, h15_, h16_, h17_⟩
          have n0_ : Aside0 (Kd.R (Kd.int .i64) 3 w53 w.heap.size (fun k_ => some k_ ≠ (v943 : Value).ownBlock ∧ some k_ ≠ (v946 : Value).ownBlock ∧ some k_ ≠ (u939000 : Value).ownBlock ∧ some k_ ≠ (u939001 : Value).ownBlock) v940 t939) := ⟨h0_⟩
          have n1_ : Aside0 (Kd.R (Kd.int .i64) 3 w53 w.heap.size (fun k_ => some k_ ≠ (v940 : Value).ownBlock ∧ some k_ ≠ (v946 : Value).ownBlock ∧ some k_ ≠ (u939000 : Value).ownBlock ∧ some k_ ≠ (u939001 : Value).ownBlock) v943 t942) := ⟨h1_⟩
          have n2_ : Aside0 (Kd.R (Kd.int .i64) 3 w53 w.heap.size (fun k_ => some k_ ≠ (v940 : Value).ownBlock ∧ some k_ ≠ (v943 : Value).ownBlock ∧ some k_ ≠ (u939000 : Value).ownBlock ∧ some k_ ≠ (u939001 : Value).ownBlock) v946 t945) := ⟨h2_⟩
          have n3_ : Aside0 (Kd.R (Kd.int .i64) 3 w53 w.heap.size (fun k_ => some k_ ≠ (v940 : Value).ownBlock ∧ some k_ ≠ (v943 : Value).ownBlock ∧ some k_ ≠ (v946 : Value).ownBlock ∧ some k_ ≠ (u939001 : Value).ownBlock) u939000 x939000_1) := ⟨h3_⟩
          have n4_ : Aside0 (Kd.R (Kd.int .i64) 3 w53 w.heap.size (fun k_ => some k_ ≠ (v940 : Value).ownBlock ∧ some k_ ≠ (v943 : Value).ownBlock ∧ some k_ ≠ (v946 : Value).ownBlock ∧ some k_ ≠ (u939000 : Value).ownBlock) u939001 x939001_1) := ⟨h4_⟩
          have n5_ : Aside0 (w53.heap[gb927]? = some (.cells #[.slice A0_0 l0_0.length c0_0, .slice A0_1 l0_1.length c0_1] 33 (0, 0))) := ⟨h5_⟩
          have n6_ : Aside0 (w53.heap[gb928]? = some (.cells #[.slice none 0 0, .slice none 0 0] 33 (0, 0))) := ⟨h6_⟩
          have n7_ : Aside0 (w53.heap[gb938]? = some (.cells #[u939000, u939001] 33 (0, 0))) := ⟨h7_⟩
          have n8_ : Aside0 (w53.heap[gb948]? = some (.cells #[.slice none 0 0, .slice none 0 0] 33 (0, 0))) := ⟨h8_⟩
          have n9_ : Aside0 (w.heap.size ≤ gb948) := ⟨h9_⟩
          have n10_ : Aside0 (w.heap.size ≤ gb948) := ⟨h10_⟩
          have n11_ : Aside0 (gb927 ≠ gb948) := ⟨h11_⟩
          have n12_ : Aside0 (gb948 ≠ gb927) := ⟨h12_⟩
          have n13_ : Aside0 (gb928 ≠ gb948) := ⟨h13_⟩
          have n14_ : Aside0 (gb948 ≠ gb928) := ⟨h14_⟩
          have n15_ : Aside0 (gb938 ≠ gb948) := ⟨h15_⟩
          have n16_ : Aside0 (gb948 ≠ gb938) := ⟨h16_⟩
          have n17_ : Aside0 (Below w.heap.size w w53) := ⟨h17_⟩
          clear HO_939000
          clear HO_939001
          clear BK927
          clear BK928
          clear BK938
          clear HB
          clear h0_ h1_ h2_ h3_ h4_ h5_ h6_ h7_ h8_ h9_ h10_ h11_ h12_ h13_ h14_ h15_ h16_ h17_
          have HO941 := n0_
          have HO944 := n1_
          have HO947 := n2_
          have HO_939000 := n3_
          have HO_939001 := n4_
          have BK927 := n5_
          have BK928 := n6_
          have BK938 := n7_
          have BK948 := n8_
          have GW948 := n9_
          have GE948 := n10_
          have NB927_948 := n11_
          have NB948_927 := n12_
          have NB928_948 := n13_
          have NB948_928 := n14_
          have NB938_948 := n15_
          have NB948_938 := n16_
          have HB := n17_
          clear n0_ n1_ n2_ n3_ n4_ n5_ n6_ n7_ n8_ n9_ n10_ n11_ n12_ n13_ n14_ n15_ n16_ n17_
          have hHeld : w53.cell? ⟨gb927, 0, none⟩ = some (.slice A0_0 l0_0.length c0_0) ∧ w53.cell? ⟨gb927, 1, none⟩ = some (.slice A0_1 l0_1.length c0_1) := hS_
          obtain ⟨Ao54, co54, eo54⟩ := Kd.R_slice HO944.out
          (first | subst eo54 | (injection eo54 with f1_ f2_ f3_; have f4_ := f1_.symm; have f5_ := f3_.symm; clear f1_ f2_ f3_; subst f4_; subst f5_))
          obtain ⟨Ao56, co56, eo56⟩ := Kd.R_slice HO947.out
          (first | subst eo56 | (injection eo56 with f1_ f2_ f3_; have f4_ := f1_.symm; have f5_ := f3_.symm; clear f1_ f2_ f3_; subst f4_; subst f5_))
          refine norm_ (a' := ?_) ?_ ?_
          rotate_left
          · simp only [putAll, Act.put, List.setIfInBounds_toArray, List.set_cons_zero, List.set_cons_succ]
            rfl
          refine one_ (i := 6) (N := none) (bl_ 7 127) rfl rfl (by kernel_rfl) (by decide) (fun K hK => ?_)
          have hs55 : w53.cell? ⟨gb948, 0, none⟩ = some (.slice none 0 0) := cz0_ BK948
          have hfs55 := blk_frozen BK948.out 0
          have hns55_0 := NB927_948.out
          have hns55_1 := NB928_948.out
          have hns55_2 := NB938_948.out
          have hms55_0 := NB948_927.out
          have hms55_1 := NB948_928.out
          have hms55_2 := NB948_938.out
          have hs57 : w53.cell? ⟨gb948, 1, none⟩ = some (.slice none 0 0) := cz1_ BK948
          have hfs57 := blk_frozen BK948.out 1
          have hns57_0 := NB927_948.out
          have hns57_1 := NB928_948.out
          have hns57_2 := NB938_948.out
          have hms57_0 := NB948_927.out
          have hms57_1 := NB948_928.out
          have hms57_2 := NB948_938.out
          refine skip_ (w1 := ?_) (by rfl) rfl ?_ ?_
          rotate_left
          · go_simp
            rfl
          refine hK.out _ _ ⟨((cell_far (p := ⟨gb948, _, none⟩) NB927_948.out _).trans (((cell_far (p := ⟨gb948, _, none⟩) NB927_948.out _).trans (hHeld.1)))), ((cell_far (p := ⟨gb948, _, none⟩) NB927_948.out _).trans (((cell_far (p := ⟨gb948, _, none⟩) NB927_948.out _).trans (hHeld.2))))⟩ (fun hHeld => ?_)
          clear hK K
          refine done_ (by kernel_rfl) ?_
          have hnb58 := NB948_927.out
          have hnc58 := NB927_948.out
          have hnb59 := NB948_928.out
          have hnc59 := NB928_948.out
          have hnb60 := NB948_938.out
          have hnc60 := NB938_948.out
          obtain ⟨hcz61_0, hcz61_1, hfz61_0, hfz61_1⟩ := c2_ BK948
          have hnb62 := NB938_928.out
          have hnc62 := NB928_938.out
          obtain ⟨hcz63_0, hcz63_1, hfz63_0, hfz63_1⟩ := c2_ BK938
          obtain ⟨Ao64, co64, eo64⟩ := Kd.R_slice HO_939000.out
          subst eo64
          obtain ⟨Ao65, co65, eo65⟩ := Kd.R_slice HO_939001.out
          subst eo65
          try go_wp2_with (first | ((with_reducible refine gate_callee (f := 128) rfl ?_); refine gL_ (some 24) Try.func128 #[.agg #[.slice Ao54 t942.length co54, .slice Ao56 t945.length co56], .agg #[.slice Ao64 x939000_1.length co64, .slice Ao65 x939001_1.length co65]] rfl qa_ ?_; (with_reducible refine (spec_l03Before.calls k1 _ _ t942 _ _ t945 _ _ x939000_1 _ _ x939001_1 false _ ?side1 ?side2 ?side3 ?side4 ?side5 ?side6 ?side7 ?side8 A19.out).mono ?_); (case side1 => refine (Kd.R_reads' (e := 3) (base := w.heap.size) (ok := fun k_ => (some k_ ≠ (v940 : Value).ownBlock ∧ (some k_ ≠ (.slice Ao56 t945.length co56 : Value).ownBlock ∧ (some k_ ≠ (.slice Ao64 x939000_1.length co64 : Value).ownBlock ∧ some k_ ≠ (.slice Ao65 x939001_1.length co65 : Value).ownBlock)))) (n := t942.length) (c := co54) ?_).2.2; exact (rw_ (fa_ HO944 BK948))); (case side2 => exact (Kd.R_reads' HO944.out).2.1); (case side3 => refine (Kd.R_reads' (e := 3) (base := w.heap.size) (ok := fun k_ => (some k_ ≠ (v940 : Value).ownBlock ∧ (some k_ ≠ (.slice Ao54 t942.length co54 : Value).ownBlock ∧ (some k_ ≠ (.slice Ao64 x939000_1.length co64 : Value).ownBlock ∧ some k_ ≠ (.slice Ao65 x939001_1.length co65 : Value).ownBlock)))) (n := t945.length) (c := co56) ?_).2.2; exact (rw_ (fa_ HO947 BK948))); (case side4 => exact (Kd.R_reads' HO947.out).2.1); (case side5 => refine (Kd.R_reads' (e := 3) (base := w.heap.size) (ok := fun k_ => (some k_ ≠ (v940 : Value).ownBlock ∧ (some k_ ≠ (.slice Ao54 t942.length co54 : Value).ownBlock ∧ (some k_ ≠ (.slice Ao56 t945.length co56 : Value).ownBlock ∧ some k_ ≠ (.slice Ao65 x939001_1.length co65 : Value).ownBlock)))) (n := x939000_1.length) (c := co64) ?_).2.2; exact (rw_ (fa_ HO_939000 BK948))); (case side6 => exact (Kd.R_reads' HO_939000.out).2.1); (case side7 => refine (Kd.R_reads' (e := 3) (base := w.heap.size) (ok := fun k_ => (some k_ ≠ (v940 : Value).ownBlock ∧ (some k_ ≠ (.slice Ao54 t942.length co54 : Value).ownBlock ∧ (some k_ ≠ (.slice Ao56 t945.length co56 : Value).ownBlock ∧ some k_ ≠ (.slice Ao64 x939000_1.length co64 : Value).ownBlock)))) (n := x939001_1.length) (c := co65) ?_).2.2; exact (rw_ (fa_ HO_939001 BK948))); (case side8 => exact (Kd.R_reads' HO_939001.out).2.1); rintro e w66 ⟨rfl, hb⟩; refine ⟨_, rfl, ?_⟩; replace HO_939000 := Aside0.mk (Kd.R_below (rw_ (fa_ HO_939000 BK948)) hb); replace HO_939001 := Aside0.mk (Kd.R_below (rw_ (fa_ HO_939001 BK948)) hb); replace HO941 := Aside0.mk (Kd.R_below (rw_ (fa_ HO941 BK948)) hb); replace HO944 := Aside0.mk (Kd.R_below (rw_ (fa_ HO944 BK948)) hb); replace HO947 := Aside0.mk (Kd.R_below (rw_ (fa_ HO947 BK948)) hb); replace BK927 := Aside0.mk (blk_below (g := gb927) (o := .cells #[.slice A0_0 l0_0.length c0_0, .slice A0_1 l0_1.length c0_1] 33 (0, 0)) (by (with_reducible repeat (first | refine blk_drewN ?_ _ | refine blk_drew ?_ | refine blk_alloc ?_ _)); refine blk_far ?_ NB927_948.out _; (with_reducible repeat (first | refine blk_drewN ?_ _ | refine blk_drew ?_ | refine blk_alloc ?_ _)); refine blk_far ?_ NB927_948.out _; (with_reducible repeat (first | refine blk_drewN ?_ _ | refine blk_drew ?_ | refine blk_alloc ?_ _)); exact BK927.out) hb); replace BK928 := Aside0.mk (blk_below (g := gb928) (o := .cells #[.slice none 0 0, .slice none 0 0] 33 (0, 0)) (by (with_reducible repeat (first | refine blk_drewN ?_ _ | refine blk_drew ?_ | refine blk_alloc ?_ _)); refine blk_far ?_ NB928_948.out _; (with_reducible repeat (first | refine blk_drewN ?_ _ | refine blk_drew ?_ | refine blk_alloc ?_ _)); refine blk_far ?_ NB928_948.out _; (with_reducible repeat (first | refine blk_drewN ?_ _ | refine blk_drew ?_ | refine blk_alloc ?_ _)); exact BK928.out) hb); replace BK938 := Aside0.mk (blk_below (g := gb938) (o := .cells #[.slice Ao64 x939000_1.length co64, .slice Ao65 x939001_1.length co65] 33 (0, 0)) (by (with_reducible repeat (first | refine blk_drewN ?_ _ | refine blk_drew ?_ | refine blk_alloc ?_ _)); refine blk_far ?_ NB938_948.out _; (with_reducible repeat (first | refine blk_drewN ?_ _ | refine blk_drew ?_ | refine blk_alloc ?_ _)); refine blk_far ?_ NB938_948.out _; (with_reducible repeat (first | refine blk_drewN ?_ _ | refine blk_drew ?_ | refine blk_alloc ?_ _)); exact BK938.out) hb); replace BK948 := Aside0.mk (blk_below (g := gb948) (o := .cells #[.slice Ao54 t942.length co54, .slice Ao56 t945.length co56] 33 (0, 0)) qp_ hb); replace HB := b1_ hb; clear hb))
          go_roundg k1
          case measure => have := HK1.out; omega
          case rel => exact ⟨(wrap64 (x4_1 + 1)), (x939000_1), (x939001_1), (.slice Ao64 x939000_1.length co64), (.slice Ao65 x939001_1.length co65), qc_, H', ⟨by have := HK1.out; omega⟩, ⟨(rw_ (Kd.R_mono HO_939000.out (fun _ hk => hk.2.2.2)))⟩, ⟨(rw_ (Kd.R_mono HO_939001.out (fun _ hk => hk.2.2.2)))⟩, ⟨(kk_ BK927)⟩, ⟨(kk_ BK928)⟩, ⟨(kk_ BK938)⟩, ⟨hB_⟩⟩
      · rw [if_neg c16] at H
        have c16b0 := decide_eq_false c16
        clear c16
        simp only [Option.some.injEq, Prod.mk.injEq] at H
        obtain ⟨rfl, rfl⟩ := H
        have hnb67 := NB927_928.out
        have hnc67 := NB928_927.out
        have hnb68 := NB927_938.out
        have hnc68 := NB938_927.out
        obtain ⟨hcz69_0, hcz69_1, hfz69_0, hfz69_1⟩ := c2_ BK927
        have hnb70 := NB938_928.out
        have hnc70 := NB928_938.out
        obtain ⟨hcz71_0, hcz71_1, hfz71_0, hfz71_1⟩ := c2_ BK938
        obtain ⟨Ao72, co72, eo72⟩ := Kd.R_slice HO_939000.out
        subst eo72
        obtain ⟨hcz73_0, hcz73_1, hfz73_0, hfz73_1⟩ := c2_ BK928
        obtain ⟨Ao74, co74, eo74⟩ := Kd.R_slice HO_939001.out
        subst eo74
        go_wp2
        refine bodyPost_ret (results_cell_row rfl _ _ gb928 33 #[.slice Ao72 x939000_1.length co72, .slice Ao74 x939001_1.length co74] (0, 0) _ rfl qp_ Try.underlying33 rfl (by kernel_rfl)) rfl ?_
        exact ⟨_, _, qb_, (rw_ (fa_ HO_939000 BK928)), (rw_ (fa_ HO_939001 BK928)), hB_⟩
end Go.Proofs.Ytoijcallajegfaa.A
end
section
namespace Go.Proofs.Ytoijcallajegfaa.A
open Go.RowKit Go.Proofs.YtoijcallajegfaaW.PrintWords Go.Proofs.YtoijcallajegfaaW.PrintLast Go.Proofs.YtoijcallajegfaaW.PrintMore
attribute [local go_sem] max2_int min2_int max_two min_two max_three min_three max_four min_four
set_option linter.unusedVariables false
set_option linter.unusedSimpArgs false
def spec_SameSurface.f (k : Nat) (l0_0 : List Int) (l0_1 : List Int) (l1_0 : List Int) (l1_1 : List Int) : Option (Bool) := (spec_SameList.f k l0_0 l1_0).bind fun t952 => (if t952 = true then ((spec_SameList.f k l0_1 l1_1).bind fun t953 => (some t953)) else (some false))
theorem spec_SameSurface.mono : ∀ a0 a1 a2 a3 k, LeO (spec_SameSurface.f k a0 a1 a2 a3) (spec_SameSurface.f (k + 1) a0 a1 a2 a3) := by
  intro a0 a1 a2 a3 k
  unfold spec_SameSurface.f
  repeat' first|exact spec_SameList.mono _ _ _|exact lo_|refine LeO.ite ?_ ?_|refine LeO.bind ?_ (fun _ => ?_)
set_option maxHeartbeats 8000000 in
set_option maxRecDepth 100000 in
theorem spec_SameSurface.calls (k : Nat) (A0_0 : Option Addr) (c0_0 : Nat) (l0_0 : List Int) (A0_1 : Option Addr) (c0_1 : Nat) (l0_1 : List Int) (A1_0 : Option Addr) (c1_0 : Nat) (l1_0 : List Int) (A1_1 : Option Addr) (c1_1 : Nat) (l1_1 : List Int) (r : Bool) (w : World) (hr0_0 : Kd.C (Kd.int .i64) w A0_0 l0_0.length l0_0) (hc0_0 : l0_0.length ≤ c0_0) (hr0_1 : Kd.C (Kd.int .i64) w A0_1 l0_1.length l0_1) (hc0_1 : l0_1.length ≤ c0_1) (hr1_0 : Kd.C (Kd.int .i64) w A1_0 l1_0.length l1_0) (hc1_0 : l1_0.length ≤ c1_0) (hr1_1 : Kd.C (Kd.int .i64) w A1_1 l1_1.length l1_1) (hc1_1 : l1_1.length ≤ c1_1) (h : spec_SameSurface.f k l0_0 l0_1 l1_0 l1_1 = some r) :
    Calls Try.prog 125 #[.agg #[.slice A0_0 l0_0.length c0_0, .slice A0_1 l0_1.length c0_1], .agg #[.slice A1_0 l1_0.length c1_0, .slice A1_1 l1_1.length c1_1]] w fun e w' => e = .returned (.bool r) ∧ Below w.heap.size w w' := by
  have hu33 := Try.underlying33
  have HR0_0 := Aside0.mk hr0_0
  have HC0_0 := Aside0.mk hc0_0
  clear hr0_0 hc0_0
  have HR0_1 := Aside0.mk hr0_1
  have HC0_1 := Aside0.mk hc0_1
  clear hr0_1 hc0_1
  have HR1_0 := Aside0.mk hr1_0
  have HC1_0 := Aside0.mk hc1_0
  clear hr1_0 hc1_0
  have HR1_1 := Aside0.mk hr1_1
  have HC1_1 := Aside0.mk hc1_1
  clear hr1_1 hc1_1
  have HB := Aside0.mk (Below.refl w.heap.size w)
  have H := h
  unfold spec_SameSurface.f at H
  clear h
  obtain ⟨t952, A3, H⟩ := bi_ H
  by_cases c4 : t952 = true
  · subst c4
    rw [if_pos rfl] at H
    obtain ⟨t953, A5, H⟩ := bi_ H
    obtain rfl := Option.some.inj H
    go_enter Try.func125, Try.ntmps125
    go_wp2_with (first | ((with_reducible refine gate_dst (N := 2) rfl ?_); refine bx_ 2 #[.slice A0_0 l0_0.length c0_0, .slice A0_1 l0_1.length c0_1] 33 ?_; intro gb950 hg w6 hbox hb; have BK950 := Aside0.mk hbox; have GW950 := gw_ w hg; have GE950 := GW950; replace HB := b1_ hb; clear hb hbox hg) | ((with_reducible refine gate_dst (N := 3) rfl ?_); refine bx_ 3 #[.slice A1_0 l1_0.length c1_0, .slice A1_1 l1_1.length c1_1] 33 ?_; intro gb951 hg w7 hbox hb; have BK951 := Aside0.mk hbox; have GW951 := gw_ w hg; have GE951 := GW951; replace HB := b1_ hb; have NB950_951 := gN_ BK950 hg; have NB951_950 := gP_ BK950 hg; replace BK950 := bb_ BK950 hb; clear hb hbox hg; have hnb8 := NB950_951.out; have hnc8 := NB951_950.out; obtain ⟨hcz9_0, hcz9_1, hfz9_0, hfz9_1⟩ := c2_ BK950; obtain ⟨hcz10_0, hcz10_1, hfz10_0, hfz10_1⟩ := c2_ BK951) | ((with_reducible refine gate_callee (f := 134) rfl ?_); refine gL_ (some 9) Try.func134 #[.slice A0_0 l0_0.length c0_0, .slice A1_0 l1_0.length c1_0] rfl qa_ ?_; (with_reducible refine (spec_SameList.calls k _ _ l0_0 _ _ l1_0 true _ (cb_ HR0_0) HC0_0.out (cb_ HR1_0) HC1_0.out A3.out).mono ?_); rintro e w' ⟨rfl, ⟨nd, rfl⟩⟩; refine ⟨_, rfl, ?_⟩) | (go_at_call 134; (with_reducible refine (spec_SameList.calls k _ _ l0_1 _ _ l1_1 t953 _ (cw_ (Kd.C_below HR0_1.out hB_)) HC0_1.out (cw_ (Kd.C_below HR1_1.out hB_)) HC1_1.out A5.out).mono ?_); rintro e w' ⟨rfl, ⟨nd, rfl⟩⟩))
    go_ret
    exact ⟨qb_, hB_⟩
  · replace c4 := Bool.eq_false_iff.mpr c4
    subst c4
    have H1 : (some false) = some r := by rw [if_neg (show ¬ (false = true) by decide)] at H; exact H
    clear H
    have H := H1
    clear H1
    obtain rfl := Option.some.inj H
    go_enter Try.func125, Try.ntmps125
    go_wp2_with (first | ((with_reducible refine gate_dst (N := 2) rfl ?_); refine bx_ 2 #[.slice A0_0 l0_0.length c0_0, .slice A0_1 l0_1.length c0_1] 33 ?_; intro gb950 hg w11 hbox hb; have BK950 := Aside0.mk hbox; have GW950 := gw_ w hg; have GE950 := GW950; replace HB := b1_ hb; clear hb hbox hg) | ((with_reducible refine gate_dst (N := 3) rfl ?_); refine bx_ 3 #[.slice A1_0 l1_0.length c1_0, .slice A1_1 l1_1.length c1_1] 33 ?_; intro gb951 hg w12 hbox hb; have BK951 := Aside0.mk hbox; have GW951 := gw_ w hg; have GE951 := GW951; replace HB := b1_ hb; have NB950_951 := gN_ BK950 hg; have NB951_950 := gP_ BK950 hg; replace BK950 := bb_ BK950 hb; clear hb hbox hg; have hnb13 := NB950_951.out; have hnc13 := NB951_950.out; obtain ⟨hcz14_0, hcz14_1, hfz14_0, hfz14_1⟩ := c2_ BK950; obtain ⟨hcz15_0, hcz15_1, hfz15_0, hfz15_1⟩ := c2_ BK951) | ((with_reducible refine gate_callee (f := 134) rfl ?_); refine gL_ (some 9) Try.func134 #[.slice A0_0 l0_0.length c0_0, .slice A1_0 l1_0.length c1_0] rfl qa_ ?_; (with_reducible refine (spec_SameList.calls k _ _ l0_0 _ _ l1_0 false _ (cb_ HR0_0) HC0_0.out (cb_ HR1_0) HC1_0.out A3.out).mono ?_); rintro e w' ⟨rfl, ⟨nd, rfl⟩⟩; refine ⟨_, rfl, ?_⟩))
    go_ret
    exact ⟨qb_, hB_⟩
end Go.Proofs.Ytoijcallajegfaa.A
end
section
namespace Go.Proofs.Ytoijcallajegfaa.A
open Go.RowKit Go.Proofs.YtoijcallajegfaaW.PrintWords Go.Proofs.YtoijcallajegfaaW.PrintLast Go.Proofs.YtoijcallajegfaaW.PrintMore
attribute [local go_sem] max2_int min2_int max_two min_two max_three min_three max_four min_four
set_option linter.unusedVariables false
set_option linter.unusedSimpArgs false
def spec_AreIsomorphic.f (k : Nat) (l0_0 : List Int) (l0_1 : List Int) (l1_0 : List Int) (l1_1 : List Int) : Option (Bool) := (spec_SurfaceOk.f k l0_0 l0_1).bind fun t956 => (if t956 = true then ((spec_SurfaceOk.f k l1_0 l1_1).bind fun t957 => (if t957 = true then ((spec_l03Canon.f k l0_0 l0_1).bind fun bt958 => ((spec_l03Canon.f k l1_0 l1_1).bind fun bt964 => ((spec_SameSurface.f k bt958.1 bt958.2 bt964.1 bt964.2).bind fun t970 => (some t970)))) else (some false))) else (some false))
theorem spec_AreIsomorphic.mono : ∀ a0 a1 a2 a3 k, LeO (spec_AreIsomorphic.f k a0 a1 a2 a3) (spec_AreIsomorphic.f (k + 1) a0 a1 a2 a3) := by
  intro a0 a1 a2 a3 k
  unfold spec_AreIsomorphic.f
  repeat' first|exact spec_SameSurface.mono _ _ _ _ _|exact spec_SurfaceOk.mono _ _ _|exact spec_l03Canon.mono _ _ _|exact lo_|refine LeO.ite ?_ ?_|refine LeO.bind ?_ (fun _ => ?_)
def spec_AreIsomorphic.T1 : Bool × List (List Nat × List Nat) := (true, [([], []), ([0], [0]), ([1, 1], [1]), ([2], [2]), ([3, 2, 2], [2, 3]), ([2, 4], [2, 4]), ([5, 4], [5]), ([6], [6]), ([7, 6, 6], [6, 7]), ([6], [6]), ([9, 8, 6], [6, 9]), ([8, 10, 10, 6], [6, 8, 10]), ([6, 11], [6, 11]), ([12, 11, 0, 1, 2, 3, 4, 5, 6, 7, 8, 9, 10, 11, 12], [12])])
def spec_AreIsomorphic.B1 : List Nat := [0, 1, 3, 7, 15, 31, 63, 127, 255, 127, 1023, 2047, 4095, 8191]
theorem spec_AreIsomorphic.tab1 : rtab .any (opsOf Try.f79 1) = spec_AreIsomorphic.T1 := by kernel_rfl
theorem spec_AreIsomorphic.bits1 : waitsOk spec_AreIsomorphic.T1.2 spec_AreIsomorphic.B1 = true := by kernel_rfl
set_option maxHeartbeats 8000000 in
set_option maxRecDepth 100000 in
theorem spec_AreIsomorphic.calls (k : Nat) (A0_0 : Option Addr) (c0_0 : Nat) (l0_0 : List Int) (A0_1 : Option Addr) (c0_1 : Nat) (l0_1 : List Int) (A1_0 : Option Addr) (c1_0 : Nat) (l1_0 : List Int) (A1_1 : Option Addr) (c1_1 : Nat) (l1_1 : List Int) (r : Bool) (w : World) (hr0_0 : Kd.C (Kd.int .i64) w A0_0 l0_0.length l0_0) (hc0_0 : l0_0.length ≤ c0_0) (hr0_1 : Kd.C (Kd.int .i64) w A0_1 l0_1.length l0_1) (hc0_1 : l0_1.length ≤ c0_1) (hr1_0 : Kd.C (Kd.int .i64) w A1_0 l1_0.length l1_0) (hc1_0 : l1_0.length ≤ c1_0) (hr1_1 : Kd.C (Kd.int .i64) w A1_1 l1_1.length l1_1) (hc1_1 : l1_1.length ≤ c1_1) (h : spec_AreIsomorphic.f k l0_0 l0_1 l1_0 l1_1 = some r) :
    Calls Try.prog 79 #[.agg #[.slice A0_0 l0_0.length c0_0, .slice A0_1 l0_1.length c0_1], .agg #[.slice A1_0 l1_0.length c1_0, .slice A1_1 l1_1.length c1_1]] w fun e w' => e = .returned (.bool r) ∧ Below w.heap.size w w' := by
  have hu33 := Try.underlying33
  have HR0_0 := Aside0.mk hr0_0
  have HC0_0 := Aside0.mk hc0_0
  clear hr0_0 hc0_0
  have HR0_1 := Aside0.mk hr0_1
  have HC0_1 := Aside0.mk hc0_1
  clear hr0_1 hc0_1
  have HR1_0 := Aside0.mk hr1_0
  have HC1_0 := Aside0.mk hc1_0
  clear hr1_0 hc1_0
  have HR1_1 := Aside0.mk hr1_1
  have HC1_1 := Aside0.mk hc1_1
  clear hr1_1 hc1_1
  have HB := Aside0.mk (Below.refl w.heap.size w)
  have H := h
  unfold spec_AreIsomorphic.f at H
  clear h
  obtain ⟨t956, A3, H⟩ := bi_ H
  by_cases c4 : t956 = true
  · subst c4
    rw [if_pos rfl] at H
    obtain ⟨t957, A5, H⟩ := bi_ H
    by_cases c6 : t957 = true
    · subst c6
      rw [if_pos rfl] at H
      obtain ⟨⟨t958, t961⟩, A7, H⟩ := bi_ H
      try dsimp only at H
      obtain ⟨⟨t964, t967⟩, A8, H⟩ := bi_ H
      try dsimp only at H
      obtain ⟨t970, A9, H⟩ := bi_ H
      obtain rfl := Option.some.inj H
      go_enter Try.func79, Try.ntmps79
      try go_wp2_with (first | ((with_reducible refine gate_dst (N := 2) rfl ?_); refine bx_ 2 #[.slice A0_0 l0_0.length c0_0, .slice A0_1 l0_1.length c0_1] 33 ?_; intro gb954 hg w10 hbox hb; have BK954 := Aside0.mk hbox; have GW954 := gw_ w hg; have GE954 := GW954; replace HB := b1_ hb; clear hb hbox hg) | ((with_reducible refine gate_dst (N := 3) rfl ?_); refine bx_ 3 #[.slice A1_0 l1_0.length c1_0, .slice A1_1 l1_1.length c1_1] 33 ?_; intro gb955 hg w11 hbox hb; have BK955 := Aside0.mk hbox; have GW955 := gw_ w hg; have GE955 := GW955; replace HB := b1_ hb; have NB954_955 := gN_ BK954 hg; have NB955_954 := gP_ BK954 hg; replace BK954 := bb_ BK954 hb; clear hb hbox hg))
      replace BK954 := Aside0.mk (blk_drew BK954.out)
      replace BK955 := Aside0.mk (blk_drew BK955.out)
      replace HB := Aside0.mk (below_drew1 HB.out)
      refine start_ (n := 14) (S := fun w' => w'.cell? ⟨gb954, 0, none⟩ = some (.slice A0_0 l0_0.length c0_0) ∧ w'.cell? ⟨gb954, 1, none⟩ = some (.slice A0_1 l0_1.length c0_1) ∧ w'.cell? ⟨gb955, 0, none⟩ = some (.slice A1_0 l1_0.length c1_0) ∧ w'.cell? ⟨gb955, 1, none⟩ = some (.slice A1_1 l1_1.length c1_1)) (ds := []) (bl_ 14 0) (by kernel_rfl) rfl (by kernel_rfl) ⟨cz0_ BK954, cz1_ BK954, cz0_ BK955, cz1_ BK955⟩ (fun hHeld => ?_); refine with_tabW spec_AreIsomorphic.tab1 spec_AreIsomorphic.bits1 (fun HT_ HW_ => ?_)
      generalize w11.drew = w12 at BK954 BK955 HB hHeld ⊢
      refine ta_ 0 (some 5) (bl_ 14 1) HT_ HW_ hHeld ?_
      refine on_ 1 (some 6) (bl_ 14 3) HT_ (fun K hK => ?_)
      refine gO_ Try.func85 #[.agg #[.slice A0_0 l0_0.length c0_0, .slice A0_1 l0_1.length c0_1]] (by rfl) rfl rfl qa_ ?_
      with_reducible refine (spec_SurfaceOk.calls k _ _ l0_0 _ _ l0_1 true _ (cb_ HR0_0) HC0_0.out (cb_ HR0_1) HC0_1.out A3.out).mono ?_
      rintro e w13 ⟨rfl, hb⟩
      refine ⟨_, rfl, ?_⟩
      replace BK954 := bb_ BK954 hb
      replace BK955 := bb_ BK955 hb
      replace HB := b1_ hb
      clear hb
      refine hK.out _ _ ⟨cz0_ BK954, cz1_ BK954, cz0_ BK955, cz1_ BK955⟩ (fun hHeld => ?_)
      clear hK K
      refine no_ (some 6) ?_
      refine pu_ 2 (some 7) (bl_ 14 7) HT_ ?_
      refine ta_ 3 (some 8) (bl_ 14 15) HT_ HW_ hHeld ?_
      refine on_ 4 (some 9) (bl_ 14 31) HT_ (fun K hK => ?_)
      refine gO_ Try.func85 #[.agg #[.slice A1_0 l1_0.length c1_0, .slice A1_1 l1_1.length c1_1]] (by rfl) rfl rfl qa_ ?_
      with_reducible refine (spec_SurfaceOk.calls k _ _ l1_0 _ _ l1_1 true _ (cb_ HR1_0) HC1_0.out (cb_ HR1_1) HC1_1.out A5.out).mono ?_
      rintro e w14 ⟨rfl, hb⟩
      refine ⟨_, rfl, ?_⟩
      replace BK954 := bb_ BK954 hb
      replace BK955 := bb_ BK955 hb
      replace HB := b1_ hb
      clear hb
      refine hK.out _ _ ⟨cz0_ BK954, cz1_ BK954, cz0_ BK955, cz1_ BK955⟩ (fun hHeld => ?_)
      clear hK K
      refine no_ (some 9) ?_
      refine pu_ 5 (some 10) (bl_ 14 63) HT_ ?_
      refine pu_ 6 (some 11) (bl_ 14 127) HT_ ?_
      refine ta_ 7 (some 12) (bl_ 14 255) HT_ HW_ hHeld ?_
      refine ta_ 9 (some 14) (bl_ 14 767) HT_ HW_ hHeld ?_
      refine on_ 8 (some 13) (bl_ 14 1023) HT_ (fun K hK => ?_)
      refine gO_ Try.func87 #[.agg #[.slice A0_0 l0_0.length c0_0, .slice A0_1 l0_1.length c0_1]] (by rfl) rfl rfl qa_ ?_
      with_reducible refine (spec_l03Canon.calls k _ _ l0_0 _ _ l0_1 t958 t961 _ (cb_ HR0_0) HC0_0.out (cb_ HR0_1) HC0_1.out A7.out).mono ?_
      rintro e w15 ⟨v959, v962, rfl, ho0, ho1, hb⟩
      refine ⟨_, rfl, ?_⟩
      have HO960 := rl_ w ho0
      have HO963 := rl_ w ho1
      replace BK954 := bb_ BK954 hb
      replace BK955 := bb_ BK955 hb
      replace HB := b1_ hb
      clear hb ho0 ho1
      refine hK.out _ _ ⟨cz0_ BK954, cz1_ BK954, cz0_ BK955, cz1_ BK955⟩ (fun hHeld => ?_)
      clear hK K
      refine no_ (some 13) ?_
      refine on_ 10 (some 15) (bl_ 14 2047) HT_ (fun K hK => ?_)
      refine gO_ Try.func87 #[.agg #[.slice A1_0 l1_0.length c1_0, .slice A1_1 l1_1.length c1_1]] (by rfl) rfl rfl qa_ ?_
      with_reducible refine (spec_l03Canon.calls k _ _ l1_0 _ _ l1_1 t964 t967 _ (cb_ HR1_0) HC1_0.out (cb_ HR1_1) HC1_1.out A8.out).mono ?_
      rintro e w16 ⟨v965, v968, rfl, ho0, ho1, hb⟩
      refine ⟨_, rfl, ?_⟩
      have HO966 := Aside0.mk (Kd.R_lower (Kd.R_new' (Kd.R_new' ho0 (Kd.R_lt (rr_ HO960))) (Kd.R_lt (rr_ HO963))) (below_size hB_))
      have HO969 := Aside0.mk (Kd.R_lower (Kd.R_new' (Kd.R_new' ho1 (Kd.R_lt (rr_ HO960))) (Kd.R_lt (rr_ HO963))) (below_size hB_))
      replace HO960 := Aside0.mk (Kd.R_mono (Kd.R_told (Kd.R_told (Kd.R_old (rr_ HO960) hb) (Kd.R_base ho0)) (Kd.R_base ho1)) (fun _ h_ => h_.1))
      replace HO963 := Aside0.mk (Kd.R_mono (Kd.R_told (Kd.R_told (Kd.R_old (rr_ HO963) hb) (Kd.R_base ho0)) (Kd.R_base ho1)) (fun _ h_ => h_.1))
      replace BK954 := bb_ BK954 hb
      replace BK955 := bb_ BK955 hb
      replace HB := b1_ hb
      clear hb ho0 ho1
      obtain ⟨Ao17, co17, eo17⟩ := Kd.R_slice HO960.out
      (first | subst eo17 | (injection eo17 with f1_ f2_ f3_; have f4_ := f1_.symm; have f5_ := f3_.symm; clear f1_ f2_ f3_; subst f4_; subst f5_))
      obtain ⟨Ao18, co18, eo18⟩ := Kd.R_slice HO963.out
      (first | subst eo18 | (injection eo18 with f1_ f2_ f3_; have f4_ := f1_.symm; have f5_ := f3_.symm; clear f1_ f2_ f3_; subst f4_; subst f5_))
      obtain ⟨Ao19, co19, eo19⟩ := Kd.R_slice HO966.out
      (first | subst eo19 | (injection eo19 with f1_ f2_ f3_; have f4_ := f1_.symm; have f5_ := f3_.symm; clear f1_ f2_ f3_; subst f4_; subst f5_))
      obtain ⟨Ao20, co20, eo20⟩ := Kd.R_slice HO969.out
      (first | subst eo20 | (injection eo20 with f1_ f2_ f3_; have f4_ := f1_.symm; have f5_ := f3_.symm; clear f1_ f2_ f3_; subst f4_; subst f5_))
      refine hK.out _ _ ⟨cz0_ BK954, cz1_ BK954, cz0_ BK955, cz1_ BK955⟩ (fun hHeld => ?_)
      clear hK K
      refine no_ (some 15) ?_
      refine on_ 11 (some 16) (bl_ 14 4095) HT_ (fun K hK => ?_)
      refine gO_ Try.func125 #[.agg #[.slice Ao17 t958.length co17, .slice Ao18 t961.length co18], .agg #[.slice Ao19 t964.length co19, .slice Ao20 t967.length co20]] (by rfl) rfl rfl qa_ ?_
      with_reducible refine (spec_SameSurface.calls k _ _ t958 _ _ t961 _ _ t964 _ _ t967 t970 _ (cr_ HO960) ((Kd.R_reads' HO960.out).2.1) (cr_ HO963) ((Kd.R_reads' HO963.out).2.1) (cr_ HO966) ((Kd.R_reads' HO966.out).2.1) (cr_ HO969) ((Kd.R_reads' HO969.out).2.1) A9.out).mono ?_
      rintro e w21 ⟨rfl, hb⟩
      refine ⟨_, rfl, ?_⟩
      replace HO960 := rb_ HO960 hb
      replace HO963 := rb_ HO963 hb
      replace HO966 := rb_ HO966 hb
      replace HO969 := rb_ HO969 hb
      replace BK954 := bb_ BK954 hb
      replace BK955 := bb_ BK955 hb
      replace HB := b1_ hb
      clear hb
      refine hK.out _ _ ⟨cz0_ BK954, cz1_ BK954, cz0_ BK955, cz1_ BK955⟩ (fun hHeld => ?_)
      clear hK K
      refine no_ (some 16) ?_
      refine pu_ 12 (some 17) (bl_ 14 8191) HT_ ?_
      refine pu_ 13 (some 4) (bl_ 14 16383) HT_ ?_
      refine done_ (done_of HT_.out (by kernel_rfl)) ?_
      try go_wp2
      go_ret
      exact ⟨qb_, hB_⟩
    · replace c6 := Bool.eq_false_iff.mpr c6
      subst c6
      have H1 : (some false) = some r := by rw [if_neg (show ¬ (false = true) by decide)] at H; exact H
      clear H
      have H := H1
      clear H1
      obtain rfl := Option.some.inj H
      go_enter Try.func79, Try.ntmps79
      try go_wp2_with (first | ((with_reducible refine gate_dst (N := 2) rfl ?_); refine bx_ 2 #[.slice A0_0 l0_0.length c0_0, .slice A0_1 l0_1.length c0_1] 33 ?_; intro gb954 hg w22 hbox hb; have BK954 := Aside0.mk hbox; have GW954 := gw_ w hg; have GE954 := GW954; replace HB := b1_ hb; clear hb hbox hg) | ((with_reducible refine gate_dst (N := 3) rfl ?_); refine bx_ 3 #[.slice A1_0 l1_0.length c1_0, .slice A1_1 l1_1.length c1_1] 33 ?_; intro gb955 hg w23 hbox hb; have BK955 := Aside0.mk hbox; have GW955 := gw_ w hg; have GE955 := GW955; replace HB := b1_ hb; have NB954_955 := gN_ BK954 hg; have NB955_954 := gP_ BK954 hg; replace BK954 := bb_ BK954 hb; clear hb hbox hg))
      replace BK954 := Aside0.mk (blk_drew BK954.out)
      replace BK955 := Aside0.mk (blk_drew BK955.out)
      replace HB := Aside0.mk (below_drew1 HB.out)
      refine start_ (n := 14) (S := fun w' => w'.cell? ⟨gb954, 0, none⟩ = some (.slice A0_0 l0_0.length c0_0) ∧ w'.cell? ⟨gb954, 1, none⟩ = some (.slice A0_1 l0_1.length c0_1) ∧ w'.cell? ⟨gb955, 0, none⟩ = some (.slice A1_0 l1_0.length c1_0) ∧ w'.cell? ⟨gb955, 1, none⟩ = some (.slice A1_1 l1_1.length c1_1)) (ds := []) (bl_ 14 0) (by kernel_rfl) rfl (by kernel_rfl) ⟨cz0_ BK954, cz1_ BK954, cz0_ BK955, cz1_ BK955⟩ (fun hHeld => ?_); refine with_tabW spec_AreIsomorphic.tab1 spec_AreIsomorphic.bits1 (fun HT_ HW_ => ?_)
      generalize w23.drew = w24 at BK954 BK955 HB hHeld ⊢
      refine ta_ 0 (some 5) (bl_ 14 1) HT_ HW_ hHeld ?_
      refine on_ 1 (some 6) (bl_ 14 3) HT_ (fun K hK => ?_)
      refine gO_ Try.func85 #[.agg #[.slice A0_0 l0_0.length c0_0, .slice A0_1 l0_1.length c0_1]] (by rfl) rfl rfl qa_ ?_
      with_reducible refine (spec_SurfaceOk.calls k _ _ l0_0 _ _ l0_1 true _ (cb_ HR0_0) HC0_0.out (cb_ HR0_1) HC0_1.out A3.out).mono ?_
      rintro e w25 ⟨rfl, hb⟩
      refine ⟨_, rfl, ?_⟩
      replace BK954 := bb_ BK954 hb
      replace BK955 := bb_ BK955 hb
      replace HB := b1_ hb
      clear hb
      refine hK.out _ _ ⟨cz0_ BK954, cz1_ BK954, cz0_ BK955, cz1_ BK955⟩ (fun hHeld => ?_)
      clear hK K
      refine no_ (some 6) ?_
      refine pu_ 2 (some 7) (bl_ 14 7) HT_ ?_
      refine ta_ 3 (some 8) (bl_ 14 15) HT_ HW_ hHeld ?_
      refine on_ 4 (some 9) (bl_ 14 31) HT_ (fun K hK => ?_)
      refine gO_ Try.func85 #[.agg #[.slice A1_0 l1_0.length c1_0, .slice A1_1 l1_1.length c1_1]] (by rfl) rfl rfl qa_ ?_
      with_reducible refine (spec_SurfaceOk.calls k _ _ l1_0 _ _ l1_1 false _ (cb_ HR1_0) HC1_0.out (cb_ HR1_1) HC1_1.out A5.out).mono ?_
      rintro e w26 ⟨rfl, hb⟩
      refine ⟨_, rfl, ?_⟩
      replace BK954 := bb_ BK954 hb
      replace BK955 := bb_ BK955 hb
      replace HB := b1_ hb
      clear hb
      refine hK.out _ _ ⟨cz0_ BK954, cz1_ BK954, cz0_ BK955, cz1_ BK955⟩ (fun hHeld => ?_)
      clear hK K
      refine no_ (some 9) ?_
      refine pu_ 5 (some 10) (bl_ 14 63) HT_ ?_
      refine pu_ 6 (some 11) (bl_ 14 127) HT_ ?_
      refine pure_ (i := 7) (N := some 12) (v := undef) (a' := ?_) (bl_ 14 255) rfl rfl (any_of HT_.out (by kernel_rfl)) (fun _ _ _ h => h) (Or.inr ⟨by rfl, rfl⟩) ?_ ?_
      rotate_left
      · simp only [Act.put, List.setIfInBounds_toArray, List.set_cons_zero, List.set_cons_succ, i64_w, i32_w]
        rfl
      refine pure_ (i := 8) (N := some 13) (v := undef) (a' := ?_) (bl_ 14 511) rfl rfl (any_of HT_.out (by kernel_rfl)) (fun _ _ _ h => h) (Or.inr ⟨by rfl, rfl⟩) ?_ ?_
      rotate_left
      · simp only [Act.put, List.setIfInBounds_toArray, List.set_cons_zero, List.set_cons_succ, i64_w, i32_w]
        rfl
      refine pure_ (i := 9) (N := some 14) (v := undef) (a' := ?_) (bl_ 14 1023) rfl rfl (any_of HT_.out (by kernel_rfl)) (fun _ _ _ h => h) (Or.inr ⟨by rfl, rfl⟩) ?_ ?_
      rotate_left
      · simp only [Act.put, List.setIfInBounds_toArray, List.set_cons_zero, List.set_cons_succ, i64_w, i32_w]
        rfl
      refine pure_ (i := 10) (N := some 15) (v := undef) (a' := ?_) (bl_ 14 2047) rfl rfl (any_of HT_.out (by kernel_rfl)) (fun _ _ _ h => h) (Or.inr ⟨by rfl, rfl⟩) ?_ ?_
      rotate_left
      · simp only [Act.put, List.setIfInBounds_toArray, List.set_cons_zero, List.set_cons_succ, i64_w, i32_w]
        rfl
      refine pure_ (i := 11) (N := some 16) (v := undef) (a' := ?_) (bl_ 14 4095) rfl rfl (any_of HT_.out (by kernel_rfl)) (fun _ _ _ h => h) (Or.inr ⟨by rfl, rfl⟩) ?_ ?_
      rotate_left
      · simp only [Act.put, List.setIfInBounds_toArray, List.set_cons_zero, List.set_cons_succ, i64_w, i32_w]
        rfl
      refine pu_ 12 (some 17) (bl_ 14 8191) HT_ ?_
      refine pu_ 13 (some 4) (bl_ 14 16383) HT_ ?_
      refine done_ (done_of HT_.out (by kernel_rfl)) ?_
      try go_wp2
      go_ret
      exact ⟨qb_, hB_⟩
  · replace c4 := Bool.eq_false_iff.mpr c4
    subst c4
    have H1 : (some false) = some r := by rw [if_neg (show ¬ (false = true) by decide)] at H; exact H
    clear H
    have H := H1
    clear H1
    obtain rfl := Option.some.inj H
    go_enter Try.func79, Try.ntmps79
    try go_wp2_with (first | ((with_reducible refine gate_dst (N := 2) rfl ?_); refine bx_ 2 #[.slice A0_0 l0_0.length c0_0, .slice A0_1 l0_1.length c0_1] 33 ?_; intro gb954 hg w27 hbox hb; have BK954 := Aside0.mk hbox; have GW954 := gw_ w hg; have GE954 := GW954; replace HB := b1_ hb; clear hb hbox hg) | ((with_reducible refine gate_dst (N := 3) rfl ?_); refine bx_ 3 #[.slice A1_0 l1_0.length c1_0, .slice A1_1 l1_1.length c1_1] 33 ?_; intro gb955 hg w28 hbox hb; have BK955 := Aside0.mk hbox; have GW955 := gw_ w hg; have GE955 := GW955; replace HB := b1_ hb; have NB954_955 := gN_ BK954 hg; have NB955_954 := gP_ BK954 hg; replace BK954 := bb_ BK954 hb; clear hb hbox hg))
    replace BK954 := Aside0.mk (blk_drew BK954.out)
    replace BK955 := Aside0.mk (blk_drew BK955.out)
    replace HB := Aside0.mk (below_drew1 HB.out)
    refine start_ (n := 14) (S := fun w' => w'.cell? ⟨gb954, 0, none⟩ = some (.slice A0_0 l0_0.length c0_0) ∧ w'.cell? ⟨gb954, 1, none⟩ = some (.slice A0_1 l0_1.length c0_1)) (ds := []) (bl_ 14 0) (by kernel_rfl) rfl (by kernel_rfl) ⟨cz0_ BK954, cz1_ BK954⟩ (fun hHeld => ?_); refine with_tabW spec_AreIsomorphic.tab1 spec_AreIsomorphic.bits1 (fun HT_ HW_ => ?_)
    generalize w28.drew = w29 at BK954 BK955 HB hHeld ⊢
    refine ta_ 0 (some 5) (bl_ 14 1) HT_ HW_ hHeld ?_
    refine on_ 1 (some 6) (bl_ 14 3) HT_ (fun K hK => ?_)
    refine gO_ Try.func85 #[.agg #[.slice A0_0 l0_0.length c0_0, .slice A0_1 l0_1.length c0_1]] (by rfl) rfl rfl qa_ ?_
    with_reducible refine (spec_SurfaceOk.calls k _ _ l0_0 _ _ l0_1 false _ (cb_ HR0_0) HC0_0.out (cb_ HR0_1) HC0_1.out A3.out).mono ?_
    rintro e w30 ⟨rfl, hb⟩
    refine ⟨_, rfl, ?_⟩
    replace BK954 := bb_ BK954 hb
    replace BK955 := bb_ BK955 hb
    replace HB := b1_ hb
    clear hb
    refine hK.out _ _ ⟨cz0_ BK954, cz1_ BK954⟩ (fun hHeld => ?_)
    clear hK K
    refine no_ (some 6) ?_
    refine pu_ 2 (some 7) (bl_ 14 7) HT_ ?_
    refine pure_ (i := 3) (N := some 8) (v := undef) (a' := ?_) (bl_ 14 15) rfl rfl (any_of HT_.out (by kernel_rfl)) (fun _ _ _ h => h) (Or.inr ⟨by rfl, rfl⟩) ?_ ?_
    rotate_left
    · simp only [Act.put, List.setIfInBounds_toArray, List.set_cons_zero, List.set_cons_succ, i64_w, i32_w]
      rfl
    refine pure_ (i := 4) (N := some 9) (v := undef) (a' := ?_) (bl_ 14 31) rfl rfl (any_of HT_.out (by kernel_rfl)) (fun _ _ _ h => h) (Or.inr ⟨by rfl, rfl⟩) ?_ ?_
    rotate_left
    · simp only [Act.put, List.setIfInBounds_toArray, List.set_cons_zero, List.set_cons_succ, i64_w, i32_w]
      rfl
    refine pu_ 5 (some 10) (bl_ 14 63) HT_ ?_
    refine pu_ 6 (some 11) (bl_ 14 127) HT_ ?_
    refine pure_ (i := 7) (N := some 12) (v := undef) (a' := ?_) (bl_ 14 255) rfl rfl (any_of HT_.out (by kernel_rfl)) (fun _ _ _ h => h) (Or.inr ⟨by rfl, rfl⟩) ?_ ?_
    rotate_left
    · simp only [Act.put, List.setIfInBounds_toArray, List.set_cons_zero, List.set_cons_succ, i64_w, i32_w]
      rfl
    refine pure_ (i := 8) (N := some 13) (v := undef) (a' := ?_) (bl_ 14 511) rfl rfl (any_of HT_.out (by kernel_rfl)) (fun _ _ _ h => h) (Or.inr ⟨by rfl, rfl⟩) ?_ ?_
    rotate_left
    · simp only [Act.put, List.setIfInBounds_toArray, List.set_cons_zero, List.set_cons_succ, i64_w, i32_w]
      rfl
    refine pure_ (i := 9) (N := some 14) (v := undef) (a' := ?_) (bl_ 14 1023) rfl rfl (any_of HT_.out (by kernel_rfl)) (fun _ _ _ h => h) (Or.inr ⟨by rfl, rfl⟩) ?_ ?_
    rotate_left
    · simp only [Act.put, List.setIfInBounds_toArray, List.set_cons_zero, List.set_cons_succ, i64_w, i32_w]
      rfl
    refine pure_ (i := 10) (N := some 15) (v := undef) (a' := ?_) (bl_ 14 2047) rfl rfl (any_of HT_.out (by kernel_rfl)) (fun _ _ _ h => h) (Or.inr ⟨by rfl, rfl⟩) ?_ ?_
    rotate_left
    · simp only [Act.put, List.setIfInBounds_toArray, List.set_cons_zero, List.set_cons_succ, i64_w, i32_w]
      rfl
    refine pure_ (i := 11) (N := some 16) (v := undef) (a' := ?_) (bl_ 14 4095) rfl rfl (any_of HT_.out (by kernel_rfl)) (fun _ _ _ h => h) (Or.inr ⟨by rfl, rfl⟩) ?_ ?_
    rotate_left
    · simp only [Act.put, List.setIfInBounds_toArray, List.set_cons_zero, List.set_cons_succ, i64_w, i32_w]
      rfl
    refine pu_ 12 (some 17) (bl_ 14 8191) HT_ ?_
    refine pu_ 13 (some 4) (bl_ 14 16383) HT_ ?_
    refine done_ (done_of HT_.out (by kernel_rfl)) ?_
    try go_wp2
    go_ret
    exact ⟨qb_, hB_⟩
end Go.Proofs.Ytoijcallajegfaa.A
end
section
namespace Go.Proofs.Ytoijcallajegfaa.A
open Go.RowKit Go.Proofs.YtoijcallajegfaaW.PrintWords Go.Proofs.YtoijcallajegfaaW.PrintLast Go.Proofs.YtoijcallajegfaaW.PrintMore
attribute [local go_sem] max2_int min2_int max_two min_two max_three min_three max_four min_four
set_option linter.unusedVariables false
set_option linter.unusedSimpArgs false
def spec_IsFixedBy.f (k : Nat) (l0_0 : List Int) (l0_1 : List Int) (a1 : ByteArray) : Option (Bool) := (spec_RunWord.f k l0_0 l0_1 a1).bind fun bt972 => (if bt972.2.2 = true then ((spec_AreIsomorphic.f k bt972.1 bt972.2.1 l0_0 l0_1).bind fun t980 => (some t980)) else (some false))
theorem spec_IsFixedBy.mono : ∀ a0 a1 a2 k, LeO (spec_IsFixedBy.f k a0 a1 a2) (spec_IsFixedBy.f (k + 1) a0 a1 a2) := by
  intro a0 a1 a2 k
  unfold spec_IsFixedBy.f
  repeat' first|exact spec_AreIsomorphic.mono _ _ _ _ _|exact spec_RunWord.mono _ _ _ _|exact lo_|refine LeO.ite ?_ ?_|refine LeO.bind ?_ (fun _ => ?_)
set_option maxHeartbeats 8000000 in
set_option maxRecDepth 100000 in
theorem spec_IsFixedBy.calls (k : Nat) (A0_0 : Option Addr) (c0_0 : Nat) (l0_0 : List Int) (A0_1 : Option Addr) (c0_1 : Nat) (l0_1 : List Int) (a1 : ByteArray) (r : Bool) (w : World) (hr0_0 : Kd.C (Kd.int .i64) w A0_0 l0_0.length l0_0) (hc0_0 : l0_0.length ≤ c0_0) (hr0_1 : Kd.C (Kd.int .i64) w A0_1 l0_1.length l0_1) (hc0_1 : l0_1.length ≤ c0_1) (h : spec_IsFixedBy.f k l0_0 l0_1 a1 = some r) :
    Calls Try.prog 32 #[.agg #[.slice A0_0 l0_0.length c0_0, .slice A0_1 l0_1.length c0_1], .string a1] w fun e w' => e = .returned (.bool r) ∧ Below w.heap.size w w' := by
  have hu33 := Try.underlying33
  have HR0_0 := Aside0.mk hr0_0
  have HC0_0 := Aside0.mk hc0_0
  clear hr0_0 hc0_0
  have HR0_1 := Aside0.mk hr0_1
  have HC0_1 := Aside0.mk hc0_1
  clear hr0_1 hc0_1
  have HB := Aside0.mk (Below.refl w.heap.size w)
  have H := h
  unfold spec_IsFixedBy.f at H
  clear h
  obtain ⟨⟨t972, t975, t978⟩, A3, H⟩ := bi_ H
  try dsimp only at H
  by_cases c4 : t978 = true
  · subst c4
    rw [if_pos rfl] at H
    obtain ⟨t980, A5, H⟩ := bi_ H
    obtain rfl := Option.some.inj H
    go_enter Try.func32, Try.ntmps32
    go_wp2_with (first | ((with_reducible refine gate_dst (N := 2) rfl ?_); refine bx_ 2 #[.slice A0_0 l0_0.length c0_0, .slice A0_1 l0_1.length c0_1] 33 ?_; intro gb971 hg w6 hbox hb; have BK971 := Aside0.mk hbox; have GW971 := gw_ w hg; have GE971 := GW971; replace HB := b1_ hb; clear hb hbox hg; obtain ⟨hcz7_0, hcz7_1, hfz7_0, hfz7_1⟩ := c2_ BK971) | ((with_reducible refine gate_callee (f := 78) rfl ?_); refine gL_ (some 10) Try.func78 #[.agg #[.slice A0_0 l0_0.length c0_0, .slice A0_1 l0_1.length c0_1], .string a1] rfl qa_ ?_; (with_reducible refine (spec_RunWord.calls k _ _ l0_0 _ _ l0_1 a1 t972 t975 true _ (cb_ HR0_0) HC0_0.out (cb_ HR0_1) HC0_1.out A3.out).mono ?_); rintro e w8 ⟨v973, v976, rfl, ho0, ho1, hb⟩; refine ⟨_, rfl, ?_⟩; have HO974 := rl_ w ho0; have HO977 := rl_ w ho1; replace BK971 := bb_ BK971 hb; replace HB := b1_ hb; clear hb ho0 ho1) | ((with_reducible refine gate_dst (N := 5) rfl ?_); refine bx_ 5 #[.slice none 0 0, .slice none 0 0] 33 ?_; intro gb979 hg w9 hbox hb; replace HO974 := rb_ HO974 hb; replace HO977 := rb_ HO977 hb; have BK979 := Aside0.mk hbox; have GW979 := gw_ w hg; have GE979 := GW979; replace HB := b1_ hb; have NB971_979 := gN_ BK971 hg; have NB979_971 := gP_ BK971 hg; replace BK971 := bb_ BK971 hb; clear hb hbox hg; obtain ⟨Ao10, co10, eo10⟩ := Kd.R_slice HO974.out; subst eo10; have hnb11 := NB979_971.out; have hnc11 := NB971_979.out; obtain ⟨hcz12_0, hcz12_1, hfz12_0, hfz12_1⟩ := c2_ BK979; obtain ⟨Ao13, co13, eo13⟩ := Kd.R_slice HO977.out; subst eo13; obtain ⟨hcz14_0, hcz14_1, hfz14_0, hfz14_1⟩ := c2_ BK971) | (go_at_call 79; (with_reducible refine (spec_AreIsomorphic.calls k _ _ t972 _ _ t975 _ _ l0_0 _ _ l0_1 t980 _ ?side1 ?side2 ?side3 ?side4 ?side5 ?side6 ?side7 ?side8 A5.out).mono ?_); (case side1 => refine (Kd.R_reads' (e := 3) (base := w.heap.size) (ok := fun k_ => some k_ ≠ (.slice Ao13 t975.length co13 : Value).ownBlock) (n := t972.length) (c := co10) ?_).2.2; exact (rw_ (fa_ HO974 BK979))); (case side2 => exact (Kd.R_reads' HO974.out).2.1); (case side3 => refine (Kd.R_reads' (e := 3) (base := w.heap.size) (ok := fun k_ => some k_ ≠ (.slice Ao10 t972.length co10 : Value).ownBlock) (n := t975.length) (c := co13) ?_).2.2; exact (rw_ (fa_ HO977 BK979))); (case side4 => exact (Kd.R_reads' HO977.out).2.1); (case side5 => exact Kd.C_below HR0_0.out hB_); (case side6 => exact HC0_0.out); (case side7 => exact Kd.C_below HR0_1.out hB_); (case side8 => exact HC0_1.out); rintro e w15 ⟨rfl, hb⟩; replace HO974 := Aside0.mk (Kd.R_below (rw_ (fa_ HO974 BK979)) hb); replace HO977 := Aside0.mk (Kd.R_below (rw_ (fa_ HO977 BK979)) hb); replace BK971 := Aside0.mk (blk_below (g := gb971) (o := .cells #[.slice A0_0 l0_0.length c0_0, .slice A0_1 l0_1.length c0_1] 33 (0, 0)) (by (with_reducible repeat (first | refine blk_drewN ?_ _ | refine blk_drew ?_ | refine blk_alloc ?_ _)); refine blk_far ?_ NB971_979.out _; (with_reducible repeat (first | refine blk_drewN ?_ _ | refine blk_drew ?_ | refine blk_alloc ?_ _)); refine blk_far ?_ NB971_979.out _; (with_reducible repeat (first | refine blk_drewN ?_ _ | refine blk_drew ?_ | refine blk_alloc ?_ _)); exact BK971.out) hb); replace BK979 := Aside0.mk (blk_below (g := gb979) (o := .cells #[.slice Ao10 t972.length co10, .slice Ao13 t975.length co13] 33 (0, 0)) qp_ hb); replace HB := b1_ hb; clear hb))
    go_ret
    exact ⟨qb_, hB_⟩
  · replace c4 := Bool.eq_false_iff.mpr c4
    subst c4
    have H1 : (some false) = some r := by rw [if_neg (show ¬ (false = true) by decide)] at H; exact H
    clear H
    have H := H1
    clear H1
    obtain rfl := Option.some.inj H
    go_enter Try.func32, Try.ntmps32
    go_wp2_with (first | ((with_reducible refine gate_dst (N := 2) rfl ?_); refine bx_ 2 #[.slice A0_0 l0_0.length c0_0, .slice A0_1 l0_1.length c0_1] 33 ?_; intro gb971 hg w16 hbox hb; have BK971 := Aside0.mk hbox; have GW971 := gw_ w hg; have GE971 := GW971; replace HB := b1_ hb; clear hb hbox hg; obtain ⟨hcz17_0, hcz17_1, hfz17_0, hfz17_1⟩ := c2_ BK971) | ((with_reducible refine gate_callee (f := 78) rfl ?_); refine gL_ (some 10) Try.func78 #[.agg #[.slice A0_0 l0_0.length c0_0, .slice A0_1 l0_1.length c0_1], .string a1] rfl qa_ ?_; (with_reducible refine (spec_RunWord.calls k _ _ l0_0 _ _ l0_1 a1 t972 t975 false _ (cb_ HR0_0) HC0_0.out (cb_ HR0_1) HC0_1.out A3.out).mono ?_); rintro e w18 ⟨v973, v976, rfl, ho0, ho1, hb⟩; refine ⟨_, rfl, ?_⟩; have HO974 := rl_ w ho0; have HO977 := rl_ w ho1; replace BK971 := bb_ BK971 hb; replace HB := b1_ hb; clear hb ho0 ho1) | ((with_reducible refine gate_dst (N := 5) rfl ?_); refine bx_ 5 #[.slice none 0 0, .slice none 0 0] 33 ?_; intro gb979 hg w19 hbox hb; replace HO974 := rb_ HO974 hb; replace HO977 := rb_ HO977 hb; have BK979 := Aside0.mk hbox; have GW979 := gw_ w hg; have GE979 := GW979; replace HB := b1_ hb; have NB971_979 := gN_ BK971 hg; have NB979_971 := gP_ BK971 hg; replace BK971 := bb_ BK971 hb; clear hb hbox hg; obtain ⟨Ao20, co20, eo20⟩ := Kd.R_slice HO974.out; subst eo20; have hnb21 := NB979_971.out; have hnc21 := NB971_979.out; obtain ⟨hcz22_0, hcz22_1, hfz22_0, hfz22_1⟩ := c2_ BK979; obtain ⟨Ao23, co23, eo23⟩ := Kd.R_slice HO977.out; subst eo23))
    go_ret
    exact ⟨qb_, hB_⟩
end Go.Proofs.Ytoijcallajegfaa.A
end
section
namespace Go.Proofs.Ytoijcallajegfaa.A
open Go.RowKit Go.Proofs.YtoijcallajegfaaW.PrintWords Go.Proofs.YtoijcallajegfaaW.PrintLast Go.Proofs.YtoijcallajegfaaW.PrintMore
attribute [local go_sem] max2_int min2_int max_two min_two max_three min_three max_four min_four
set_option linter.unusedVariables false
set_option linter.unusedSimpArgs false
def laws_toIntS.l0 : Nat → List Int → List Int → Int → Option (List Int)
  | 0, _, _, _ => none
  | k + 1, x0, x3, x4 => if x4 < (x0.length : Int) then (if 0 ≤ x4 then (if x4 < (x3.length : Int) then (laws_toIntS.l0 k x0 (x3.set (x4 : Int).toNat (rd x0 x4)) (wrap64 (x4 + 1))) else (none)) else (none)) else (some x3)
def laws_toIntS.f (k : Nat) (l0 : List Int) : Option (List Int) := if 0 ≤ (l0.length : Int) then (if ((l0.length : Int) : Int).toNat ≤ 35184372088832 then (laws_toIntS.l0 k l0 (List.replicate ((l0.length : Int) : Int).toNat 0) 0) else (none)) else (none)
theorem laws_toIntS.mono_l : ∀ k, (∀ y0 y1 y2, LeO (laws_toIntS.l0 k y0 y1 y2) (laws_toIntS.l0 (k + 1) y0 y1 y2))
  | 0 => fun _ _ _ r h => by simp [laws_toIntS.l0] at h
  | k + 1 => by
    have ih0 := laws_toIntS.mono_l k
    · intro y0 y1 y2
      unfold laws_toIntS.l0
      repeat' first|exact ih0 _ _ _|exact lo_|refine LeO.ite ?_ ?_|refine LeO.bind ?_ (fun _ => ?_)
theorem laws_toIntS.mono : ∀ a0 k, LeO (laws_toIntS.f k a0) (laws_toIntS.f (k + 1) a0) := by
  intro a0 k
  have ih0 := laws_toIntS.mono_l k
  unfold laws_toIntS.f
  repeat' first|exact ih0 _ _ _|exact lo_|refine LeO.ite ?_ ?_|refine LeO.bind ?_ (fun _ => ?_)
set_option maxHeartbeats 8000000 in
set_option maxRecDepth 100000 in
theorem laws_toIntS.calls (k : Nat) (A0 : Option Addr) (c0 : Nat) (l0 : List Int) (r : List Int) (w : World) (hr0 : Kd.C (Kd.int .i64) w A0 l0.length l0) (hc0 : l0.length ≤ c0) (h : laws_toIntS.f k l0 = some r) :
    Calls Try.prog 80 #[.slice A0 l0.length c0] w fun e w' => ∃ v0_ : Value, e = .returned (v0_) ∧ Kd.R (Kd.int .i64) 3 w' w.heap.size (fun _ => True) v0_ r ∧ Below w.heap.size w w' := by
  have HR0 := Aside0.mk hr0
  have HC0 := Aside0.mk hc0
  clear hr0 hc0
  have HB := Aside0.mk (Below.refl w.heap.size w)
  have H := h
  unfold laws_toIntS.f at H
  clear h
  have c2 := cp_ H
  replace H := ca_ H
  have c2b0 := eq_true c2
  have c2b1 := decide_eq_true c2
  clear c2
  have c3 := cp_ H
  replace H := ca_ H
  have c3b0 := eq_true c3
  have c3b1 := decide_eq_true c3
  clear c3
  obtain ⟨y981, hy981⟩ : ∃ y_ : List Int, y_ = (List.replicate ((l0.length : Int) : Int).toNat 0) := ⟨_, rfl⟩
  replace H : (laws_toIntS.l0 k l0 y981 0) = some r := by first | (rw [hy981]; exact H) | exact H
  have Ny981 := Aside0.mk hy981
  clear hy981
  have H' := Aside0.mk H
  clear H
  go_enter Try.func80, Try.ntmps80
  go_wp2_with (first | ((with_reducible refine gate_dst (N := 7) rfl ?_); refine Kd.R_make (Kd.int .i64) _ 3 rfl (N := 7) rfl 23 _ _ rfl (l0.length : Int) rfl rfl Try.underlying23 (.int .i64 0) 8 info3 rfl (by decide) (by omega) 0 (ok := fun _ => True) (okp := fun _ => True) rfl (fun _ hk => hk) trivial (of_decide_eq_true qe_) (Nat.le_trans (Nat.mul_le_mul_right _ (of_decide_eq_true qe_ : (l0.length : Int).toNat ≤ 35184372088832)) (by omega)) (Below.refl _ _) (Nat.le_refl _) ?_; intro v982 w4 ho5 hb hg_ hnew_; clear hg_ hnew_; (first | rw [← Ny981.out] at ho5 | (simp only [Int.reduceToNat] at ho5; rw [← Ny981.out] at ho5)); have HO983 := rl_ w ho5; replace HB := b1_ hb; clear hb ho5))
  go_loopg [4] k (fun kq v4 w' => ∃ (x3_1 : List Int) (x4_1 : Int), v4 = .int .i64 x4_1 ∧ Aside0 (laws_toIntS.l0 kq l0 x3_1 x4_1 = some r) ∧ Aside0 (kq ≤ k) ∧ Aside0 (Kd.R (Kd.int .i64) 3 w' w.heap.size (fun _ => True) v982 x3_1) ∧ Aside0 (Below w.heap.size w w'))
  case atStart => exact ⟨(y981), (0), qc_, H', ⟨Nat.le_refl _⟩, ⟨(rr_ HO983)⟩, ⟨hB_⟩⟩
  case round =>
    clear H'
    obtain ⟨x3_1, x4_1, rfl, HA, HK1, HO_3, HB⟩ := hrel
    cases gk with
    | zero => exact absurd HA.out (by simp [laws_toIntS.l0])
    | succ k1 =>
      have H := HA.out
      clear HA
      simp only [laws_toIntS.l0] at H
      by_cases c6 : x4_1 < (l0.length : Int)
      · rw [if_pos c6] at H
        have c6b0 := decide_eq_true c6
        clear c6
        have c7 := cp_ H
        replace H := ca_ H
        have c7b0 := decide_eq_true c7
        clear c7
        have c8 := cp_ H
        replace H := ca_ H
        have c8b0 := decide_eq_true c8
        clear c8
        obtain ⟨y985, hy985⟩ : ∃ y_ : List Int, y_ = (x3_1.set (x4_1 : Int).toNat (rd l0 x4_1)) := ⟨_, rfl⟩
        replace H : (laws_toIntS.l0 k1 l0 y985 (wrap64 (x4_1 + 1))) = some r := by first | (rw [hy985]; exact H) | exact H
        have Ny985 := Aside0.mk hy985
        clear hy985
        have H' := Aside0.mk H
        clear H
        have p984 : 0 ≤ (x4_1 : Int) := of_decide_eq_true qe_
        have q984 : x4_1 < (l0.length : Int) := of_decide_eq_true qe_
        obtain ⟨ad984, e984, hx984_0⟩ := Kd.at_int HR0.out x4_1 p984 q984
        cases e984
        replace hx984_0 := (HB.out.cell (World.block_lt_of_cell? w _ hx984_0)).trans hx984_0
        replace p984 := eq_true p984
        replace q984 := eq_true q984
        have p9 : 0 ≤ (x4_1 : Int) := of_decide_eq_true qe_
        have q9 : (x4_1 : Int) < ((x3_1.length : Int) : Int) := of_decide_eq_true qe_
        obtain ⟨go9, co9, eo9, gb9, gl9, cl9, HG9⟩ := Kd.R_form HO_3.out (by omega)
        (first | cases eo9 | (injection eo9 with ea_ en_ ec_; (first | subst ea_ | (injection ea_ with ea_; subst ea_)); subst ec_; clear en_))
        have GB9 := Aside0.mk gb9
        have GG9 := Aside0.mk HG9
        clear gb9 gl9 HG9
        obtain ⟨hx9_0, hf9_0⟩ := Kd.R_celln 0 HO_3.out (x4_1 : Int) p9 q9
        replace p9 := eq_true p9
        replace q9 := eq_true q9
        have HP10 := Kd.R_putg HO_3.out (x4_1 : Int) (rd l0 x4_1)
        go_wp2_with (first | ((with_reducible refine gate_store (t := 3) (p := 20) rfl ?_); refine store_event (t := 3) (p := 20) (v := ?vo_w11) (w1 := (wr.setCell ⟨go9, (x4_1 : Int).toNat, none⟩ (.int .i64 (rd l0 x4_1)))) ?hg ?ho ?hn ?hr ?_; (case ho => rfl); (case hg => rfl); (case hn => rfl); (case hr => first | (go_simp; done) | (go_simp; rfl)); intro w11 hw; have hg : wr.grownBy w11 (some go9) := (by rw [hw]; exact HP10.2); have hp_ : Kd.R (Kd.int .i64) 3 w11 w.heap.size (fun _ => True) (.slice (some ⟨go9, 0, none⟩) x3_1.length co9) y985 := (by rw [hw, Ny985.out]; exact HP10.1); clear HP10; replace HO_3 := Aside0.mk (hp_); replace HB := Aside0.mk ((by rw [hw]; exact below_set (HB.out) GB9.out : Below w.heap.size w w11)); clear hg hw hp_))
        go_roundg k1
        case measure => have := HK1.out; omega
        case rel => exact ⟨(y985), (wrap64 (x4_1 + 1)), qc_, H', ⟨by have := HK1.out; omega⟩, ⟨(rr_ HO_3)⟩, ⟨hB_⟩⟩
      · rw [if_neg c6] at H
        have c6b0 := decide_eq_false c6
        clear c6
        obtain rfl := Option.some.inj H
        go_wp2
        go_ret
        exact ⟨_, qb_, (rr_ HO_3), hB_⟩
end Go.Proofs.Ytoijcallajegfaa.A
end
section
namespace Go.Proofs.Ytoijcallajegfaa.A
open Go.RowKit Go.Proofs.YtoijcallajegfaaW.PrintWords Go.Proofs.YtoijcallajegfaaW.PrintLast Go.Proofs.YtoijcallajegfaaW.PrintMore
attribute [local go_sem] max2_int min2_int max_two min_two max_three min_three max_four min_four
set_option linter.unusedVariables false
set_option linter.unusedSimpArgs false
def laws_toSurface.f (k : Nat) (l0_0 : List Int) (l0_1 : List Int) : Option (List Int × List Int) := (laws_toIntS.f k l0_0).bind fun t989 => ((laws_toIntS.f k l0_1).bind fun t992 => (some (t989, t992)))
theorem laws_toSurface.mono : ∀ a0 a1 k, LeO (laws_toSurface.f k a0 a1) (laws_toSurface.f (k + 1) a0 a1) := by
  intro a0 a1 k
  unfold laws_toSurface.f
  repeat' first|exact laws_toIntS.mono _ _|exact lo_|refine LeO.ite ?_ ?_|refine LeO.bind ?_ (fun _ => ?_)
set_option maxHeartbeats 8000000 in
set_option maxRecDepth 100000 in
theorem laws_toSurface.calls (k : Nat) (A0_0 : Option Addr) (c0_0 : Nat) (l0_0 : List Int) (A0_1 : Option Addr) (c0_1 : Nat) (l0_1 : List Int) (r1 : List Int) (r2 : List Int) (w : World) (hr0_0 : Kd.C (Kd.int .i64) w A0_0 l0_0.length l0_0) (hc0_0 : l0_0.length ≤ c0_0) (hr0_1 : Kd.C (Kd.int .i64) w A0_1 l0_1.length l0_1) (hc0_1 : l0_1.length ≤ c0_1) (h : laws_toSurface.f k l0_0 l0_1 = some (r1, r2)) :
    Calls Try.prog 33 #[.agg #[.slice A0_0 l0_0.length c0_0, .slice A0_1 l0_1.length c0_1]] w fun e w' => ∃ v0_ v1_ : Value, e = .returned (.agg #[v0_, v1_]) ∧ Kd.R (Kd.int .i64) 3 w' w.heap.size (fun k_ => some k_ ≠ (v1_ : Value).ownBlock) v0_ r1 ∧ Kd.R (Kd.int .i64) 3 w' w.heap.size (fun k_ => some k_ ≠ (v0_ : Value).ownBlock) v1_ r2 ∧ Below w.heap.size w w' := by
  have hu46 := Try.underlying46
  have hu33 := Try.underlying33
  have HR0_0 := Aside0.mk hr0_0
  have HC0_0 := Aside0.mk hc0_0
  clear hr0_0 hc0_0
  have HR0_1 := Aside0.mk hr0_1
  have HC0_1 := Aside0.mk hc0_1
  clear hr0_1 hc0_1
  have HB := Aside0.mk (Below.refl w.heap.size w)
  have H := h
  unfold laws_toSurface.f at H
  clear h
  obtain ⟨t989, A2, H⟩ := bi_ H
  obtain ⟨t992, A3, H⟩ := bi_ H
  simp only [Option.some.injEq, Prod.mk.injEq] at H
  obtain ⟨rfl, rfl⟩ := H
  go_enter Try.func33, Try.ntmps33
  go_wp2_with (first | ((with_reducible refine gate_dst (N := 1) rfl ?_); refine bx_ 1 #[.slice A0_0 l0_0.length c0_0, .slice A0_1 l0_1.length c0_1] 46 ?_; intro gb986 hg w4 hbox hb; have BK986 := Aside0.mk hbox; have GW986 := gw_ w hg; have GE986 := GW986; replace HB := b1_ hb; clear hb hbox hg) | ((with_reducible refine gate_dst (N := 2) rfl ?_); refine bx_ 2 #[.slice none 0 0, .slice none 0 0] 33 ?_; intro gb987 hg w5 hbox hb; have BK987 := Aside0.mk hbox; have GW987 := gw_ w hg; have GE987 := GW987; replace HB := b1_ hb; have NB986_987 := gN_ BK986 hg; have NB987_986 := gP_ BK986 hg; replace BK986 := bb_ BK986 hb; clear hb hbox hg) | ((with_reducible refine gate_dst (N := 3) rfl ?_); refine bx_ 3 #[.slice none 0 0, .slice none 0 0] 33 ?_; intro gb988 hg w6 hbox hb; have BK988 := Aside0.mk hbox; have GW988 := gw_ w hg; have GE988 := GW988; replace HB := b1_ hb; have NB986_988 := gN_ BK986 hg; have NB988_986 := gP_ BK986 hg; replace BK986 := bb_ BK986 hb; have NB987_988 := gN_ BK987 hg; have NB988_987 := gP_ BK987 hg; replace BK987 := bb_ BK987 hb; clear hb hbox hg; have hnb7 := NB986_987.out; have hnc7 := NB987_986.out; have hnb8 := NB986_988.out; have hnc8 := NB988_986.out; obtain ⟨hcz9_0, hcz9_1, hfz9_0, hfz9_1⟩ := c2_ BK986) | ((with_reducible refine gate_callee (f := 80) rfl ?_); refine gL_ (some 6) Try.func80 #[.slice A0_0 l0_0.length c0_0] rfl qa_ ?_; (with_reducible refine (laws_toIntS.calls k _ _ l0_0 t989 _ (cb_ HR0_0) HC0_0.out A2.out).mono ?_); rintro e w10 ⟨v990, rfl, ho0, hb⟩; refine ⟨_, rfl, ?_⟩; have HO991 := rl_ w ho0; replace BK986 := bb_ BK986 hb; replace BK987 := bb_ BK987 hb; replace BK988 := bb_ BK988 hb; replace HB := b1_ hb; clear hb ho0; obtain ⟨Ao11, co11, eo11⟩ := Kd.R_slice HO991.out; subst eo11; have hnb12 := NB988_987.out; have hnc12 := NB987_988.out; obtain ⟨hcz13_0, hcz13_1, hfz13_0, hfz13_1⟩ := c2_ BK988; obtain ⟨hcz14_0, hcz14_1, hfz14_0, hfz14_1⟩ := c2_ BK986) | ((with_reducible refine gate_callee (f := 80) rfl ?_); refine gL_ (some 10) Try.func80 #[.slice A0_1 l0_1.length c0_1] rfl qa_ ?_; (with_reducible refine (laws_toIntS.calls k _ _ l0_1 t992 _ (Kd.C_below HR0_1.out hB_) HC0_1.out A3.out).mono ?_); rintro e w15 ⟨v993, rfl, ho0, hb⟩; refine ⟨_, rfl, ?_⟩; have HO994 := Aside0.mk (Kd.R_lower (Kd.R_new' ho0 (Kd.R_lt (rw_ (Kd.R_mono (Kd.R_far (p := ⟨gb988, 0, none⟩) (Kd.R_types HO991.out BK988.out (by decide)) (fun _ hk => hk.2) (.slice Ao11 t989.length co11)) (fun _ h_ => h_.1))))) (below_size hB_)); replace HO991 := Aside0.mk (Kd.R_elder' (rw_ (Kd.R_mono (Kd.R_far (p := ⟨gb988, 0, none⟩) (Kd.R_types HO991.out BK988.out (by decide)) (fun _ hk => hk.2) (.slice Ao11 t989.length co11)) (fun _ h_ => h_.1))) (Kd.R_base ho0) hb); replace BK986 := Aside0.mk (blk_below (g := gb986) (o := .cells #[.slice A0_0 l0_0.length c0_0, .slice A0_1 l0_1.length c0_1] 46 (0, 0)) (by (with_reducible repeat (first | refine blk_drewN ?_ _ | refine blk_drew ?_ | refine blk_alloc ?_ _)); refine blk_far ?_ NB986_988.out _; (with_reducible repeat (first | refine blk_drewN ?_ _ | refine blk_drew ?_ | refine blk_alloc ?_ _)); exact BK986.out) hb); replace BK987 := Aside0.mk (blk_below (g := gb987) (o := .cells #[.slice none 0 0, .slice none 0 0] 33 (0, 0)) (by (with_reducible repeat (first | refine blk_drewN ?_ _ | refine blk_drew ?_ | refine blk_alloc ?_ _)); refine blk_far ?_ NB987_988.out _; (with_reducible repeat (first | refine blk_drewN ?_ _ | refine blk_drew ?_ | refine blk_alloc ?_ _)); exact BK987.out) hb); replace BK988 := Aside0.mk (blk_below (g := gb988) (o := .cells #[.slice Ao11 t989.length co11, .slice none 0 0] 33 (0, 0)) (by (with_reducible repeat (first | refine blk_drewN ?_ _ | refine blk_drew ?_ | refine blk_alloc ?_ _)); refine blk_put (cs := #[.slice none 0 0, .slice none 0 0]) ?_ 0 _ rfl; (with_reducible repeat (first | refine blk_drewN ?_ _ | refine blk_drew ?_ | refine blk_alloc ?_ _)); exact BK988.out) hb); replace HB := b1_ hb; clear hb ho0; obtain ⟨Ao16, co16, eo16⟩ := Kd.R_slice HO994.out; subst eo16; obtain ⟨hcz17_0, hcz17_1, hfz17_0, hfz17_1⟩ := c2_ BK988; obtain ⟨hcz18_0, hcz18_1, hfz18_0, hfz18_1⟩ := c2_ BK987))
  refine bodyPost_ret (results_cell_row rfl _ _ gb987 33 #[.slice Ao11 t989.length co11, .slice Ao16 t992.length co16] (0, 0) _ rfl (by (with_reducible repeat (first | refine blk_drewN ?_ _ | refine blk_drew ?_ | refine blk_alloc ?_ _)); refine blk_put (cs := #[.slice Ao11 t989.length co11, .slice none 0 0]) ?_ 1 _ rfl; (with_reducible repeat (first | refine blk_drewN ?_ _ | refine blk_drew ?_ | refine blk_alloc ?_ _)); refine blk_put (cs := #[.slice none 0 0, .slice none 0 0]) ?_ 0 _ rfl; (with_reducible repeat (first | refine blk_drewN ?_ _ | refine blk_drew ?_ | refine blk_alloc ?_ _)); refine blk_far ?_ NB987_988.out _; (with_reducible repeat (first | refine blk_drewN ?_ _ | refine blk_drew ?_ | refine blk_alloc ?_ _)); exact BK987.out) Try.underlying33 rfl (by kernel_rfl)) rfl ?_
  exact ⟨_, _, qb_, (rw_ (Kd.R_mono (Kd.R_far (p := ⟨gb987, 1, none⟩) (Kd.R_far (p := ⟨gb987, 0, none⟩) (Kd.R_far (p := ⟨gb988, 1, none⟩) (Kd.R_types (Kd.R_types HO991.out BK988.out (by decide)) BK987.out (by decide)) (fun _ hk => hk.1.2) (.slice Ao16 t992.length co16)) (fun _ hk => hk.2) (.slice Ao11 t989.length co11)) (fun _ hk => hk.2) (.slice Ao16 t992.length co16)) (fun _ hk => hk.1.1.2))), (rw_ (Kd.R_mono (Kd.R_far (p := ⟨gb987, 1, none⟩) (Kd.R_far (p := ⟨gb987, 0, none⟩) (Kd.R_far (p := ⟨gb988, 1, none⟩) (Kd.R_types (Kd.R_types HO994.out BK988.out (by decide)) BK987.out (by decide)) (fun _ hk => hk.1.2) (.slice Ao16 t992.length co16)) (fun _ hk => hk.2) (.slice Ao11 t989.length co11)) (fun _ hk => hk.2) (.slice Ao16 t992.length co16)) (fun _ hk => hk.1.1.2))), hB_⟩
end Go.Proofs.Ytoijcallajegfaa.A
end
section
namespace Go.Proofs.Ytoijcallajegfaa.A
open Go.RowKit Go.Proofs.YtoijcallajegfaaW.PrintWords Go.Proofs.YtoijcallajegfaaW.PrintLast Go.Proofs.YtoijcallajegfaaW.PrintMore
attribute [local go_sem] max2_int min2_int max_two min_two max_three min_three max_four min_four
set_option linter.unusedVariables false
set_option linter.unusedSimpArgs false
def impl_PermOk.l0 : Nat → List Int → List Bool → Int → Option Bool
  | 0, _, _, _ => none
  | k + 1, l, s, i => if i < (l.length : Int) then (if 0 ≤ i then (if rd l i < 0 then some false else (if rd l i ≥ (l.length : Int) then some false else (if rdOf false s (rd l i) = true then some false else impl_PermOk.l0 k l (s.set (rd l i).toNat true) (wrap64 (i + 1))))) else none) else some true
def impl_PermOk.f (k : Nat) (l0 : List Int) : Option Bool := if (l0.length : Int) > 24 then some false else impl_PermOk.l0 k l0 (List.replicate 24 false) 0
theorem impl_PermOk.mono_l : ∀ k, (∀ y0 y1 y2, LeO (impl_PermOk.l0 k y0 y1 y2) (impl_PermOk.l0 (k + 1) y0 y1 y2))
  | 0 => fun _ _ _ r h => by simp [impl_PermOk.l0] at h
  | k + 1 => by
    have ih0 := impl_PermOk.mono_l k
    · intro y0 y1 y2
      unfold impl_PermOk.l0
      repeat' first|exact ih0 _ _ _|exact lo_|refine LeO.ite ?_ ?_|refine LeO.bind ?_ (fun _ => ?_)
theorem impl_PermOk.mono : ∀ a0 k, LeO (impl_PermOk.f k a0) (impl_PermOk.f (k + 1) a0) := by
  intro a0 k
  unfold impl_PermOk.f
  exact LeO.ite (LeO.refl _) (impl_PermOk.mono_l k _ _ _)
def Z24 : Array Value := #[Value.bool false, Value.bool false, Value.bool false, Value.bool false, Value.bool false, Value.bool false, Value.bool false, Value.bool false, Value.bool false, Value.bool false, Value.bool false, Value.bool false, Value.bool false, Value.bool false, Value.bool false, Value.bool false, Value.bool false, Value.bool false, Value.bool false, Value.bool false, Value.bool false, Value.bool false, Value.bool false, Value.bool false]
theorem row_same (w : World) (g : Nat) (t : TypeId) (cur : Array Value) (hg : w.heap[g]? = some (.cells cur t (0, 0))) : w.setRow g cur = w := by
  have hv : ∀ h, w.heap[g]'h = .cells cur t (0, 0) := fun h => (Array.getElem?_eq_some_iff.1 hg).2
  unfold World.setRow
  cases w with
  | mk heap tape drawn os output =>
    congr 1
    apply Array.ext
    · simp
    · intro k h1 h2
      simp only [Array.getElem_modify]
      split
      · rename_i hk; subst hk; simp at hv; simp [hv h2]
      · rfl
theorem wpList_val {P : Program} {ops : Array Oper} {rest : List Oper} {o : Oper} {a : Act} {Q : Exit → Act → World → Prop} {w : World} (hg : o.guard = none) (v : Value) (w1 : World) (hrun : (execOp a.eval o).run P w = .ok (.value v) w1) (h : wpList P ops Q rest (a.put o.dst v) w1) : wpList P ops Q (o :: rest) a w :=
  wpList_plain hg fun K hK => by unfold Oper.wp; rw [hrun]; exact hK _ _ h
theorem perm_start (w : World) : Kd.R Kd.bool 137 (w.alloc (.cells Z24 137)) w.heap.size (fun _ => True) (.slice (some ⟨w.heap.size, 0, none⟩) 24 24) (List.replicate 24 false) := by
  have h := World.ownsRow_lit (base := w.heap.size) (e := 137) (size := 1) w Z24 24 (Nat.le_refl _) (by unfold maxLen; omega) rfl
  exact Kd.R_of_own (xs := List.replicate 24 false) h (fun _ _ => trivial)
set_option maxHeartbeats 8000000 in
set_option maxRecDepth 100000 in
theorem impl_PermOk.calls (k : Nat) (A0 : Option Addr) (c0 : Nat) (l0 : List Int) (r : Bool) (w : World) (hr0 : Kd.C (Kd.int .i64) w A0 l0.length l0) (hc0 : l0.length ≤ c0) (h : impl_PermOk.f k l0 = some r) :
    Calls Try.prog 109 #[.slice A0 l0.length c0] w fun e w' => e = .returned (.bool r) ∧ Below w.heap.size w w' := by
  have HR0 := Aside0.mk hr0
  have HC0 := Aside0.mk hc0
  clear hr0 hc0
  have hst := perm_start w
  have HST := Aside0.mk hst
  clear hst
  have hb0 : Below w.heap.size w (w.alloc (.cells Z24 137)) := (Below.refl _ _).alloc (Nat.le_refl _) _
  have HB0 := Aside0.mk hb0
  clear hb0
  unfold impl_PermOk.f at h
  by_cases c2 : (l0.length : Int) > 24
  · rw [if_pos c2] at h
    have c2b0 : decide (24 < (l0.length : Int)) = true := decide_eq_true c2
    have c2b1 : decide (24 < l0.length) = true := decide_eq_true (by omega)
    clear c2
    obtain rfl := Option.some.inj h
    go_enter Try.func109, Try.ntmps109
    go_upto_region 1 with (fail)
    refine wp_region_lit ?_
    refine wpList_val rfl (.agg Z24) w (by as_aux_lemma => kernel_rfl) ?_
    refine wpList_val rfl (.pointer (some ⟨w.heap.size, 0, none⟩)) (w.alloc (.cells Z24 137)) (by as_aux_lemma => kernel_rfl) ?_
    refine wpList_store_row rfl 137 (.tmp 3) (.tmp 6) rfl w.heap.size Z24 rfl rfl 137 Z24 (heap_alloc_new _ _) (by as_aux_lemma => kernel_rfl) rfl (by as_aux_lemma => kernel_rfl) ?_
    rw [row_same _ _ _ _ (heap_alloc_new _ _)]
    generalize w.alloc (.cells Z24 137) = wq at HB0 ⊢
    generalize Value.agg Z24 = ag
    go_wp2
    go_ret
    exact ⟨rfl, HB0.out⟩
  · rw [if_neg c2] at h
    have hn : l0.length ≤ 24 := by omega
    have HN := Aside0.mk hn
    clear hn
    have c2b0 : decide (24 < (l0.length : Int)) = false := decide_eq_false c2
    have c2b1 : decide (24 < l0.length) = false := decide_eq_false (by omega)
    clear c2
    have H' := Aside0.mk h
    clear h
    go_enter Try.func109, Try.ntmps109
    go_upto_region 1 with (fail)
    refine wp_region_lit ?_
    refine wpList_val rfl (.agg Z24) w (by as_aux_lemma => kernel_rfl) ?_
    refine wpList_val rfl (.pointer (some ⟨w.heap.size, 0, none⟩)) (w.alloc (.cells Z24 137)) (by as_aux_lemma => kernel_rfl) ?_
    refine wpList_store_row rfl 137 (.tmp 3) (.tmp 6) rfl w.heap.size Z24 rfl rfl 137 Z24 (heap_alloc_new _ _) (by as_aux_lemma => kernel_rfl) rfl (by as_aux_lemma => kernel_rfl) ?_
    rw [row_same _ _ _ _ (heap_alloc_new _ _)]
    generalize w.alloc (.cells Z24 137) = wq at HB0 HST ⊢
    generalize Value.agg Z24 = ag
    go_wp2
    go_loopg [12] k (fun kq v12 w' => ∃ (s : List Bool) (i : Int), v12 = .int .i64 i ∧ Aside0 (impl_PermOk.l0 kq l0 s i = some r) ∧ Aside0 (kq ≤ k) ∧ Aside0 (s.length = 24) ∧ Aside0 (Kd.R Kd.bool 137 w' w.heap.size (fun _ => True) (.slice (some ⟨w.heap.size, 0, none⟩) 24 24) s) ∧ Aside0 (Below w.heap.size w w'))
    case atStart => exact ⟨List.replicate 24 false, 0, rfl, H', ⟨Nat.le_refl _⟩, ⟨rfl⟩, HST, HB0⟩
    case round =>
      clear H' HST HB0
      obtain ⟨s, i, rfl, HA, HK1, HS, HO, HB⟩ := hrel
      cases gk with
      | zero => exact absurd HA.out (by simp [impl_PermOk.l0])
      | succ k1 =>
        have H := HA.out
        clear HA
        simp only [impl_PermOk.l0] at H
        by_cases c3 : i < (l0.length : Int)
        · rw [if_pos c3] at H
          have c4 := cp_ H
          replace H := ca_ H
          have c3b0 := decide_eq_true c3
          have c4b0 := decide_eq_true c4
          obtain ⟨ad, e0, hx⟩ := Kd.at_int HR0.out i c4 c3
          cases e0
          replace hx := (HB.out.cell (World.block_lt_of_cell? w _ hx)).trans hx
          replace c3 := eq_true c3
          replace c4 := eq_true c4
          by_cases c5 : rd l0 i < 0
          · rw [if_pos c5] at H
            have c5b0 := decide_eq_true c5
            clear c5
            obtain rfl := Option.some.inj H
            go_wp2
            go_ret
            exact ⟨rfl, HB.out⟩
          · rw [if_neg c5] at H
            have c5b0 := decide_eq_false c5
            by_cases c6 : rd l0 i ≥ (l0.length : Int)
            · rw [if_pos c6] at H
              have c6b0 : decide ((l0.length : Int) ≤ rd l0 i) = true := decide_eq_true c6
              clear c5 c6
              obtain rfl := Option.some.inj H
              go_wp2
              go_ret
              exact ⟨rfl, HB.out⟩
            · rw [if_neg c6] at H
              have c6b0 : decide ((l0.length : Int) ≤ rd l0 i) = false := decide_eq_false c6
              have p1 : 0 ≤ rd l0 i := by omega
              have p2 : rd l0 i < ((24 : Nat) : Int) := by have := HN.out; omega
              have p2' : rd l0 i < 24 := p2
              obtain ⟨hy, hz⟩ := Kd.R_celln false HO.out (rd l0 i) p1 p2
              have p1b : decide (0 ≤ rd l0 i) = true := decide_eq_true p1
              have p2b : decide (rd l0 i < 24) = true := decide_eq_true p2'
              clear c5 c6
              by_cases c7 : rdOf false s (rd l0 i) = true
              · rw [if_pos c7] at H
                rw [c7] at hy
                clear c7
                obtain rfl := Option.some.inj H
                go_wp2
                go_ret
                exact ⟨rfl, HB.out⟩
              · rw [if_neg c7] at H
                replace c7 := Bool.eq_false_iff.mpr c7
                rw [c7] at hy
                clear c7
                have H' := Aside0.mk H
                clear H
                have HP := Kd.R_putg HO.out (rd l0 i) true
                have HP' := Aside0.mk HP
                clear HP
                go_wp2
                go_roundg k1
                case measure => have := HK1.out; omega
                case rel => exact ⟨s.set (rd l0 i).toNat true, wrap64 (i + 1), rfl, H', ⟨by have := HK1.out; omega⟩, ⟨by rw [List.length_set]; exact HS.out⟩, ⟨HP'.out.1⟩, ⟨below_set HB.out (Nat.le_refl _)⟩⟩
        · rw [if_neg c3] at H
          have c3b0 := decide_eq_false c3
          clear c3
          obtain rfl := Option.some.inj H
          go_wp2
          go_ret
          exact ⟨rfl, HB.out⟩
end Go.Proofs.Ytoijcallajegfaa.A
end
section
namespace Go.Proofs.Ytoijcallajegfaa.A
open Go.RowKit Go.Proofs.YtoijcallajegfaaW.PrintWords Go.Proofs.YtoijcallajegfaaW.PrintLast Go.Proofs.YtoijcallajegfaaW.PrintMore
attribute [local go_sem] max2_int min2_int max_two min_two max_three min_three max_four min_four
set_option linter.unusedVariables false
set_option linter.unusedSimpArgs false
mutual
def impl_IsTransitive.j0 : Nat → List Int → List Int → Bool → Option (Bool)
  | 0, _, _, _ => none
  | k + 1, x0, x1, x29 => if x29 = true then (some false) else (if 0 ≤ (x0.length : Int) then (if ((x0.length : Int) : Int).toNat ≤ 281474976710656 then ((some (List.replicate ((x0.length : Int) : Int).toNat false : List Bool)).bind fun y117 => (if 0 < (y117.length : Int) then (impl_IsTransitive.l0 k x0 x1 (y117.set (0 : Int).toNat true) (([0] : List Int)) 0) else (none))) else (none)) else (none))
def impl_IsTransitive.l0 : Nat → List Int → List Int → List Bool → List Int → Int → Option (Bool)
  | 0, _, _, _, _, _ => none
  | k + 1, x0, x1, x5, x6, x7 => if x7 < (x6.length : Int) then (if 0 ≤ x7 then (if 0 ≤ (rd x6 x7) then (if (rd x6 x7) < (x0.length : Int) then (if (rd x6 x7) < (x1.length : Int) then ((some (([rd x0 (rd x6 x7), rd x1 (rd x6 x7)] : List Int) : List Int)).bind fun y128 => (impl_IsTransitive.l1 k x0 x1 x5 x6 x7 y128 (y128.length : Int) 0)) else (none)) else (none)) else (none)) else (none)) else (some ((x6.length : Int) == (x0.length : Int)))
def impl_IsTransitive.l1 : Nat → List Int → List Int → List Bool → List Int → Int → List Int → Int → Int → Option (Bool)
  | 0, _, _, _, _, _, _, _, _ => none
  | k + 1, x0, x1, x5, x6, x7, x56, x57, x58 => if x58 < x57 then (if 0 ≤ x58 then (if x58 < (x56.length : Int) then (if 0 ≤ (rd x56 x58) then (if (rd x56 x58) < (x5.length : Int) then (if (rdOf false x5 (rd x56 x58) = true) then (impl_IsTransitive.l1 k x0 x1 x5 x6 x7 x56 x57 (wrap64 (x58 + 1))) else (if x6.length < 17592186044416 then (impl_IsTransitive.l1 k x0 x1 (x5.set ((rd x56 x58) : Int).toNat true) (x6 ++ [rd x56 x58]) x7 x56 x57 (wrap64 (x58 + 1))) else (none))) else (none)) else (none)) else (none)) else (none)) else (impl_IsTransitive.l0 k x0 x1 x5 x6 (wrap64 (x7 + 1)))
end
def impl_IsTransitive.f (k : Nat) (l0 : List Int) (l1 : List Int) : Option (Bool) := (impl_PermOk.f k l0).bind fun t115 => (if t115 = true then ((impl_PermOk.f k l1).bind fun t116 => (if t116 = true then (if (l0.length : Int) = (l1.length : Int) then (impl_IsTransitive.j0 k l0 l1 ((l0.length : Int) == 0)) else (impl_IsTransitive.j0 k l0 l1 true)) else (impl_IsTransitive.j0 k l0 l1 true))) else (impl_IsTransitive.j0 k l0 l1 true))
theorem impl_IsTransitive.mono_l : ∀ k, (∀ y0 y1 y2, LeO (impl_IsTransitive.j0 k y0 y1 y2) (impl_IsTransitive.j0 (k + 1) y0 y1 y2)) ∧ (∀ y0 y1 y2 y3 y4, LeO (impl_IsTransitive.l0 k y0 y1 y2 y3 y4) (impl_IsTransitive.l0 (k + 1) y0 y1 y2 y3 y4)) ∧ (∀ y0 y1 y2 y3 y4 y5 y6 y7, LeO (impl_IsTransitive.l1 k y0 y1 y2 y3 y4 y5 y6 y7) (impl_IsTransitive.l1 (k + 1) y0 y1 y2 y3 y4 y5 y6 y7))
  | 0 => ⟨fun _ _ _ r h => by simp [impl_IsTransitive.j0] at h, fun _ _ _ _ _ r h => by simp [impl_IsTransitive.l0] at h, fun _ _ _ _ _ _ _ _ r h => by simp [impl_IsTransitive.l1] at h⟩
  | k + 1 => by
    obtain ⟨ih0, ih1, ih2⟩ := impl_IsTransitive.mono_l k
    refine ⟨?_, ?_, ?_⟩
    · intro y0 y1 y2
      unfold impl_IsTransitive.j0
      repeat' first|exact ih0 _ _ _|exact ih1 _ _ _ _ _|exact ih2 _ _ _ _ _ _ _ _|exact impl_PermOk.mono _ _|exact lo_|refine LeO.ite ?_ ?_|refine LeO.bind ?_ (fun _ => ?_)
    · intro y0 y1 y2 y3 y4
      unfold impl_IsTransitive.l0
      repeat' first|exact ih0 _ _ _|exact ih1 _ _ _ _ _|exact ih2 _ _ _ _ _ _ _ _|exact impl_PermOk.mono _ _|exact lo_|refine LeO.ite ?_ ?_|refine LeO.bind ?_ (fun _ => ?_)
    · intro y0 y1 y2 y3 y4 y5 y6 y7
      unfold impl_IsTransitive.l1
      repeat' first|exact ih0 _ _ _|exact ih1 _ _ _ _ _|exact ih2 _ _ _ _ _ _ _ _|exact impl_PermOk.mono _ _|exact lo_|refine LeO.ite ?_ ?_|refine LeO.bind ?_ (fun _ => ?_)
theorem impl_IsTransitive.mono : ∀ a0 a1 k, LeO (impl_IsTransitive.f k a0 a1) (impl_IsTransitive.f (k + 1) a0 a1) := by
  intro a0 a1 k
  obtain ⟨ih0, ih1, ih2⟩ := impl_IsTransitive.mono_l k
  unfold impl_IsTransitive.f
  repeat' first|exact ih0 _ _ _|exact ih1 _ _ _ _ _|exact ih2 _ _ _ _ _ _ _ _|exact impl_PermOk.mono _ _|exact lo_|refine LeO.ite ?_ ?_|refine LeO.bind ?_ (fun _ => ?_)
def impl_IsTransitive.T9 : Bool × List (List Nat × List Nat) := (true, [([], []), ([], []), ([], []), ([1, 2], [1, 2]), ([3], [3]), ([0, 4], [0, 4]), ([5], [5]), ([], []), ([], []), ([], []), ([8, 9], [8, 9]), ([10], [10]), ([7, 11], [7, 11]), ([12], [12]), ([6, 13], [6, 13]), ([14], [14]), ([], [])])
def impl_IsTransitive.B9 : List Nat := [0, 0, 0, 6, 14, 31, 63, 0, 0, 0, 768, 1792, 3968, 8064, 16383, 32767, 0]
theorem impl_IsTransitive.tab9 : rtab .any (opsOf Try.f61 9) = impl_IsTransitive.T9 := by kernel_rfl
theorem impl_IsTransitive.bits9 : waitsOk impl_IsTransitive.T9.2 impl_IsTransitive.B9 = true := by kernel_rfl
set_option maxHeartbeats 8000000 in
set_option maxRecDepth 100000 in
theorem impl_IsTransitive.calls (k : Nat) (A0 : Option Addr) (c0 : Nat) (l0 : List Int) (A1 : Option Addr) (c1 : Nat) (l1 : List Int) (r : Bool) (w : World) (hr0 : Kd.C (Kd.int .i64) w A0 l0.length l0) (hc0 : l0.length ≤ c0) (hr1 : Kd.C (Kd.int .i64) w A1 l1.length l1) (hc1 : l1.length ≤ c1) (h : impl_IsTransitive.f k l0 l1 = some r) :
    Calls Try.prog 61 #[.slice A0 l0.length c0, .slice A1 l1.length c1] w fun e w' => e = .returned (.bool r) ∧ Below w.heap.size w w' := by
  have HR0 := Aside0.mk hr0
  have HC0 := Aside0.mk hc0
  clear hr0 hc0
  have HR1 := Aside0.mk hr1
  have HC1 := Aside0.mk hc1
  clear hr1 hc1
  have HB := Aside0.mk (Below.refl w.heap.size w)
  have H := h
  unfold impl_IsTransitive.f at H
  clear h
  have HC3 := Aside0.mk H
  clear H
  go_enter Try.func61, Try.ntmps61
  go_upto_region 1 with (fail)
  go_cut [29] (fun v29 wc => ∃ (kq : Nat) (x29_2 : Bool), v29 = .bool x29_2 ∧ Aside0 (impl_IsTransitive.j0 kq l0 l1 x29_2 = some r) ∧ Aside0 (kq ≤ k) ∧ Aside0 (Below w.heap.size w wc))
  case first =>
    have H := HC3.out
    clear HC3
    obtain ⟨t115, A4, H⟩ := bi_ H
    by_cases c5 : t115 = true
    · subst c5
      rw [if_pos rfl] at H
      obtain ⟨t116, A6, H⟩ := bi_ H
      by_cases c7 : t116 = true
      · subst c7
        rw [if_pos rfl] at H
        by_cases c8 : (l0.length : Int) = (l1.length : Int)
        · rw [if_pos c8] at H
          have c8b0 : ((l0.length : Int) == (l1.length : Int)) = true := beq_iff_eq.mpr c8
          have c8b1 : ((l0.length : Int) != (l1.length : Int)) = false := bne_eq_false_iff_eq.mpr c8
          have c8b2 : (l0.length == l1.length) = true := by first | simpa using c8 | (simp at c8 ⊢; omega)
          clear c8
          (first | rw [c8b0] | (simp only [i64_w, i32_w]; rw [c8b0]) | skip)
          have H' := Aside0.mk H
          clear H
          go_wp2_with (first | ((with_reducible refine gate_callee (f := 109) rfl ?_); refine gL_ (some 11) Try.func109 #[.slice A0 l0.length c0] rfl qa_ ?_; (with_reducible refine (impl_PermOk.calls k _ _ l0 true _ (cb_ HR0) HC0.out A4.out).mono ?_); rintro e w9 ⟨rfl, hb⟩; refine ⟨_, rfl, ?_⟩; replace HB := b1_ hb; clear hb) | (go_at_call 109; (with_reducible refine (impl_PermOk.calls k _ _ l1 true _ (cb_ HR1) HC1.out A6.out).mono ?_); rintro e w10 ⟨rfl, hb⟩; replace HB := b1_ hb; clear hb))
          go_meet
          case rel => exact ⟨_, (((l0.length : Int) == 0)), qc_, H', ⟨qd_⟩, ⟨hB_⟩⟩
        · rw [if_neg c8] at H
          have c8b0 : ((l0.length : Int) == (l1.length : Int)) = false := beq_eq_false_iff_ne.mpr c8
          have c8b1 : ((l0.length : Int) != (l1.length : Int)) = true := bne_iff_ne.mpr c8
          have c8b2 : (l0.length == l1.length) = false := by first | simpa using c8 | (simp at c8 ⊢; omega)
          (first | rw [c8b0] | (simp only [i64_w, i32_w]; rw [c8b0]) | skip)
          have H' := Aside0.mk H
          clear H
          go_wp2_with (first | ((with_reducible refine gate_callee (f := 109) rfl ?_); refine gL_ (some 11) Try.func109 #[.slice A0 l0.length c0] rfl qa_ ?_; (with_reducible refine (impl_PermOk.calls k _ _ l0 true _ (cb_ HR0) HC0.out A4.out).mono ?_); rintro e w11 ⟨rfl, hb⟩; refine ⟨_, rfl, ?_⟩; replace HB := b1_ hb; clear hb) | (go_at_call 109; (with_reducible refine (impl_PermOk.calls k _ _ l1 true _ (cb_ HR1) HC1.out A6.out).mono ?_); rintro e w12 ⟨rfl, hb⟩; replace HB := b1_ hb; clear hb))
          go_meet
          case rel => exact ⟨_, (true), qc_, H', ⟨qd_⟩, ⟨hB_⟩⟩
      · replace c7 := Bool.eq_false_iff.mpr c7
        subst c7
        have H1 : (impl_IsTransitive.j0 k l0 l1 true) = some r := by rw [if_neg (show ¬ (false = true) by decide)] at H; exact H
        clear H
        have H := H1
        clear H1
        have H' := Aside0.mk H
        clear H
        go_wp2_with (first | ((with_reducible refine gate_callee (f := 109) rfl ?_); refine gL_ (some 11) Try.func109 #[.slice A0 l0.length c0] rfl qa_ ?_; (with_reducible refine (impl_PermOk.calls k _ _ l0 true _ (cb_ HR0) HC0.out A4.out).mono ?_); rintro e w13 ⟨rfl, hb⟩; refine ⟨_, rfl, ?_⟩; replace HB := b1_ hb; clear hb) | (go_at_call 109; (with_reducible refine (impl_PermOk.calls k _ _ l1 false _ (cb_ HR1) HC1.out A6.out).mono ?_); rintro e w14 ⟨rfl, hb⟩; replace HB := b1_ hb; clear hb))
        go_meet
        case rel => exact ⟨_, (true), qc_, H', ⟨qd_⟩, ⟨hB_⟩⟩
    · replace c5 := Bool.eq_false_iff.mpr c5
      subst c5
      have H1 : (impl_IsTransitive.j0 k l0 l1 true) = some r := by rw [if_neg (show ¬ (false = true) by decide)] at H; exact H
      clear H
      have H := H1
      clear H1
      have H' := Aside0.mk H
      clear H
      go_wp2_with (first | ((with_reducible refine gate_callee (f := 109) rfl ?_); refine gL_ (some 11) Try.func109 #[.slice A0 l0.length c0] rfl qa_ ?_; (with_reducible refine (impl_PermOk.calls k _ _ l0 false _ (cb_ HR0) HC0.out A4.out).mono ?_); rintro e w15 ⟨rfl, hb⟩; refine ⟨_, rfl, ?_⟩; replace HB := b1_ hb; clear hb))
      go_meet
      case rel => exact ⟨_, (true), qc_, H', ⟨qd_⟩, ⟨hB_⟩⟩
  case rest =>
    clear HC3
    obtain ⟨kq, x29_2, rfl, HA, HJ2, HB⟩ := hcut
    cases kq with
    | zero => exact absurd HA.out (by simp [impl_IsTransitive.j0])
    | succ kj2 =>
      have H := HA.out
      clear HA
      simp only [impl_IsTransitive.j0] at H
      by_cases c16 : x29_2 = true
      · subst c16
        rw [if_pos rfl] at H
        obtain rfl := Option.some.inj H
        go_wp2
        go_ret
        exact ⟨qb_, hB_⟩
      · replace c16 := Bool.eq_false_iff.mpr c16
        subst c16
        have H1 : (if 0 ≤ (l0.length : Int) then (if ((l0.length : Int) : Int).toNat ≤ 281474976710656 then ((some (List.replicate ((l0.length : Int) : Int).toNat false : List Bool)).bind fun y117 => (if 0 < (y117.length : Int) then (impl_IsTransitive.l0 kj2 l0 l1 (y117.set (0 : Int).toNat true) (([0] : List Int)) 0) else (none))) else (none)) else (none)) = some r := by rw [if_neg (show ¬ (false = true) by decide)] at H; exact H
        clear H
        have H := H1
        clear H1
        have c17 := cp_ H
        replace H := ca_ H
        have c17b0 := eq_true c17
        have c17b1 := decide_eq_true c17
        clear c17
        have c18 := cp_ H
        replace H := ca_ H
        have c18b0 := eq_true c18
        have c18b1 := decide_eq_true c18
        clear c18
        obtain ⟨y117, hy117⟩ : ∃ y_ : List Bool, y_ = (List.replicate ((l0.length : Int) : Int).toNat false) := ⟨_, rfl⟩
        replace H : (if 0 < (y117.length : Int) then (impl_IsTransitive.l0 kj2 l0 l1 (y117.set (0 : Int).toNat true) (([0] : List Int)) 0) else (none)) = some r := by first | (rw [hy117]; exact H) | exact H
        have Ny117 := Aside0.mk hy117
        clear hy117
        have c19 := cp_ H
        replace H := ca_ H
        have c19b0 := decide_eq_true c19
        have c19b1 : decide (0 < y117.length) = true := decide_eq_true (by omega)
        clear c19
        obtain ⟨y120, hy120⟩ : ∃ y_ : List Bool, y_ = (y117.set (0 : Int).toNat true) := ⟨_, rfl⟩
        replace H : (impl_IsTransitive.l0 kj2 l0 l1 y120 (([0] : List Int)) 0) = some r := by first | (rw [hy120]; exact H) | exact H
        have Ny120 := Aside0.mk hy120
        clear hy120
        obtain ⟨y121, hy121⟩ : ∃ y_ : List Int, y_ = (([0] : List Int)) := ⟨_, rfl⟩
        replace H : (impl_IsTransitive.l0 kj2 l0 l1 y120 y121 0) = some r := by first | (rw [hy121]; exact H) | exact H
        have Ny121 := Aside0.mk hy121
        clear hy121
        have H' := Aside0.mk H
        clear H
        go_wp2_with (first | ((with_reducible refine gate_dst (N := 32) rfl ?_); (try (refine gate_guard (by rfl) ?_; dsimp only)); refine Kd.R_make Kd.bool _ 4 rfl (N := 32) rfl 111 _ _ rfl (l0.length : Int) rfl rfl Try.underlying111 (.bool false) 1 info4 rfl (by decide) (by omega) false (ok := fun _ => True) (okp := fun _ => True) rfl (fun _ hk => hk) trivial (of_decide_eq_true qe_) (Nat.le_trans (Nat.mul_le_mul_right _ (of_decide_eq_true qe_ : (l0.length : Int).toNat ≤ 281474976710656)) (by omega)) (Below.refl _ _) (Nat.le_refl _) ?_; intro v118 w21 ho22 hb hg_ hnew_; clear hg_ hnew_; (first | rw [← Ny117.out] at ho22 | (simp only [Int.reduceToNat] at ho22; rw [← Ny117.out] at ho22)); have HO119 := rl_ w ho22; replace HB := b1_ hb; clear hb ho22; have p20 : 0 ≤ (0 : Int) := (by omega); have q20 : (0 : Int) < ((y117.length : Int) : Int) := of_decide_eq_true qe_; have qi20 : (0 < y117.length) = True := eq_true (by omega); obtain ⟨go20, co20, eo20, gb20, gl20, cl20, HG20⟩ := Kd.R_form HO119.out (by omega); (first | cases eo20 | (injection eo20 with ea_ en_ ec_; (first | subst ea_ | (injection ea_ with ea_; subst ea_)); subst ec_; clear en_)); have GB20 := Aside0.mk gb20; have GG20 := Aside0.mk HG20; clear gb20 gl20 HG20; obtain ⟨hx20_0, hf20_0⟩ := Kd.R_celln false HO119.out (0 : Int) p20 q20; (try rw [show ((0 : Int)).toNat = 0 from rfl] at hx20_0); (try simp only [Nat.reduceMul, Nat.zero_mul, Nat.zero_add, Nat.reduceAdd] at hx20_0); (try rw [show ((0 : Int)).toNat = 0 from rfl] at hf20_0); (try simp only [Nat.reduceMul, Nat.zero_mul, Nat.zero_add, Nat.reduceAdd] at hf20_0); replace p20 := eq_true p20; replace q20 := eq_true q20; obtain ⟨hy23_, hz23_⟩ := Kd.R_celln false HO119.out (0 : Int) (by omega) (of_decide_eq_true qe_); (try simp only [Int.reduceToNat, Int.toNat_zero, Int.toNat_ofNat, Nat.reduceMul, Nat.zero_mul, Nat.zero_add] at hy23_ hz23_); (try rw [show ((0 : Int)).toNat = 0 from rfl] at hy23_); (try rw [show ((0 : Int)).toNat = 0 from rfl] at hz23_); have HP23 := Kd.R_putg HO119.out (0 : Int) true) | ((with_reducible refine gate_store (t := 4) (p := 34) rfl ?_); refine store_event (t := 4) (p := 34) (v := ?vo_w24) (w1 := (w21.setCell ⟨go20, (0 : Int).toNat, none⟩ (.bool true))) ?hg ?ho ?hn ?hr ?_; (case ho => rfl); (case hg => rfl); (case hn => rfl); (case hr => first | (go_simp; done) | (go_simp; rfl)); intro w24 hw; have hg : w21.grownBy w24 (some go20) := (by rw [hw]; exact HP23.2); have hp_ : Kd.R Kd.bool 4 w24 w.heap.size (fun _ => True) (.slice (some ⟨go20, 0, none⟩) y117.length co20) y120 := (by rw [hw, Ny120.out]; exact HP23.1); clear HP23; replace HO119 := Aside0.mk (hp_); replace HB := Aside0.mk ((by rw [hw]; exact below_set (HB.out) GB20.out : Below w.heap.size w w24)); clear hg hw hp_) | ((with_reducible refine gate_dst (N := 35) rfl ?_); (try (refine gate_guard (by rfl) ?_; dsimp only)); refine Kd.R_lit (Kd.int .i64) _ 3 ?hg (N := 35) ?hd (xs := ([0] : List Int)) (inner := [.int .i64 0]) (ok := fun _ => True) (okp := fun _ => True) ?hr ?hp (fun _ hk => hk) trivial (Below.refl _ _) (Nat.le_refl _) (by simp) ?_; (case hd => rfl); (case hg => rfl); (case hr => first | (go_simp; done) | (go_simp; rfl)); (case hp => exact (Reps.one (show Kd.M (Kd.int .i64) _ _ _ 0 [.int .i64 0] from rfl) (Reps.none _ _))); intro v122 w25 ho26 hb hg_ hnew_; clear hg_ hnew_; (first | rw [← Ny121.out] at ho26 | (simp only [Int.reduceToNat] at ho26; rw [← Ny121.out] at ho26)); replace HO119 := rb_ HO119 hb; have HO123 := rl_ w ho26; replace HB := b1_ hb; clear hb ho26))
        go_loopg [6, 7] kj2 (fun kq v6 v7 w' => ∃ (x5_2 : List Bool) (x6_2 : List Int) (x7_2 : Int), v7 = .int .i64 x7_2 ∧ Aside0 (impl_IsTransitive.l0 kq l0 l1 x5_2 x6_2 x7_2 = some r) ∧ Aside0 (kq ≤ kj2) ∧ Aside0 (Kd.R Kd.bool 4 w' w.heap.size (fun _ => True) (.slice (some ⟨go20, 0, none⟩) y117.length co20) x5_2) ∧ Aside0 (Kd.R (Kd.int .i64) 3 w' w.heap.size (fun _ => True) v6 x6_2) ∧ Aside0 (Below w.heap.size w w'))
        case atStart => exact ⟨(y120), (y121), (0), qc_, H', ⟨Nat.le_refl _⟩, ⟨(rr_ HO119)⟩, ⟨(rr_ HO123)⟩, ⟨hB_⟩⟩
        case round =>
          clear H'
          obtain ⟨x5_2, x6_2, x7_2, rfl, HA, HK2, HO_5, HO_6, HB⟩ := hrel
          have hl5_2 := (Kd.R_reads' HO_5.out).1
          rw [hl5_2] at HO_5
          (try simp only [hl5_2])
          (try simp only [hl5_2] at HO_6)
          cases gk with
          | zero => exact absurd HA.out (by simp [impl_IsTransitive.l0])
          | succ k2 =>
            have H := HA.out
            clear HA
            simp only [impl_IsTransitive.l0] at H
            by_cases c27 : x7_2 < (x6_2.length : Int)
            · rw [if_pos c27] at H
              have c27b0 := decide_eq_true c27
              clear c27
              have c28 := cp_ H
              replace H := ca_ H
              have c28b0 := decide_eq_true c28
              clear c28
              have c29 := cp_ H
              replace H := ca_ H
              have c29b0 := decide_eq_true c29
              clear c29
              have c30 := cp_ H
              replace H := ca_ H
              have c30b0 := decide_eq_true c30
              clear c30
              have c31 := cp_ H
              replace H := ca_ H
              have c31b0 := decide_eq_true c31
              clear c31
              obtain ⟨y128, hy128⟩ : ∃ y_ : List Int, y_ = (([rd l0 (rd x6_2 x7_2), rd l1 (rd x6_2 x7_2)] : List Int)) := ⟨_, rfl⟩
              replace H : (impl_IsTransitive.l1 k2 l0 l1 x5_2 x6_2 x7_2 y128 (y128.length : Int) 0) = some r := by first | (rw [hy128]; exact H) | exact H
              have Ny128 := Aside0.mk hy128
              clear hy128
              have H' := Aside0.mk H
              clear H
              obtain ⟨Ao32, co32, eo32⟩ := Kd.R_slice HO_6.out
              subst eo32
              try go_wp2
              replace HO_5 := Aside0.mk (Kd.R_drew HO_5.out)
              replace HO_6 := Aside0.mk (Kd.R_drew HO_6.out)
              replace HB := Aside0.mk (below_drew1 HB.out)
              have p124 : 0 ≤ (x7_2 : Int) := of_decide_eq_true qe_
              have q124 : x7_2 < (x6_2.length : Int) := of_decide_eq_true qe_
              obtain ⟨ad124, e124, hx124_0⟩ := Kd.at_int (Kd.R_reads' HO_6.out).2.2 x7_2 p124 q124
              cases e124
              replace p124 := eq_true p124
              replace q124 := eq_true q124
              have p125 : 0 ≤ ((rd x6_2 x7_2) : Int) := of_decide_eq_true qe_
              have q125 : (rd x6_2 x7_2) < (l0.length : Int) := of_decide_eq_true qe_
              obtain ⟨ad125, e125, hx125_0⟩ := Kd.at_int HR0.out (rd x6_2 x7_2) p125 q125
              have hw125_0 := hx125_0
              cases e125
              replace hx125_0 := (HB.out.cell (World.block_lt_of_cell? w _ hx125_0)).trans hx125_0
              replace p125 := eq_true p125
              replace q125 := eq_true q125
              have p126 : 0 ≤ (x7_2 : Int) := of_decide_eq_true qe_
              have q126 : x7_2 < (x6_2.length : Int) := of_decide_eq_true qe_
              obtain ⟨ad126, e126, hx126_0⟩ := Kd.at_int (Kd.R_reads' HO_6.out).2.2 x7_2 p126 q126
              obtain rfl : ad124 = ad126 := (by injection e126)
              replace p126 := eq_true p126
              replace q126 := eq_true q126
              have p127 : 0 ≤ ((rd x6_2 x7_2) : Int) := of_decide_eq_true qe_
              have q127 : (rd x6_2 x7_2) < (l1.length : Int) := of_decide_eq_true qe_
              obtain ⟨ad127, e127, hx127_0⟩ := Kd.at_int HR1.out (rd x6_2 x7_2) p127 q127
              have hw127_0 := hx127_0
              cases e127
              replace hx127_0 := (HB.out.cell (World.block_lt_of_cell? w _ hx127_0)).trans hx127_0
              replace p127 := eq_true p127
              replace q127 := eq_true q127
              refine start_ (n := 17) (S := fun w' => w'.cell? (ad124.add (x7_2).toNat) = some (.int .i64 (rd x6_2 x7_2)) ∧ w'.cell? (ad125.add ((rd x6_2 x7_2)).toNat) = some (.int .i64 (rd l0 (rd x6_2 x7_2))) ∧ w'.cell? (ad124.add (x7_2).toNat) = some (.int .i64 (rd x6_2 x7_2)) ∧ w'.cell? (ad127.add ((rd x6_2 x7_2)).toNat) = some (.int .i64 (rd l1 (rd x6_2 x7_2)))) (ds := []) (bl_ 17 0) (by kernel_rfl) rfl (by kernel_rfl) ⟨hx124_0, ((HB.out.cell (World.block_lt_of_cell? w _ hw125_0)).trans hw125_0), hx126_0, ((HB.out.cell (World.block_lt_of_cell? w _ hw127_0)).trans hw127_0)⟩ (fun hHeld => ?_); refine with_tabW impl_IsTransitive.tab9 impl_IsTransitive.bits9 (fun HT_ HW_ => ?_)
              generalize wr.drew = w33 at HO_5 HO_6 HB hx124_0 hx125_0 hx126_0 hx127_0 hHeld ⊢
              refine pu_ 0 (some 42) (bl_ 17 1) HT_ ?_
              refine pu_ 1 (some 43) (bl_ 17 3) HT_ ?_
              refine pu_ 2 (some 44) (bl_ 17 7) HT_ ?_
              refine pu_ 3 (some 45) (bl_ 17 15) HT_ ?_
              refine pu_ 7 (some 49) (bl_ 17 143) HT_ ?_
              refine pu_ 8 (some 50) (bl_ 17 399) HT_ ?_
              refine pu_ 9 (some 51) (bl_ 17 911) HT_ ?_
              refine pu_ 10 (some 52) (bl_ 17 1935) HT_ ?_
              refine pu_ 16 (some 58) (bl_ 17 67471) HT_ ?_
              refine ta_ 4 (some 46) (bl_ 17 67487) HT_ HW_ hHeld ?_
              refine pu_ 5 (some 47) (bl_ 17 67519) HT_ ?_
              refine ta_ 6 (some 48) (bl_ 17 67583) HT_ HW_ hHeld ?_
              refine ta_ 11 (some 53) (bl_ 17 69631) HT_ HW_ hHeld ?_
              refine pu_ 12 (some 54) (bl_ 17 73727) HT_ ?_
              refine ta_ 13 (some 55) (bl_ 17 81919) HT_ HW_ hHeld ?_
              refine on_ 14 (some 56) (bl_ 17 98303) HT_ (fun K hK => ?_)
              refine Kd.R_lit_step (Kd.int .i64) _ 3 ?hg (N := 56) ?hd (xs := ([rd l0 (rd x6_2 x7_2), rd l1 (rd x6_2 x7_2)] : List Int)) (inner := [.int .i64 (rd l0 (rd x6_2 x7_2)), .int .i64 (rd l1 (rd x6_2 x7_2))]) (ok := fun _ => True) (okp := fun _ => True) ?hr ?hp (fun _ hk => hk) trivial (Below.refl _ _) (Nat.le_refl _) (by simp) ?_; (case hd => rfl); (case hg => rfl); (case hr => first | (go_simp; done) | (go_simp; rfl)); (case hp => exact (Reps.one (show Kd.M (Kd.int .i64) _ _ _ (rd l0 (rd x6_2 x7_2)) [.int .i64 (rd l0 (rd x6_2 x7_2))] from rfl) (Reps.one (show Kd.M (Kd.int .i64) _ _ _ (rd l1 (rd x6_2 x7_2)) [.int .i64 (rd l1 (rd x6_2 x7_2))] from rfl) (Reps.none _ _))))
              intro v129 w34 ho35 hb hg_ hnew_
              have HS0_ := (hb.cell (World.block_lt_of_cell? _ _ (hHeld.1))).trans (hHeld.1)
              have HS2_ := (hb.cell (World.block_lt_of_cell? _ _ (hHeld.2.2.1))).trans (hHeld.2.2.1)
              clear hg_ hnew_
              (first | rw [← Ny128.out] at ho35 | (simp only [Int.reduceToNat] at ho35; rw [← Ny128.out] at ho35))
              replace HO_5 := rb_ HO_5 hb
              have HO130 := Aside0.mk (Kd.R_lower (Kd.R_new' ho35 (Kd.R_lt (rr_ HO_6))) (below_size hB_))
              replace HO_6 := Aside0.mk (Kd.R_elder' (rr_ HO_6) (Kd.R_base ho35) hb)
              replace HB := b1_ hb
              clear hb ho35
              obtain ⟨Ao36, co36, eo36⟩ := Kd.R_slice HO130.out
              (first | subst eo36 | (injection eo36 with f1_ f2_ f3_; have f4_ := f1_.symm; have f5_ := f3_.symm; clear f1_ f2_ f3_; subst f4_; subst f5_))
              refine hK.out _ _ ⟨HS0_, ((HB.out.cell (World.block_lt_of_cell? w _ hw125_0)).trans hw125_0), HS2_, ((HB.out.cell (World.block_lt_of_cell? w _ hw127_0)).trans hw127_0)⟩ (fun hHeld => ?_)
              clear hK K
              refine no_ (some 56) ?_
              refine pu_ 15 (some 57) (bl_ 17 131071) HT_ ?_
              refine done_ (done_of HT_.out (by kernel_rfl)) ?_
              try go_wp2
              go_loopg [6, 58] k2 (fun kq v6 v58 w' => ∃ (x5_3 : List Bool) (x6_3 : List Int) (x58_3 : Int), v58 = .int .i64 x58_3 ∧ Aside0 (impl_IsTransitive.l1 kq l0 l1 x5_3 x6_3 x7_2 y128 (y128.length : Int) x58_3 = some r) ∧ Aside0 (kq ≤ k2) ∧ Aside0 (Kd.R Kd.bool 4 w' w.heap.size (fun _ => True) (.slice (some ⟨go20, 0, none⟩) x5_2.length co20) x5_3) ∧ Aside0 (Kd.R (Kd.int .i64) 3 w' w.heap.size (fun k_ => some k_ ≠ ((.slice Ao36 y128.length co36) : Value).ownBlock) v6 x6_3) ∧ Aside0 (Kd.R (Kd.int .i64) 3 w' w.heap.size (fun k_ => some k_ ≠ (v6 : Value).ownBlock) (.slice Ao36 y128.length co36) y128) ∧ Aside0 (Below w.heap.size w w'))
              case atStart => exact ⟨(x5_2), (x6_2), (0), qc_, H', ⟨Nat.le_refl _⟩, ⟨by (try simp only [hl5_2]); (with_reducible repeat (first | apply Kd.R_alloc | apply Kd.R_drewN | apply Kd.R_drew)); exact HO_5.out⟩, ⟨by (try simp only [hl5_2]); (with_reducible repeat (first | apply Kd.R_alloc | apply Kd.R_drewN | apply Kd.R_drew)); exact Kd.R_mono HO_6.out (fun _ hk => hk.2)⟩, ⟨by (try simp only [hl5_2]); (with_reducible repeat (first | apply Kd.R_alloc | apply Kd.R_drewN | apply Kd.R_drew)); exact Kd.R_mono HO130.out (fun _ hk => hk.2)⟩, ⟨hB_⟩⟩
              case round =>
                clear H'
                obtain ⟨x5_3, x6_3, x58_3, rfl, HA, HK3, HO_5, HO_6, HO_56, HB⟩ := hrel
                have hl5_3 := (Kd.R_reads' HO_5.out).1
                rw [hl5_3] at HO_5
                (try simp only [hl5_3])
                (try simp only [hl5_3] at HO_6)
                (try simp only [hl5_3] at HO_56)
                cases gk with
                | zero => exact absurd HA.out (by simp [impl_IsTransitive.l1])
                | succ k3 =>
                  have H := HA.out
                  clear HA
                  simp only [impl_IsTransitive.l1] at H
                  by_cases c37 : x58_3 < (y128.length : Int)
                  · rw [if_pos c37] at H
                    have c37b0 := decide_eq_true c37
                    clear c37
                    have c38 := cp_ H
                    replace H := ca_ H
                    have c38b0 := decide_eq_true c38
                    clear c38
                    have c39 := cp_ H
                    replace H := ca_ H
                    have c39b0 := decide_eq_true c39
                    clear c39
                    have c40 := cp_ H
                    replace H := ca_ H
                    have c40b0 := decide_eq_true c40
                    clear c40
                    have c41 := cp_ H
                    replace H := ca_ H
                    have c41b0 := decide_eq_true c41
                    clear c41
                    obtain ⟨bq42, hbq42⟩ : ∃ b_ : Bool, b_ = (rdOf false x5_3 (rd y128 x58_3)) := ⟨_, rfl⟩
                    replace H : (if (bq42 = true) then (impl_IsTransitive.l1 k3 l0 l1 x5_3 x6_3 x7_2 y128 (y128.length : Int) (wrap64 (x58_3 + 1))) else (if x6_3.length < 17592186044416 then (impl_IsTransitive.l1 k3 l0 l1 (x5_3.set ((rd y128 x58_3) : Int).toNat true) (x6_3 ++ [rd y128 x58_3]) x7_2 y128 (y128.length : Int) (wrap64 (x58_3 + 1))) else (none))) = some r := by rw [← hbq42] at H; exact H
                    have Nbq42 := Aside0.mk hbq42
                    clear hbq42
                    by_cases c43 : (bq42 = true)
                    · subst c43
                      rw [if_pos rfl] at H
                      have H' := Aside0.mk H
                      clear H
                      have p131 : 0 ≤ (x58_3 : Int) := of_decide_eq_true qe_
                      have q131 : x58_3 < (y128.length : Int) := of_decide_eq_true qe_
                      obtain ⟨ad131, e131, hx131_0⟩ := Kd.at_int (Kd.R_reads' HO_56.out).2.2 x58_3 p131 q131
                      cases e131
                      replace p131 := eq_true p131
                      replace q131 := eq_true q131
                      have p132 : 0 ≤ ((rd y128 x58_3) : Int) := of_decide_eq_true qe_
                      have q132 : (rd y128 x58_3) < (x5_3.length : Int) := of_decide_eq_true qe_
                      obtain ⟨ad132, e132, hx132_0⟩ := Kd.at_bool (Kd.R_reads' HO_5.out).2.2 (rd y128 x58_3) p132 q132
                      (try rw [← Nbq42.out] at hx132_0)
                      obtain rfl : (⟨go20, 0, none⟩ : Addr) = ad132 := (by injection e132)
                      (first | simp only [add_plain] at hx132_0 | simp only [add_at] at hx132_0 | simp only [Addr.add, Nat.zero_add] at hx132_0 | skip)
                      replace p132 := eq_true p132
                      replace q132 := eq_true q132
                      go_wp2
                      (try simp only [← hl5_3])
                      go_roundg k3
                      case measure => have := HJ2.out; have := HK2.out; have := HK3.out; omega
                      case rel => exact ⟨(x5_3), (x6_3), (wrap64 (x58_3 + 1)), qc_, H', ⟨by have := HJ2.out; have := HK2.out; have := HK3.out; omega⟩, ⟨by (try simp only [hl5_2]); (try simp only [hl5_3]); (with_reducible repeat (first | apply Kd.R_alloc | apply Kd.R_drewN | apply Kd.R_drew)); exact HO_5.out⟩, ⟨by (try simp only [hl5_2]); (try simp only [hl5_3]); (with_reducible repeat (first | apply Kd.R_alloc | apply Kd.R_drewN | apply Kd.R_drew)); exact HO_6.out⟩, ⟨by (try simp only [hl5_2]); (try simp only [hl5_3]); (with_reducible repeat (first | apply Kd.R_alloc | apply Kd.R_drewN | apply Kd.R_drew)); exact HO_56.out⟩, ⟨hB_⟩⟩
                    · replace c43 := Bool.eq_false_iff.mpr c43
                      subst c43
                      have H1 : (if x6_3.length < 17592186044416 then (impl_IsTransitive.l1 k3 l0 l1 (x5_3.set ((rd y128 x58_3) : Int).toNat true) (x6_3 ++ [rd y128 x58_3]) x7_2 y128 (y128.length : Int) (wrap64 (x58_3 + 1))) else (none)) = some r := by rw [if_neg (show ¬ (false = true) by decide)] at H; exact H
                      clear H
                      have H := H1
                      clear H1
                      obtain ⟨y133, hy133⟩ : ∃ y_ : List Bool, y_ = (x5_3.set ((rd y128 x58_3) : Int).toNat true) := ⟨_, rfl⟩
                      replace H : (if x6_3.length < 17592186044416 then (impl_IsTransitive.l1 k3 l0 l1 y133 (x6_3 ++ [rd y128 x58_3]) x7_2 y128 (y128.length : Int) (wrap64 (x58_3 + 1))) else (none)) = some r := by first | (rw [hy133]; exact H) | exact H
                      have Ny133 := Aside0.mk hy133
                      clear hy133
                      have c45 := cp_ H
                      replace H := ca_ H
                      have LMc45 := Aside0.mk c45
                      clear c45
                      obtain ⟨y134, hy134⟩ : ∃ y_ : List Int, y_ = (x6_3 ++ [rd y128 x58_3]) := ⟨_, rfl⟩
                      replace H : (impl_IsTransitive.l1 k3 l0 l1 y133 y134 x7_2 y128 (y128.length : Int) (wrap64 (x58_3 + 1))) = some r := by first | (rw [hy134]; exact H) | exact H
                      have Ny134 := Aside0.mk hy134
                      clear hy134
                      have H' := Aside0.mk H
                      clear H
                      have p131 : 0 ≤ (x58_3 : Int) := of_decide_eq_true qe_
                      have q131 : x58_3 < (y128.length : Int) := of_decide_eq_true qe_
                      obtain ⟨ad131, e131, hx131_0⟩ := Kd.at_int (Kd.R_reads' HO_56.out).2.2 x58_3 p131 q131
                      cases e131
                      replace p131 := eq_true p131
                      replace q131 := eq_true q131
                      have p132 : 0 ≤ ((rd y128 x58_3) : Int) := of_decide_eq_true qe_
                      have q132 : (rd y128 x58_3) < (x5_3.length : Int) := of_decide_eq_true qe_
                      obtain ⟨ad132, e132, hx132_0⟩ := Kd.at_bool (Kd.R_reads' HO_5.out).2.2 (rd y128 x58_3) p132 q132
                      (try rw [← Nbq42.out] at hx132_0)
                      obtain rfl : (⟨go20, 0, none⟩ : Addr) = ad132 := (by injection e132)
                      (first | simp only [add_plain] at hx132_0 | simp only [add_at] at hx132_0 | simp only [Addr.add, Nat.zero_add] at hx132_0 | skip)
                      replace p132 := eq_true p132
                      replace q132 := eq_true q132
                      have p44 : 0 ≤ ((rd y128 x58_3) : Int) := of_decide_eq_true qe_
                      have q44 : ((rd y128 x58_3) : Int) < ((x5_3.length : Int) : Int) := of_decide_eq_true qe_
                      obtain ⟨hx44_0, hf44_0⟩ := Kd.R_celln false HO_5.out ((rd y128 x58_3) : Int) p44 q44
                      replace p44 := eq_true p44
                      replace q44 := eq_true q44
                      have HP46 := Kd.R_putg HO_5.out ((rd y128 x58_3) : Int) true
                      go_wp2_with (first | ((with_reducible refine gate_store (t := 4) (p := 69) rfl ?_); refine store_event (t := 4) (p := 69) (v := ?vo_w47) (w1 := (wr.setCell ⟨go20, ((rd y128 x58_3) : Int).toNat, none⟩ (.bool true))) ?hg ?ho ?hn ?hr ?_; (case ho => rfl); (case hg => rfl); (case hn => rfl); (case hr => first | (go_simp; done) | (go_simp; rfl)); intro w47 hw; have hg : wr.grownBy w47 (some go20) := (by rw [hw]; exact HP46.2); have hp_ : Kd.R Kd.bool 4 w47 w.heap.size (fun _ => True) (.slice (some ⟨go20, 0, none⟩) x5_3.length co20) y133 := (by rw [hw, Ny133.out]; exact HP46.1); clear HP46; replace HO_6 := Aside0.mk (Kd.R_over' (v := (.slice (some ⟨go20, 0, none⟩) x5_3.length co20)) (rr_ HO_6) (Kd.R_typed HO_5.out) (by decide) hg); replace HO_56 := Aside0.mk (Kd.R_over' (v := (.slice (some ⟨go20, 0, none⟩) x5_3.length co20)) (rr_ HO_56) (Kd.R_typed HO_5.out) (by decide) hg); replace HO_5 := Aside0.mk (hp_); replace HB := Aside0.mk ((by rw [hw]; exact below_set (HB.out) GB20.out : Below w.heap.size w w47)); clear hg hw hp_) | ((with_reducible refine gate_builtin (b := .append) (xs := #[.tmp 70, .tmp 72]) rfl ?_); (try (refine gate_guard (by rfl) ?_; dsimp only)); at_builtin; refine Kd.R_append (Kd.int .i64) (w0 := w) w.heap.size rfl (.tmp 70) (.tmp 72) 23 3 (.int .i64 0) 8 rfl Try.underlying23 info3 rfl (by decide) (by omega) u6 x6_3 (rd y128 x58_3) [.int .i64 (rd y128 x58_3)] (fun k_ => some k_ ≠ (.slice (some ad131) y128.length co36 : Value).ownBlock) (fun _ => False) rfl rfl ?aP (fun _ hk => hk.elim) ?aF ?aO ?aB ?aS ?aL ?_; (case aP => exact rfl); (case aB => exact hB_); (case aF => exact (fun k_ hk => Kd.fresh' (Kd.R_lt (rr_ HO_56)) k_ hk)); (case aO => exact (rr_ HO_6)); (case aS => exact (below_size hB_)); (case aL => have := LMc45.out; omega); intro v135 w48 ho hb hg hat; rw [← Ny134.out] at ho; replace HO_5 := Aside0.mk (Kd.R_over' (rr_ HO_5) (Kd.R_typed (rr_ HO_6)) (by decide) hg); replace HO_56 := Aside0.mk (Kd.R_after (ok := (fun _ => True)) (rw_ (Kd.R_mono HO_56.out (fun _ hk => ⟨trivial, hk⟩))) hg hat); replace HB := Aside0.mk hb; have HO136 := Aside0.mk ho; clear HO_6; clear ho hb hg hat))
                      (try simp only [← hl5_3])
                      go_roundg k3
                      case measure => have := HJ2.out; have := HK2.out; have := HK3.out; omega
                      case rel => exact ⟨(y133), (y134), (wrap64 (x58_3 + 1)), qc_, H', ⟨by have := HJ2.out; have := HK2.out; have := HK3.out; omega⟩, ⟨by (try simp only [hl5_2]); (try simp only [hl5_3]); (with_reducible repeat (first | apply Kd.R_alloc | apply Kd.R_drewN | apply Kd.R_drew)); exact HO_5.out⟩, ⟨by (try simp only [hl5_2]); (try simp only [hl5_3]); (with_reducible repeat (first | apply Kd.R_alloc | apply Kd.R_drewN | apply Kd.R_drew)); exact HO136.out⟩, ⟨by (try simp only [hl5_2]); (try simp only [hl5_3]); (with_reducible repeat (first | apply Kd.R_alloc | apply Kd.R_drewN | apply Kd.R_drew)); exact Kd.R_mono HO_56.out (fun _ hk => hk.2)⟩, ⟨hB_⟩⟩
                  · rw [if_neg c37] at H
                    have c37b0 := decide_eq_false c37
                    clear c37
                    have H' := Aside0.mk H
                    clear H
                    go_wp2
                    (try simp only [← hl5_2, ← hl5_3])
                    go_roundg k3
                    case measure => have := HJ2.out; have := HK2.out; have := HK3.out; omega
                    case rel => exact ⟨(x5_3), (x6_3), (wrap64 (x7_2 + 1)), qc_, H', ⟨by have := HJ2.out; have := HK2.out; have := HK3.out; omega⟩, ⟨by (try simp only [hl5_2]); (try simp only [hl5_3]); (with_reducible repeat (first | apply Kd.R_alloc | apply Kd.R_drewN | apply Kd.R_drew)); exact HO_5.out⟩, ⟨by (try simp only [hl5_2]); (try simp only [hl5_3]); (with_reducible repeat (first | apply Kd.R_alloc | apply Kd.R_drewN | apply Kd.R_drew)); exact Kd.R_mono HO_6.out (fun _ hk => trivial)⟩, ⟨hB_⟩⟩
            · rw [if_neg c27] at H
              have c27b0 := decide_eq_false c27
              clear c27
              obtain rfl := Option.some.inj H
              obtain ⟨Ao49, co49, eo49⟩ := Kd.R_slice HO_6.out
              subst eo49
              go_wp2
              go_ret
              exact ⟨qb_, hB_⟩
end Go.Proofs.Ytoijcallajegfaa.A
end
section
namespace Go.Proofs.Ytoijcallajegfaa.A
open Go.RowKit Go.Proofs.YtoijcallajegfaaW.PrintWords Go.Proofs.YtoijcallajegfaaW.PrintLast Go.Proofs.YtoijcallajegfaaW.PrintMore
attribute [local go_sem] max2_int min2_int max_two min_two max_three min_three max_four min_four
set_option linter.unusedVariables false
set_option linter.unusedSimpArgs false
def impl_SurfaceOk.f (k : Nat) (l0_0 : List Int) (l0_1 : List Int) : Option (Bool) := (impl_IsTransitive.f k l0_0 l0_1).bind fun t138 => (some t138)
theorem impl_SurfaceOk.mono : ∀ a0 a1 k, LeO (impl_SurfaceOk.f k a0 a1) (impl_SurfaceOk.f (k + 1) a0 a1) := by
  intro a0 a1 k
  unfold impl_SurfaceOk.f
  repeat' first|exact impl_IsTransitive.mono _ _ _|exact lo_|refine LeO.ite ?_ ?_|refine LeO.bind ?_ (fun _ => ?_)
set_option maxHeartbeats 8000000 in
set_option maxRecDepth 100000 in
theorem impl_SurfaceOk.calls (k : Nat) (A0_0 : Option Addr) (c0_0 : Nat) (l0_0 : List Int) (A0_1 : Option Addr) (c0_1 : Nat) (l0_1 : List Int) (r : Bool) (w : World) (hr0_0 : Kd.C (Kd.int .i64) w A0_0 l0_0.length l0_0) (hc0_0 : l0_0.length ≤ c0_0) (hr0_1 : Kd.C (Kd.int .i64) w A0_1 l0_1.length l0_1) (hc0_1 : l0_1.length ≤ c0_1) (h : impl_SurfaceOk.f k l0_0 l0_1 = some r) :
    Calls Try.prog 19 #[.agg #[.slice A0_0 l0_0.length c0_0, .slice A0_1 l0_1.length c0_1]] w fun e w' => e = .returned (.bool r) ∧ Below w.heap.size w w' := by
  have hu33 := Try.underlying33
  have HR0_0 := Aside0.mk hr0_0
  have HC0_0 := Aside0.mk hc0_0
  clear hr0_0 hc0_0
  have HR0_1 := Aside0.mk hr0_1
  have HC0_1 := Aside0.mk hc0_1
  clear hr0_1 hc0_1
  have HB := Aside0.mk (Below.refl w.heap.size w)
  have H := h
  unfold impl_SurfaceOk.f at H
  clear h
  obtain ⟨t138, A2, H⟩ := bi_ H
  obtain rfl := Option.some.inj H
  go_enter Try.func19, Try.ntmps19
  go_wp2_with (first | ((with_reducible refine gate_dst (N := 1) rfl ?_); refine bx_ 1 #[.slice A0_0 l0_0.length c0_0, .slice A0_1 l0_1.length c0_1] 33 ?_; intro gb137 hg w3 hbox hb; have BK137 := Aside0.mk hbox; have GW137 := gw_ w hg; have GE137 := GW137; replace HB := b1_ hb; clear hb hbox hg; obtain ⟨hcz4_0, hcz4_1, hfz4_0, hfz4_1⟩ := c2_ BK137) | ((with_reducible refine gate_callee (f := 61) rfl ?_); refine gL_ (some 7) Try.func61 #[.slice A0_0 l0_0.length c0_0, .slice A0_1 l0_1.length c0_1] rfl qa_ ?_; (with_reducible refine (impl_IsTransitive.calls k _ _ l0_0 _ _ l0_1 t138 _ (cb_ HR0_0) HC0_0.out (cb_ HR0_1) HC0_1.out A2.out).mono ?_); rintro e w5 ⟨rfl, hb⟩; refine ⟨_, rfl, ?_⟩; replace BK137 := bb_ BK137 hb; replace HB := b1_ hb; clear hb))
  go_ret
  exact ⟨qb_, hB_⟩
end Go.Proofs.Ytoijcallajegfaa.A
end
section
namespace Go.Proofs.Ytoijcallajegfaa.A
open Go.RowKit Go.Proofs.YtoijcallajegfaaW.PrintWords Go.Proofs.YtoijcallajegfaaW.PrintLast Go.Proofs.YtoijcallajegfaaW.PrintMore
attribute [local go_sem] max2_int min2_int max_two min_two max_three min_three max_four min_four
set_option linter.unusedVariables false
set_option linter.unusedSimpArgs false
def stringslite_IndexByte.f (s : ByteArray) (c : Int) : Option Int := some (Lib.indexByte s.data.toList c.toNat.toUInt8)
set_option maxHeartbeats 8000000 in
set_option maxRecDepth 100000 in
theorem stringslite_IndexByte.calls (a0 : ByteArray) (a1 : Int) (r : Int) (w : World) (h : stringslite_IndexByte.f a0 a1 = some r) :
    Calls Try.prog 151 #[.string a0, .int .u8 a1] w fun e w' => e = .returned (.int .i64 r) ∧ Below w.heap.size w w' := by
  unfold stringslite_IndexByte.f at h
  obtain rfl := Option.some.inj h
  clear h
  go_enter Try.func151, Try.ntmps151
  go_wp2
  rw [run_callFunc_extern Try.func183 (by kernel_rfl) (by kernel_rfl) (by kernel_rfl) (e := Extern.BytealgIndexByte.indexByte) (by kernel_rfl), Lib.run_indexByteString]
  simp only [Result.andThen]
  rw [Oper.upon_value]
  go_wp2
  go_ret
  exact ⟨rfl, by repeat (first | (with_reducible first | exact Below.refl _ _ | apply below_alloc | apply pw_below_drewN | apply below_drew1) | exact Below.refl _ _)⟩
end Go.Proofs.Ytoijcallajegfaa.A
end
section
namespace Go.Proofs.Ytoijcallajegfaa.A
open Go.RowKit Go.Proofs.YtoijcallajegfaaW.PrintWords Go.Proofs.YtoijcallajegfaaW.PrintLast Go.Proofs.YtoijcallajegfaaW.PrintMore
attribute [local go_sem] max2_int min2_int max_two min_two max_three min_three max_four min_four
set_option linter.unusedVariables false
set_option linter.unusedSimpArgs false
def strings_IndexByte.f (a0 : ByteArray) (a1 : Int) : Option (Int) := (stringslite_IndexByte.f a0 a1).bind fun t558 => (some t558)
set_option maxHeartbeats 8000000 in
set_option maxRecDepth 100000 in
theorem strings_IndexByte.calls (a0 : ByteArray) (a1 : Int) (r : Int) (w : World) (h : strings_IndexByte.f a0 a1 = some r) :
    Calls Try.prog 113 #[.string a0, .int .u8 a1] w fun e w' => e = .returned (.int .i64 r) ∧ Below w.heap.size w w' := by
  have HB := Aside0.mk (Below.refl w.heap.size w)
  have H := h
  unfold strings_IndexByte.f at H
  clear h
  obtain ⟨t558, A3, H⟩ := bi_ H
  obtain rfl := Option.some.inj H
  go_enter Try.func113, Try.ntmps113
  go_wp2_with (first | ((with_reducible refine gate_callee (f := 151) rfl ?_); refine gL_ (some 7) Try.func151 #[.string a0, .int .u8 a1] rfl qa_ ?_; (with_reducible refine (stringslite_IndexByte.calls a0 a1 t558 _ A3.out).mono ?_); rintro e w4 ⟨rfl, hb⟩; refine ⟨_, rfl, ?_⟩; replace HB := b1_ hb; clear hb))
  go_ret
  exact ⟨qb_, hB_⟩
end Go.Proofs.Ytoijcallajegfaa.A
end
section
namespace Go.Proofs.Ytoijcallajegfaa.A
open Go.RowKit Go.Proofs.YtoijcallajegfaaW.PrintWords Go.Proofs.YtoijcallajegfaaW.PrintLast Go.Proofs.YtoijcallajegfaaW.PrintMore
attribute [local go_sem] max2_int min2_int max_two min_two max_three min_three max_four min_four
set_option linter.unusedVariables false
set_option linter.unusedSimpArgs false
def impl_WordOk.l0 : Nat → ByteArray → Int → Option (Bool)
  | 0, _, _ => none
  | k + 1, x0, x3 => if x3 < (x0.size : Int) then (if 0 ≤ x3 then ((strings_IndexByte.f (⟨#[84, 116, 83, 115]⟩ : ByteArray) (bt x0 x3)).bind fun t559 => (if t559 < 0 then (some false) else (impl_WordOk.l0 k x0 (wrap64 (x3 + 1))))) else (none)) else (some (decide ((x0.size : Int) ≤ 40)))
def impl_WordOk.f (k : Nat) (a0 : ByteArray) : Option (Bool) := impl_WordOk.l0 k a0 0
theorem impl_WordOk.mono_l : ∀ k, (∀ y0 y1, LeO (impl_WordOk.l0 k y0 y1) (impl_WordOk.l0 (k + 1) y0 y1))
  | 0 => fun _ _ r h => by simp [impl_WordOk.l0] at h
  | k + 1 => by
    have ih0 := impl_WordOk.mono_l k
    · intro y0 y1
      unfold impl_WordOk.l0
      repeat' first|exact ih0 _ _|exact lo_|refine LeO.ite ?_ ?_|refine LeO.bind ?_ (fun _ => ?_)
theorem impl_WordOk.mono : ∀ a0 k, LeO (impl_WordOk.f k a0) (impl_WordOk.f (k + 1) a0) := by
  intro a0 k
  have ih0 := impl_WordOk.mono_l k
  unfold impl_WordOk.f
  repeat' first|exact ih0 _ _|exact lo_|refine LeO.ite ?_ ?_|refine LeO.bind ?_ (fun _ => ?_)
set_option maxHeartbeats 8000000 in
set_option maxRecDepth 100000 in
theorem impl_WordOk.calls (k : Nat) (a0 : ByteArray) (r : Bool) (w : World) (h : impl_WordOk.f k a0 = some r) :
    Calls Try.prog 68 #[.string a0] w fun e w' => e = .returned (.bool r) ∧ Below w.heap.size w w' := by
  have HB := Aside0.mk (Below.refl w.heap.size w)
  have H := h
  unfold impl_WordOk.f at H
  clear h
  have H' := Aside0.mk H
  clear H
  go_enter Try.func68, Try.ntmps68
  go_wp2
  go_loopg [3] k (fun kq v3 w' => ∃ (x3_1 : Int), v3 = .int .i64 x3_1 ∧ Aside0 (impl_WordOk.l0 kq a0 x3_1 = some r) ∧ Aside0 (kq ≤ k) ∧ Aside0 (Below w.heap.size w w'))
  case atStart => exact ⟨(0), qc_, H', ⟨Nat.le_refl _⟩, ⟨hB_⟩⟩
  case round =>
    clear H'
    obtain ⟨x3_1, rfl, HA, HK1, HB⟩ := hrel
    cases gk with
    | zero => exact absurd HA.out (by simp [impl_WordOk.l0])
    | succ k1 =>
      have H := HA.out
      clear HA
      simp only [impl_WordOk.l0] at H
      by_cases c2 : x3_1 < (a0.size : Int)
      · rw [if_pos c2] at H
        have c2b0 := decide_eq_true c2
        clear c2
        have c3 := cp_ H
        replace H := ca_ H
        have c3b0 := decide_eq_true c3
        clear c3
        obtain ⟨t559, A5, H⟩ := bi_ H
        by_cases c6 : t559 < 0
        · rw [if_pos c6] at H
          have c6b0 := decide_eq_true c6
          clear c6
          obtain rfl := Option.some.inj H
          have p4 : 0 ≤ (x3_1 : Int) := of_decide_eq_true qe_
          have q4 : x3_1 < (a0.size : Int) := of_decide_eq_true qe_
          have hx4 := bt_at a0 x3_1
          replace p4 := eq_true p4
          replace q4 := eq_true q4
          go_wp2_with (first | ((with_reducible refine gate_callee (f := 113) rfl ?_); refine gL_ (some 13) Try.func113 #[.string (⟨#[84, 116, 83, 115]⟩ : ByteArray), .int .u8 (bt a0 x3_1)] rfl qa_ ?_; (with_reducible refine (strings_IndexByte.calls (⟨#[84, 116, 83, 115]⟩ : ByteArray) (bt a0 x3_1) t559 _ A5.out).mono ?_); rintro e w7 ⟨rfl, hb⟩; refine ⟨_, rfl, ?_⟩; replace HB := b1_ hb; clear hb))
          go_ret
          exact ⟨qb_, hB_⟩
        · rw [if_neg c6] at H
          have c6b0 := decide_eq_false c6
          clear c6
          have H' := Aside0.mk H
          clear H
          have p4 : 0 ≤ (x3_1 : Int) := of_decide_eq_true qe_
          have q4 : x3_1 < (a0.size : Int) := of_decide_eq_true qe_
          have hx4 := bt_at a0 x3_1
          replace p4 := eq_true p4
          replace q4 := eq_true q4
          go_wp2_with (first | ((with_reducible refine gate_callee (f := 113) rfl ?_); refine gL_ (some 13) Try.func113 #[.string (⟨#[84, 116, 83, 115]⟩ : ByteArray), .int .u8 (bt a0 x3_1)] rfl qa_ ?_; (with_reducible refine (strings_IndexByte.calls (⟨#[84, 116, 83, 115]⟩ : ByteArray) (bt a0 x3_1) t559 _ A5.out).mono ?_); rintro e w8 ⟨rfl, hb⟩; refine ⟨_, rfl, ?_⟩; replace HB := b1_ hb; clear hb))
          go_roundg k1
          case measure => have := HK1.out; omega
          case rel => exact ⟨(wrap64 (x3_1 + 1)), qc_, H', ⟨by have := HK1.out; omega⟩, ⟨hB_⟩⟩
      · rw [if_neg c2] at H
        have c2b0 := decide_eq_false c2
        clear c2
        obtain rfl := Option.some.inj H
        go_wp2
        go_ret
        exact ⟨qb_, hB_⟩
end Go.Proofs.Ytoijcallajegfaa.A
end
section
namespace Go.Proofs.Ytoijcallajegfaa.A
open Go.RowKit Go.Proofs.YtoijcallajegfaaW.PrintWords Go.Proofs.YtoijcallajegfaaW.PrintLast Go.Proofs.YtoijcallajegfaaW.PrintMore
attribute [local go_sem] max2_int min2_int max_two min_two max_three min_three max_four min_four
set_option linter.unusedVariables false
set_option linter.unusedSimpArgs false
def impl_copyInts.f (l0 : List Int) : Option (List Int) := (some (([] : List Int) : List Int)).bind fun y230 => (if y230.length + l0.length < 17592186044416 then (some (y230 ++ l0)) else (none))
set_option maxHeartbeats 8000000 in
set_option maxRecDepth 100000 in
theorem impl_copyInts.calls (A0 : Option Addr) (c0 : Nat) (l0 : List Int) (r : List Int) (w : World) (hr0 : Kd.C (Kd.int .i64) w A0 l0.length l0) (hc0 : l0.length ≤ c0) (h : impl_copyInts.f l0 = some r) :
    Calls Try.prog 100 #[.slice A0 l0.length c0] w fun e w' => ∃ v0_ : Value, e = .returned (v0_) ∧ Kd.R (Kd.int .i64) 3 w' w.heap.size (fun _ => True) v0_ r ∧ Below w.heap.size w w' := by
  have HR0 := Aside0.mk hr0
  have HC0 := Aside0.mk hc0
  clear hr0 hc0
  have HB := Aside0.mk (Below.refl w.heap.size w)
  have H := h
  unfold impl_copyInts.f at H
  clear h
  obtain ⟨y230, hy230⟩ : ∃ y_ : List Int, y_ = (([] : List Int)) := ⟨_, rfl⟩
  replace H : (if y230.length + l0.length < 17592186044416 then (some (y230 ++ l0)) else (none)) = some r := by first | (rw [hy230]; exact H) | exact H
  have Ny230 := Aside0.mk hy230
  clear hy230
  have c2 := cp_ H
  replace H := ca_ H
  have LMc2 := Aside0.mk c2
  clear c2
  obtain ⟨y233, hy233⟩ : ∃ y_ : List Int, y_ = (y230 ++ l0) := ⟨_, rfl⟩
  replace H : (some y233) = some r := by first | (rw [hy233]; exact H) | exact H
  have Ny233 := Aside0.mk hy233
  clear hy233
  obtain rfl := Option.some.inj H
  go_enter Try.func100, Try.ntmps100
  go_wp2_with (first | ((with_reducible refine gate_dst (N := 3) rfl ?_); refine Kd.R_lit (Kd.int .i64) _ 3 ?hg (N := 3) ?hd (xs := ([] : List Int)) (inner := []) (ok := fun _ => True) (okp := fun _ => True) ?hr ?hp (fun _ hk => hk) trivial (Below.refl _ _) (Nat.le_refl _) (by simp) ?_; (case hd => rfl); (case hg => rfl); (case hr => first | (go_simp; done) | (go_simp; rfl)); (case hp => exact (Reps.none _ _)); intro v231 w3 ho4 hb hg_ hnew_; clear hg_ hnew_; (first | rw [← Ny230.out] at ho4 | (simp only [Int.reduceToNat] at ho4; rw [← Ny230.out] at ho4)); have HO232 := rl_ w ho4; replace HB := b1_ hb; clear hb ho4) | ((with_reducible refine gate_builtin (b := .append) (xs := #[.tmp 3, .tmp 4]) rfl ?_); at_builtin; refine Kd.R_append_rows (Kd.int .i64) (w0 := w) w.heap.size rfl (.tmp 3) (.tmp 4) 23 3 (.int .i64 0) 8 rfl Try.underlying23 info3 rfl (by decide) (by omega) v231 y230 l0 _ _ _ (fun _ => True) (fun _ => False) rfl rfl ?aO ?aR (fun _ _ h => h) (fun _ h => h.elim) ?aF ?aB ?aS ?aL ?_; (case aR => exact cb_ HR0); (case aB => exact hB_); (case aF => exact (fun _ _ => trivial)); (case aO => exact (rr_ HO232)); (case aS => exact (below_size hB_)); (case aL => have := LMc2.out; omega); intro v234 w5 ho hb hg hat; rw [← Ny233.out] at ho; replace HB := Aside0.mk hb; have HO235 := Aside0.mk ho; clear HO232; clear ho hb hg hat))
  go_ret
  exact ⟨_, qb_, (rr_ HO235), hB_⟩
end Go.Proofs.Ytoijcallajegfaa.A
end
section
namespace Go.Proofs.Ytoijcallajegfaa.A
open Go.RowKit Go.Proofs.YtoijcallajegfaaW.PrintWords Go.Proofs.YtoijcallajegfaaW.PrintLast Go.Proofs.YtoijcallajegfaaW.PrintMore
attribute [local go_sem] max2_int min2_int max_two min_two max_three min_three max_four min_four
set_option linter.unusedVariables false
set_option linter.unusedSimpArgs false
def impl_copySurface.f (l0_0 : List Int) (l0_1 : List Int) : Option (List Int × List Int) := (impl_copyInts.f l0_0).bind fun t562 => ((impl_copyInts.f l0_1).bind fun t565 => (some (t562, t565)))
def impl_copySurface.T1 : Bool × List (List Nat × List Nat) := (true, [([], []), ([0], [0]), ([1], [1]), ([], []), ([3], [3]), ([4, 2], [4]), ([2, 5], [2, 5]), ([6, 5, 0, 1, 2, 3, 4, 5, 6], [6])])
def impl_copySurface.B1 : List Nat := [0, 1, 3, 0, 8, 31, 63, 127]
theorem impl_copySurface.tab1 : rtab .any (opsOf Try.f69 1) = impl_copySurface.T1 := by kernel_rfl
theorem impl_copySurface.bits1 : waitsOk impl_copySurface.T1.2 impl_copySurface.B1 = true := by kernel_rfl
set_option maxHeartbeats 8000000 in
set_option maxRecDepth 100000 in
theorem impl_copySurface.calls (A0_0 : Option Addr) (c0_0 : Nat) (l0_0 : List Int) (A0_1 : Option Addr) (c0_1 : Nat) (l0_1 : List Int) (r1 : List Int) (r2 : List Int) (w : World) (hr0_0 : Kd.C (Kd.int .i64) w A0_0 l0_0.length l0_0) (hc0_0 : l0_0.length ≤ c0_0) (hr0_1 : Kd.C (Kd.int .i64) w A0_1 l0_1.length l0_1) (hc0_1 : l0_1.length ≤ c0_1) (h : impl_copySurface.f l0_0 l0_1 = some (r1, r2)) :
    Calls Try.prog 69 #[.agg #[.slice A0_0 l0_0.length c0_0, .slice A0_1 l0_1.length c0_1]] w fun e w' => ∃ v0_ v1_ : Value, e = .returned (.agg #[v0_, v1_]) ∧ Kd.R (Kd.int .i64) 3 w' w.heap.size (fun k_ => some k_ ≠ (v1_ : Value).ownBlock) v0_ r1 ∧ Kd.R (Kd.int .i64) 3 w' w.heap.size (fun k_ => some k_ ≠ (v0_ : Value).ownBlock) v1_ r2 ∧ Below w.heap.size w w' := by
  have hu33 := Try.underlying33
  have HR0_0 := Aside0.mk hr0_0
  have HC0_0 := Aside0.mk hc0_0
  clear hr0_0 hc0_0
  have HR0_1 := Aside0.mk hr0_1
  have HC0_1 := Aside0.mk hc0_1
  clear hr0_1 hc0_1
  have HB := Aside0.mk (Below.refl w.heap.size w)
  have H := h
  unfold impl_copySurface.f at H
  clear h
  obtain ⟨t562, A2, H⟩ := bi_ H
  obtain ⟨t565, A3, H⟩ := bi_ H
  simp only [Option.some.injEq, Prod.mk.injEq] at H
  obtain ⟨rfl, rfl⟩ := H
  go_enter Try.func69, Try.ntmps69
  try go_wp2_with (first | ((with_reducible refine gate_dst (N := 1) rfl ?_); refine bx_ 1 #[.slice A0_0 l0_0.length c0_0, .slice A0_1 l0_1.length c0_1] 33 ?_; intro gb560 hg w4 hbox hb; have BK560 := Aside0.mk hbox; have GW560 := gw_ w hg; have GE560 := GW560; replace HB := b1_ hb; clear hb hbox hg) | ((with_reducible refine gate_dst (N := 2) rfl ?_); refine bx_ 2 #[.slice none 0 0, .slice none 0 0] 33 ?_; intro gb561 hg w5 hbox hb; have BK561 := Aside0.mk hbox; have GW561 := gw_ w hg; have GE561 := GW561; replace HB := b1_ hb; have NB560_561 := gN_ BK560 hg; have NB561_560 := gP_ BK560 hg; replace BK560 := bb_ BK560 hb; clear hb hbox hg))
  replace BK560 := Aside0.mk (blk_drew BK560.out)
  replace BK561 := Aside0.mk (blk_drew BK561.out)
  replace HB := Aside0.mk (below_drew1 HB.out)
  refine start_ (n := 8) (S := fun w' => w'.cell? ⟨gb560, 0, none⟩ = some (.slice A0_0 l0_0.length c0_0) ∧ w'.cell? ⟨gb560, 1, none⟩ = some (.slice A0_1 l0_1.length c0_1)) (ds := []) (bl_ 8 0) (by kernel_rfl) rfl (by kernel_rfl) ⟨cz0_ BK560, cz1_ BK560⟩ (fun hHeld => ?_); refine with_tabW impl_copySurface.tab1 impl_copySurface.bits1 (fun HT_ HW_ => ?_)
  generalize w5.drew = w6 at BK560 BK561 HB hHeld ⊢
  refine pu_ 0 (some 3) (bl_ 8 1) HT_ ?_
  refine pu_ 3 (some 6) (bl_ 8 9) HT_ ?_
  refine ta_ 1 (some 4) (bl_ 8 11) HT_ HW_ hHeld ?_
  refine ta_ 4 (some 7) (bl_ 8 27) HT_ HW_ hHeld ?_
  refine on_ 2 (some 5) (bl_ 8 31) HT_ (fun K hK => ?_)
  refine gO_ Try.func100 #[.slice A0_0 l0_0.length c0_0] (by rfl) rfl rfl qa_ ?_
  with_reducible refine (impl_copyInts.calls _ _ l0_0 t562 _ (cb_ HR0_0) HC0_0.out A2.out).mono ?_
  rintro e w7 ⟨v563, rfl, ho0, hb⟩
  refine ⟨_, rfl, ?_⟩
  have HO564 := rl_ w ho0
  replace BK560 := bb_ BK560 hb
  replace BK561 := bb_ BK561 hb
  replace HB := b1_ hb
  clear hb ho0
  refine hK.out _ _ ⟨cz0_ BK560, cz1_ BK560⟩ (fun hHeld => ?_)
  clear hK K
  refine no_ (some 5) ?_
  refine on_ 5 (some 8) (bl_ 8 63) HT_ (fun K hK => ?_)
  refine gO_ Try.func100 #[.slice A0_1 l0_1.length c0_1] (by rfl) rfl rfl qa_ ?_
  with_reducible refine (impl_copyInts.calls _ _ l0_1 t565 _ (cb_ HR0_1) HC0_1.out A3.out).mono ?_
  rintro e w8 ⟨v566, rfl, ho0, hb⟩
  refine ⟨_, rfl, ?_⟩
  have HO567 := Aside0.mk (Kd.R_lower (Kd.R_new' ho0 (Kd.R_lt (rr_ HO564))) (below_size hB_))
  replace HO564 := Aside0.mk (Kd.R_elder' (rr_ HO564) (Kd.R_base ho0) hb)
  replace BK560 := bb_ BK560 hb
  replace BK561 := bb_ BK561 hb
  replace HB := b1_ hb
  clear hb ho0
  obtain ⟨Ao9, co9, eo9⟩ := Kd.R_slice HO567.out
  (first | subst eo9 | (injection eo9 with f1_ f2_ f3_; have f4_ := f1_.symm; have f5_ := f3_.symm; clear f1_ f2_ f3_; subst f4_; subst f5_))
  obtain ⟨Ao10, co10, eo10⟩ := Kd.R_slice HO564.out
  (first | subst eo10 | (injection eo10 with f1_ f2_ f3_; have f4_ := f1_.symm; have f5_ := f3_.symm; clear f1_ f2_ f3_; subst f4_; subst f5_))
  refine hK.out _ _ ⟨cz0_ BK560, cz1_ BK560⟩ (fun hHeld => ?_)
  clear hK K
  refine no_ (some 8) ?_
  refine pu_ 6 (some 9) (bl_ 8 127) HT_ ?_
  refine on_ 7 (none) (bl_ 8 255) HT_ (fun K hK => ?_)
  have hs11 : w8.cell? ⟨gb561, 0, none⟩ = some (.slice none 0 0) := cz0_ BK561
  have hfs11 := blk_frozen BK561.out 0
  have hns11_0 := NB560_561.out
  have hms11_0 := NB561_560.out
  have hs12 : w8.cell? ⟨gb561, 1, none⟩ = some (.slice none 0 0) := cz1_ BK561
  have hfs12 := blk_frozen BK561.out 1
  have hns12_0 := NB560_561.out
  have hms12_0 := NB561_560.out
  refine skip_ (w1 := ?_) (by rfl) rfl ?_ ?_
  rotate_left
  · go_simp
    rfl
  refine hK.out _ _ ⟨((cell_far (p := ⟨gb561, _, none⟩) NB560_561.out _).trans (((cell_far (p := ⟨gb561, _, none⟩) NB560_561.out _).trans (hHeld.1)))), ((cell_far (p := ⟨gb561, _, none⟩) NB560_561.out _).trans (((cell_far (p := ⟨gb561, _, none⟩) NB560_561.out _).trans (hHeld.2))))⟩ (fun hHeld => ?_)
  clear hK K
  refine done_ (done_of HT_.out (by kernel_rfl)) ?_
  try go_wp2
  refine bodyPost_ret (results_cell_row rfl _ _ gb561 33 #[.slice Ao10 t562.length co10, .slice Ao9 t565.length co9] (0, 0) _ rfl qp_ Try.underlying33 rfl (by kernel_rfl)) rfl ?_
  exact ⟨_, _, qb_, (rw_ (Kd.R_mono (fa_ HO564 BK561) (fun _ hk => hk.2))), (rw_ (Kd.R_mono (fa_ HO567 BK561) (fun _ hk => hk.2))), hB_⟩
end Go.Proofs.Ytoijcallajegfaa.A
end
section
namespace Go.Proofs.Ytoijcallajegfaa.A
open Go.RowKit Go.Proofs.YtoijcallajegfaaW.PrintWords Go.Proofs.YtoijcallajegfaaW.PrintLast Go.Proofs.YtoijcallajegfaaW.PrintMore
attribute [local go_sem] max2_int min2_int max_two min_two max_three min_three max_four min_four
set_option linter.unusedVariables false
set_option linter.unusedSimpArgs false
def impl_InversePerm.l0 : Nat → List Int → List Int → Int → Int → Option (List Int)
  | 0, _, _, _, _ => none
  | k + 1, x3, x12, x13, x14 => if x14 < x13 then (if 0 ≤ x14 then (if x14 < (x12.length : Int) then (if 0 ≤ (rd x12 x14) then (if (rd x12 x14) < (x3.length : Int) then (impl_InversePerm.l0 k (x3.set ((rd x12 x14) : Int).toNat x14) x12 x13 (wrap64 (x14 + 1))) else (none)) else (none)) else (none)) else (none)) else (some x3)
def impl_InversePerm.f (k : Nat) (l0 : List Int) : Option (List Int) := (impl_PermOk.f k l0).bind fun t291 => (if t291 = true then (if 0 ≤ (l0.length : Int) then (if ((l0.length : Int) : Int).toNat ≤ 35184372088832 then (impl_InversePerm.l0 k (List.replicate ((l0.length : Int) : Int).toNat 0) l0 (l0.length : Int) 0) else (none)) else (none)) else (some ([] : List Int)))
theorem impl_InversePerm.mono_l : ∀ k, (∀ y0 y1 y2 y3, LeO (impl_InversePerm.l0 k y0 y1 y2 y3) (impl_InversePerm.l0 (k + 1) y0 y1 y2 y3))
  | 0 => fun _ _ _ _ r h => by simp [impl_InversePerm.l0] at h
  | k + 1 => by
    have ih0 := impl_InversePerm.mono_l k
    · intro y0 y1 y2 y3
      unfold impl_InversePerm.l0
      repeat' first|exact ih0 _ _ _ _|exact impl_PermOk.mono _ _|exact lo_|refine LeO.ite ?_ ?_|refine LeO.bind ?_ (fun _ => ?_)
theorem impl_InversePerm.mono : ∀ a0 k, LeO (impl_InversePerm.f k a0) (impl_InversePerm.f (k + 1) a0) := by
  intro a0 k
  have ih0 := impl_InversePerm.mono_l k
  unfold impl_InversePerm.f
  repeat' first|exact ih0 _ _ _ _|exact impl_PermOk.mono _ _|exact lo_|refine LeO.ite ?_ ?_|refine LeO.bind ?_ (fun _ => ?_)
set_option maxHeartbeats 8000000 in
set_option maxRecDepth 100000 in
theorem impl_InversePerm.calls (k : Nat) (A0 : Option Addr) (c0 : Nat) (l0 : List Int) (r : List Int) (w : World) (hr0 : Kd.C (Kd.int .i64) w A0 l0.length l0) (hc0 : l0.length ≤ c0) (h : impl_InversePerm.f k l0 = some r) :
    Calls Try.prog 122 #[.slice A0 l0.length c0] w fun e w' => ∃ v0_ : Value, e = .returned (v0_) ∧ Kd.R (Kd.int .i64) 3 w' w.heap.size (fun _ => True) v0_ r ∧ Below w.heap.size w w' := by
  have HR0 := Aside0.mk hr0
  have HC0 := Aside0.mk hc0
  clear hr0 hc0
  have HB := Aside0.mk (Below.refl w.heap.size w)
  have H := h
  unfold impl_InversePerm.f at H
  clear h
  obtain ⟨t291, A2, H⟩ := bi_ H
  by_cases c3 : t291 = true
  · subst c3
    rw [if_pos rfl] at H
    have c4 := cp_ H
    replace H := ca_ H
    have c4b0 := eq_true c4
    have c4b1 := decide_eq_true c4
    clear c4
    have c5 := cp_ H
    replace H := ca_ H
    have c5b0 := eq_true c5
    have c5b1 := decide_eq_true c5
    clear c5
    obtain ⟨y292, hy292⟩ : ∃ y_ : List Int, y_ = (List.replicate ((l0.length : Int) : Int).toNat 0) := ⟨_, rfl⟩
    replace H : (impl_InversePerm.l0 k y292 l0 (l0.length : Int) 0) = some r := by first | (rw [hy292]; exact H) | exact H
    have Ny292 := Aside0.mk hy292
    clear hy292
    have H' := Aside0.mk H
    clear H
    go_enter Try.func122, Try.ntmps122
    go_wp2_with (first | ((with_reducible refine gate_callee (f := 109) rfl ?_); refine gL_ (some 7) Try.func109 #[.slice A0 l0.length c0] rfl qa_ ?_; (with_reducible refine (impl_PermOk.calls k _ _ l0 true _ (cc_ HR0) HC0.out A2.out).mono ?_); rintro e w6 ⟨rfl, hb⟩; refine ⟨_, rfl, ?_⟩; replace HB := b1_ hb; clear hb) | ((with_reducible refine gate_dst (N := 11) rfl ?_); refine Kd.R_make (Kd.int .i64) _ 3 rfl (N := 11) rfl 23 _ _ rfl (l0.length : Int) rfl rfl Try.underlying23 (.int .i64 0) 8 info3 rfl (by decide) (by omega) 0 (ok := fun _ => True) (okp := fun _ => True) rfl (fun _ hk => hk) trivial (of_decide_eq_true qe_) (Nat.le_trans (Nat.mul_le_mul_right _ (of_decide_eq_true qe_ : (l0.length : Int).toNat ≤ 35184372088832)) (by omega)) (Below.refl _ _) (Nat.le_refl _) ?_; intro v293 w7 ho8 hb hg_ hnew_; clear hg_ hnew_; (first | rw [← Ny292.out] at ho8 | (simp only [Int.reduceToNat] at ho8; rw [← Ny292.out] at ho8)); have HO294 := rl_ w ho8; replace HB := b1_ hb; clear hb ho8))
    go_loopg [14] k (fun kq v14 w' => ∃ (x3_1 : List Int) (x14_1 : Int), v14 = .int .i64 x14_1 ∧ Aside0 (impl_InversePerm.l0 kq x3_1 l0 (l0.length : Int) x14_1 = some r) ∧ Aside0 (kq ≤ k) ∧ Aside0 (Kd.R (Kd.int .i64) 3 w' w.heap.size (fun _ => True) v293 x3_1) ∧ Aside0 (Below w.heap.size w w'))
    case atStart => exact ⟨(y292), (0), qc_, H', ⟨Nat.le_refl _⟩, ⟨(rr_ HO294)⟩, ⟨hB_⟩⟩
    case round =>
      clear H'
      obtain ⟨x3_1, x14_1, rfl, HA, HK1, HO_3, HB⟩ := hrel
      cases gk with
      | zero => exact absurd HA.out (by simp [impl_InversePerm.l0])
      | succ k1 =>
        have H := HA.out
        clear HA
        simp only [impl_InversePerm.l0] at H
        by_cases c9 : x14_1 < (l0.length : Int)
        · rw [if_pos c9] at H
          have c9b0 := decide_eq_true c9
          clear c9
          have c10 := cp_ H
          replace H := ca_ H
          have c10b0 := decide_eq_true c10
          clear c10
          have c11 := cp_ H
          replace H := ca_ H
          have c11b0 := decide_eq_true c11
          clear c11
          have c12 := cp_ H
          replace H := ca_ H
          have c12b0 := decide_eq_true c12
          clear c12
          have c13 := cp_ H
          replace H := ca_ H
          have c13b0 := decide_eq_true c13
          clear c13
          obtain ⟨y296, hy296⟩ : ∃ y_ : List Int, y_ = (x3_1.set ((rd l0 x14_1) : Int).toNat x14_1) := ⟨_, rfl⟩
          replace H : (impl_InversePerm.l0 k1 y296 l0 (l0.length : Int) (wrap64 (x14_1 + 1))) = some r := by first | (rw [hy296]; exact H) | exact H
          have Ny296 := Aside0.mk hy296
          clear hy296
          have H' := Aside0.mk H
          clear H
          have p295 : 0 ≤ (x14_1 : Int) := of_decide_eq_true qe_
          have q295 : x14_1 < (l0.length : Int) := of_decide_eq_true qe_
          obtain ⟨ad295, e295, hx295_0⟩ := Kd.at_int HR0.out x14_1 p295 q295
          cases e295
          replace hx295_0 := (HB.out.cell (World.block_lt_of_cell? w _ hx295_0)).trans hx295_0
          replace p295 := eq_true p295
          replace q295 := eq_true q295
          have p14 : 0 ≤ ((rd l0 x14_1) : Int) := of_decide_eq_true qe_
          have q14 : ((rd l0 x14_1) : Int) < ((x3_1.length : Int) : Int) := of_decide_eq_true qe_
          obtain ⟨go14, co14, eo14, gb14, gl14, cl14, HG14⟩ := Kd.R_form HO_3.out (by omega)
          (first | cases eo14 | (injection eo14 with ea_ en_ ec_; (first | subst ea_ | (injection ea_ with ea_; subst ea_)); subst ec_; clear en_))
          have GB14 := Aside0.mk gb14
          have GG14 := Aside0.mk HG14
          clear gb14 gl14 HG14
          obtain ⟨hx14_0, hf14_0⟩ := Kd.R_celln 0 HO_3.out ((rd l0 x14_1) : Int) p14 q14
          replace p14 := eq_true p14
          replace q14 := eq_true q14
          have HP15 := Kd.R_putg HO_3.out ((rd l0 x14_1) : Int) x14_1
          go_wp2_with (first | ((with_reducible refine gate_store (t := 3) (p := 22) rfl ?_); refine store_event (t := 3) (p := 22) (v := ?vo_w16) (w1 := (wr.setCell ⟨go14, ((rd l0 x14_1) : Int).toNat, none⟩ (.int .i64 x14_1))) ?hg ?ho ?hn ?hr ?_; (case ho => rfl); (case hg => rfl); (case hn => rfl); (case hr => first | (go_simp; done) | (go_simp; rfl)); intro w16 hw; have hg : wr.grownBy w16 (some go14) := (by rw [hw]; exact HP15.2); have hp_ : Kd.R (Kd.int .i64) 3 w16 w.heap.size (fun _ => True) (.slice (some ⟨go14, 0, none⟩) x3_1.length co14) y296 := (by rw [hw, Ny296.out]; exact HP15.1); clear HP15; replace HO_3 := Aside0.mk (hp_); replace HB := Aside0.mk ((by rw [hw]; exact below_set (HB.out) GB14.out : Below w.heap.size w w16)); clear hg hw hp_))
          go_roundg k1
          case measure => have := HK1.out; omega
          case rel => exact ⟨(y296), (wrap64 (x14_1 + 1)), qc_, H', ⟨by have := HK1.out; omega⟩, ⟨(rr_ HO_3)⟩, ⟨hB_⟩⟩
        · rw [if_neg c9] at H
          have c9b0 := decide_eq_false c9
          clear c9
          obtain rfl := Option.some.inj H
          go_wp2
          go_ret
          exact ⟨_, qb_, (rr_ HO_3), hB_⟩
  · replace c3 := Bool.eq_false_iff.mpr c3
    subst c3
    have H1 : (some ([] : List Int)) = some r := by rw [if_neg (show ¬ (false = true) by decide)] at H; exact H
    clear H
    have H := H1
    clear H1
    obtain rfl := Option.some.inj H
    go_enter Try.func122, Try.ntmps122
    go_wp2_with (first | ((with_reducible refine gate_callee (f := 109) rfl ?_); refine gL_ (some 7) Try.func109 #[.slice A0 l0.length c0] rfl qa_ ?_; (with_reducible refine (impl_PermOk.calls k _ _ l0 false _ (cc_ HR0) HC0.out A2.out).mono ?_); rintro e w17 ⟨rfl, hb⟩; refine ⟨_, rfl, ?_⟩; replace HB := b1_ hb; clear hb))
    go_ret
    exact ⟨_, qb_, by first | exact Kd.R_nil _ _ _ _ _ | exact Kd.N_nil _ _ _ _ _ | exact Kd.V_nil _ _ _ _ _ | exact Kd.Q_nil _ _ _ _ _ | exact Kd.S_nil _ _ _ _ _, hB_⟩
end Go.Proofs.Ytoijcallajegfaa.A
end
section
namespace Go.Proofs.Ytoijcallajegfaa.A
open Go.RowKit Go.Proofs.YtoijcallajegfaaW.PrintWords Go.Proofs.YtoijcallajegfaaW.PrintLast Go.Proofs.YtoijcallajegfaaW.PrintMore
attribute [local go_sem] max2_int min2_int max_two min_two max_three min_three max_four min_four
set_option linter.unusedVariables false
set_option linter.unusedSimpArgs false
mutual
def impl_ThenPerm.j0 : Nat → List Int → List Int → Bool → Option (List Int)
  | 0, _, _, _ => none
  | k + 1, x0, x1, x22 => if x22 = true then (some ([] : List Int)) else (if 0 ≤ (x0.length : Int) then (if ((x0.length : Int) : Int).toNat ≤ 35184372088832 then (impl_ThenPerm.l0 k x1 (List.replicate ((x0.length : Int) : Int).toNat 0) x0 (x0.length : Int) 0) else (none)) else (none))
def impl_ThenPerm.l0 : Nat → List Int → List Int → List Int → Int → Int → Option (List Int)
  | 0, _, _, _, _, _ => none
  | k + 1, x1, x5, x26, x27, x28 => if x28 < x27 then (if 0 ≤ x28 then (if x28 < (x26.length : Int) then (if 0 ≤ (rd x26 x28) then (if (rd x26 x28) < (x1.length : Int) then (if x28 < (x5.length : Int) then (impl_ThenPerm.l0 k x1 (x5.set (x28 : Int).toNat (rd x1 (rd x26 x28))) x26 x27 (wrap64 (x28 + 1))) else (none)) else (none)) else (none)) else (none)) else (none)) else (some x5)
end
def impl_ThenPerm.f (k : Nat) (l0 : List Int) (l1 : List Int) : Option (List Int) := (impl_PermOk.f k l0).bind fun t297 => (if t297 = true then ((impl_PermOk.f k l1).bind fun t298 => (if t298 = true then (impl_ThenPerm.j0 k l0 l1 ((l0.length : Int) != (l1.length : Int))) else (impl_ThenPerm.j0 k l0 l1 true))) else (impl_ThenPerm.j0 k l0 l1 true))
theorem impl_ThenPerm.mono_l : ∀ k, (∀ y0 y1 y2, LeO (impl_ThenPerm.j0 k y0 y1 y2) (impl_ThenPerm.j0 (k + 1) y0 y1 y2)) ∧ (∀ y0 y1 y2 y3 y4, LeO (impl_ThenPerm.l0 k y0 y1 y2 y3 y4) (impl_ThenPerm.l0 (k + 1) y0 y1 y2 y3 y4))
  | 0 => ⟨fun _ _ _ r h => by simp [impl_ThenPerm.j0] at h, fun _ _ _ _ _ r h => by simp [impl_ThenPerm.l0] at h⟩
  | k + 1 => by
    obtain ⟨ih0, ih1⟩ := impl_ThenPerm.mono_l k
    refine ⟨?_, ?_⟩
    · intro y0 y1 y2
      unfold impl_ThenPerm.j0
      repeat' first|exact ih0 _ _ _|exact ih1 _ _ _ _ _|exact impl_PermOk.mono _ _|exact lo_|refine LeO.ite ?_ ?_|refine LeO.bind ?_ (fun _ => ?_)
    · intro y0 y1 y2 y3 y4
      unfold impl_ThenPerm.l0
      repeat' first|exact ih0 _ _ _|exact ih1 _ _ _ _ _|exact impl_PermOk.mono _ _|exact lo_|refine LeO.ite ?_ ?_|refine LeO.bind ?_ (fun _ => ?_)
theorem impl_ThenPerm.mono : ∀ a0 a1 k, LeO (impl_ThenPerm.f k a0 a1) (impl_ThenPerm.f (k + 1) a0 a1) := by
  intro a0 a1 k
  obtain ⟨ih0, ih1⟩ := impl_ThenPerm.mono_l k
  unfold impl_ThenPerm.f
  repeat' first|exact ih0 _ _ _|exact ih1 _ _ _ _ _|exact impl_PermOk.mono _ _|exact lo_|refine LeO.ite ?_ ?_|refine LeO.bind ?_ (fun _ => ?_)
set_option maxHeartbeats 8000000 in
set_option maxRecDepth 100000 in
theorem impl_ThenPerm.calls (k : Nat) (A0 : Option Addr) (c0 : Nat) (l0 : List Int) (A1 : Option Addr) (c1 : Nat) (l1 : List Int) (r : List Int) (w : World) (hr0 : Kd.C (Kd.int .i64) w A0 l0.length l0) (hc0 : l0.length ≤ c0) (hr1 : Kd.C (Kd.int .i64) w A1 l1.length l1) (hc1 : l1.length ≤ c1) (h : impl_ThenPerm.f k l0 l1 = some r) :
    Calls Try.prog 152 #[.slice A0 l0.length c0, .slice A1 l1.length c1] w fun e w' => ∃ v0_ : Value, e = .returned (v0_) ∧ Kd.R (Kd.int .i64) 3 w' w.heap.size (fun _ => True) v0_ r ∧ Below w.heap.size w w' := by
  have HR0 := Aside0.mk hr0
  have HC0 := Aside0.mk hc0
  clear hr0 hc0
  have HR1 := Aside0.mk hr1
  have HC1 := Aside0.mk hc1
  clear hr1 hc1
  have HB := Aside0.mk (Below.refl w.heap.size w)
  have H := h
  unfold impl_ThenPerm.f at H
  clear h
  have HC3 := Aside0.mk H
  clear H
  go_enter Try.func152, Try.ntmps152
  go_upto_region 1 with (fail)
  go_cut [22] (fun v22 wc => ∃ (kq : Nat) (x22_2 : Bool), v22 = .bool x22_2 ∧ Aside0 (impl_ThenPerm.j0 kq l0 l1 x22_2 = some r) ∧ Aside0 (kq ≤ k) ∧ Aside0 (Below w.heap.size w wc))
  case first =>
    have H := HC3.out
    clear HC3
    obtain ⟨t297, A4, H⟩ := bi_ H
    by_cases c5 : t297 = true
    · subst c5
      rw [if_pos rfl] at H
      obtain ⟨t298, A6, H⟩ := bi_ H
      by_cases c7 : t298 = true
      · subst c7
        rw [if_pos rfl] at H
        have H' := Aside0.mk H
        clear H
        go_wp2_with (first | ((with_reducible refine gate_callee (f := 109) rfl ?_); refine gL_ (some 9) Try.func109 #[.slice A0 l0.length c0] rfl qa_ ?_; (with_reducible refine (impl_PermOk.calls k _ _ l0 true _ (cb_ HR0) HC0.out A4.out).mono ?_); rintro e w8 ⟨rfl, hb⟩; refine ⟨_, rfl, ?_⟩; replace HB := b1_ hb; clear hb) | (go_at_call 109; (with_reducible refine (impl_PermOk.calls k _ _ l1 true _ (cb_ HR1) HC1.out A6.out).mono ?_); rintro e w9 ⟨rfl, hb⟩; replace HB := b1_ hb; clear hb))
        go_meet
        case rel => exact ⟨_, (((l0.length : Int) != (l1.length : Int))), qc_, H', ⟨qd_⟩, ⟨hB_⟩⟩
      · replace c7 := Bool.eq_false_iff.mpr c7
        subst c7
        have H1 : (impl_ThenPerm.j0 k l0 l1 true) = some r := by rw [if_neg (show ¬ (false = true) by decide)] at H; exact H
        clear H
        have H := H1
        clear H1
        have H' := Aside0.mk H
        clear H
        go_wp2_with (first | ((with_reducible refine gate_callee (f := 109) rfl ?_); refine gL_ (some 9) Try.func109 #[.slice A0 l0.length c0] rfl qa_ ?_; (with_reducible refine (impl_PermOk.calls k _ _ l0 true _ (cb_ HR0) HC0.out A4.out).mono ?_); rintro e w10 ⟨rfl, hb⟩; refine ⟨_, rfl, ?_⟩; replace HB := b1_ hb; clear hb) | (go_at_call 109; (with_reducible refine (impl_PermOk.calls k _ _ l1 false _ (cb_ HR1) HC1.out A6.out).mono ?_); rintro e w11 ⟨rfl, hb⟩; replace HB := b1_ hb; clear hb))
        go_meet
        case rel => exact ⟨_, (true), qc_, H', ⟨qd_⟩, ⟨hB_⟩⟩
    · replace c5 := Bool.eq_false_iff.mpr c5
      subst c5
      have H1 : (impl_ThenPerm.j0 k l0 l1 true) = some r := by rw [if_neg (show ¬ (false = true) by decide)] at H; exact H
      clear H
      have H := H1
      clear H1
      have H' := Aside0.mk H
      clear H
      go_wp2_with (first | ((with_reducible refine gate_callee (f := 109) rfl ?_); refine gL_ (some 9) Try.func109 #[.slice A0 l0.length c0] rfl qa_ ?_; (with_reducible refine (impl_PermOk.calls k _ _ l0 false _ (cb_ HR0) HC0.out A4.out).mono ?_); rintro e w12 ⟨rfl, hb⟩; refine ⟨_, rfl, ?_⟩; replace HB := b1_ hb; clear hb))
      go_meet
      case rel => exact ⟨_, (true), qc_, H', ⟨qd_⟩, ⟨hB_⟩⟩
  case rest =>
    clear HC3
    obtain ⟨kq, x22_2, rfl, HA, HJ2, HB⟩ := hcut
    cases kq with
    | zero => exact absurd HA.out (by simp [impl_ThenPerm.j0])
    | succ kj2 =>
      have H := HA.out
      clear HA
      simp only [impl_ThenPerm.j0] at H
      by_cases c13 : x22_2 = true
      · subst c13
        rw [if_pos rfl] at H
        obtain rfl := Option.some.inj H
        go_wp2
        go_ret
        exact ⟨_, qb_, by first | exact Kd.R_nil _ _ _ _ _ | exact Kd.N_nil _ _ _ _ _ | exact Kd.V_nil _ _ _ _ _ | exact Kd.Q_nil _ _ _ _ _ | exact Kd.S_nil _ _ _ _ _, hB_⟩
      · replace c13 := Bool.eq_false_iff.mpr c13
        subst c13
        have H1 : (if 0 ≤ (l0.length : Int) then (if ((l0.length : Int) : Int).toNat ≤ 35184372088832 then (impl_ThenPerm.l0 kj2 l1 (List.replicate ((l0.length : Int) : Int).toNat 0) l0 (l0.length : Int) 0) else (none)) else (none)) = some r := by rw [if_neg (show ¬ (false = true) by decide)] at H; exact H
        clear H
        have H := H1
        clear H1
        have c14 := cp_ H
        replace H := ca_ H
        have c14b0 := eq_true c14
        have c14b1 := decide_eq_true c14
        clear c14
        have c15 := cp_ H
        replace H := ca_ H
        have c15b0 := eq_true c15
        have c15b1 := decide_eq_true c15
        clear c15
        obtain ⟨y299, hy299⟩ : ∃ y_ : List Int, y_ = (List.replicate ((l0.length : Int) : Int).toNat 0) := ⟨_, rfl⟩
        replace H : (impl_ThenPerm.l0 kj2 l1 y299 l0 (l0.length : Int) 0) = some r := by first | (rw [hy299]; exact H) | exact H
        have Ny299 := Aside0.mk hy299
        clear hy299
        have H' := Aside0.mk H
        clear H
        go_wp2_with (first | ((with_reducible refine gate_dst (N := 25) rfl ?_); (try (refine gate_guard (by rfl) ?_; dsimp only)); refine Kd.R_make (Kd.int .i64) _ 3 rfl (N := 25) rfl 23 _ _ rfl (l0.length : Int) rfl rfl Try.underlying23 (.int .i64 0) 8 info3 rfl (by decide) (by omega) 0 (ok := fun _ => True) (okp := fun _ => True) rfl (fun _ hk => hk) trivial (of_decide_eq_true qe_) (Nat.le_trans (Nat.mul_le_mul_right _ (of_decide_eq_true qe_ : (l0.length : Int).toNat ≤ 35184372088832)) (by omega)) (Below.refl _ _) (Nat.le_refl _) ?_; intro v300 w16 ho17 hb hg_ hnew_; clear hg_ hnew_; (first | rw [← Ny299.out] at ho17 | (simp only [Int.reduceToNat] at ho17; rw [← Ny299.out] at ho17)); have HO301 := rl_ w ho17; replace HB := b1_ hb; clear hb ho17))
        go_loopg [28] kj2 (fun kq v28 w' => ∃ (x5_2 : List Int) (x28_2 : Int), v28 = .int .i64 x28_2 ∧ Aside0 (impl_ThenPerm.l0 kq l1 x5_2 l0 (l0.length : Int) x28_2 = some r) ∧ Aside0 (kq ≤ kj2) ∧ Aside0 (Kd.R (Kd.int .i64) 3 w' w.heap.size (fun _ => True) v300 x5_2) ∧ Aside0 (Below w.heap.size w w'))
        case atStart => exact ⟨(y299), (0), qc_, H', ⟨Nat.le_refl _⟩, ⟨(rr_ HO301)⟩, ⟨hB_⟩⟩
        case round =>
          clear H'
          obtain ⟨x5_2, x28_2, rfl, HA, HK2, HO_5, HB⟩ := hrel
          cases gk with
          | zero => exact absurd HA.out (by simp [impl_ThenPerm.l0])
          | succ k2 =>
            have H := HA.out
            clear HA
            simp only [impl_ThenPerm.l0] at H
            by_cases c18 : x28_2 < (l0.length : Int)
            · rw [if_pos c18] at H
              have c18b0 := decide_eq_true c18
              clear c18
              have c19 := cp_ H
              replace H := ca_ H
              have c19b0 := decide_eq_true c19
              clear c19
              have c20 := cp_ H
              replace H := ca_ H
              have c20b0 := decide_eq_true c20
              clear c20
              have c21 := cp_ H
              replace H := ca_ H
              have c21b0 := decide_eq_true c21
              clear c21
              have c22 := cp_ H
              replace H := ca_ H
              have c22b0 := decide_eq_true c22
              clear c22
              have c23 := cp_ H
              replace H := ca_ H
              have c23b0 := decide_eq_true c23
              clear c23
              obtain ⟨y304, hy304⟩ : ∃ y_ : List Int, y_ = (x5_2.set (x28_2 : Int).toNat (rd l1 (rd l0 x28_2))) := ⟨_, rfl⟩
              replace H : (impl_ThenPerm.l0 k2 l1 y304 l0 (l0.length : Int) (wrap64 (x28_2 + 1))) = some r := by first | (rw [hy304]; exact H) | exact H
              have Ny304 := Aside0.mk hy304
              clear hy304
              have H' := Aside0.mk H
              clear H
              have p302 : 0 ≤ (x28_2 : Int) := of_decide_eq_true qe_
              have q302 : x28_2 < (l0.length : Int) := of_decide_eq_true qe_
              obtain ⟨ad302, e302, hx302_0⟩ := Kd.at_int HR0.out x28_2 p302 q302
              cases e302
              replace hx302_0 := (HB.out.cell (World.block_lt_of_cell? w _ hx302_0)).trans hx302_0
              replace p302 := eq_true p302
              replace q302 := eq_true q302
              have p303 : 0 ≤ ((rd l0 x28_2) : Int) := of_decide_eq_true qe_
              have q303 : (rd l0 x28_2) < (l1.length : Int) := of_decide_eq_true qe_
              obtain ⟨ad303, e303, hx303_0⟩ := Kd.at_int HR1.out (rd l0 x28_2) p303 q303
              cases e303
              replace hx303_0 := (HB.out.cell (World.block_lt_of_cell? w _ hx303_0)).trans hx303_0
              replace p303 := eq_true p303
              replace q303 := eq_true q303
              have p24 : 0 ≤ (x28_2 : Int) := of_decide_eq_true qe_
              have q24 : (x28_2 : Int) < ((x5_2.length : Int) : Int) := of_decide_eq_true qe_
              obtain ⟨go24, co24, eo24, gb24, gl24, cl24, HG24⟩ := Kd.R_form HO_5.out (by omega)
              (first | cases eo24 | (injection eo24 with ea_ en_ ec_; (first | subst ea_ | (injection ea_ with ea_; subst ea_)); subst ec_; clear en_))
              have GB24 := Aside0.mk gb24
              have GG24 := Aside0.mk HG24
              clear gb24 gl24 HG24
              obtain ⟨hx24_0, hf24_0⟩ := Kd.R_celln 0 HO_5.out (x28_2 : Int) p24 q24
              replace p24 := eq_true p24
              replace q24 := eq_true q24
              have HP25 := Kd.R_putg HO_5.out (x28_2 : Int) (rd l1 (rd l0 x28_2))
              go_wp2_with (first | ((with_reducible refine gate_store (t := 3) (p := 39) rfl ?_); refine store_event (t := 3) (p := 39) (v := ?vo_w26) (w1 := (wr.setCell ⟨go24, (x28_2 : Int).toNat, none⟩ (.int .i64 (rd l1 (rd l0 x28_2))))) ?hg ?ho ?hn ?hr ?_; (case ho => rfl); (case hg => rfl); (case hn => rfl); (case hr => first | (go_simp; done) | (go_simp; rfl)); intro w26 hw; have hg : wr.grownBy w26 (some go24) := (by rw [hw]; exact HP25.2); have hp_ : Kd.R (Kd.int .i64) 3 w26 w.heap.size (fun _ => True) (.slice (some ⟨go24, 0, none⟩) x5_2.length co24) y304 := (by rw [hw, Ny304.out]; exact HP25.1); clear HP25; replace HO_5 := Aside0.mk (hp_); replace HB := Aside0.mk ((by rw [hw]; exact below_set (HB.out) GB24.out : Below w.heap.size w w26)); clear hg hw hp_))
              go_roundg k2
              case measure => have := HJ2.out; have := HK2.out; omega
              case rel => exact ⟨(y304), (wrap64 (x28_2 + 1)), qc_, H', ⟨by have := HJ2.out; have := HK2.out; omega⟩, ⟨(rr_ HO_5)⟩, ⟨hB_⟩⟩
            · rw [if_neg c18] at H
              have c18b0 := decide_eq_false c18
              clear c18
              obtain rfl := Option.some.inj H
              go_wp2
              go_ret
              exact ⟨_, qb_, (rr_ HO_5), hB_⟩
end Go.Proofs.Ytoijcallajegfaa.A
end
section
namespace Go.Proofs.Ytoijcallajegfaa.A
open Go.RowKit Go.Proofs.YtoijcallajegfaaW.PrintWords Go.Proofs.YtoijcallajegfaaW.PrintLast Go.Proofs.YtoijcallajegfaaW.PrintMore
attribute [local go_sem] max2_int min2_int max_two min_two max_three min_three max_four min_four
set_option linter.unusedVariables false
set_option linter.unusedSimpArgs false
def impl_ShearSurface.f (k : Nat) (l0_0 : List Int) (l0_1 : List Int) : Option (List Int × List Int × Bool) := (impl_SurfaceOk.f k l0_0 l0_1).bind fun t570 => (if t570 = true then ((impl_copyInts.f l0_0).bind fun t571 => ((impl_InversePerm.f k l0_0).bind fun t574 => ((impl_ThenPerm.f k t574 l0_1).bind fun t577 => (some (t571, t577, true))))) else (some (([] : List Int), ([] : List Int), false)))
theorem impl_ShearSurface.mono : ∀ a0 a1 k, LeO (impl_ShearSurface.f k a0 a1) (impl_ShearSurface.f (k + 1) a0 a1) := by
  intro a0 a1 k
  unfold impl_ShearSurface.f
  repeat' first|exact impl_InversePerm.mono _ _|exact impl_SurfaceOk.mono _ _ _|exact impl_ThenPerm.mono _ _ _|exact lo_|refine LeO.ite ?_ ?_|refine LeO.bind ?_ (fun _ => ?_)
def impl_ShearSurface.T3 : Bool × List (List Nat × List Nat) := (true, [([], []), ([0], [0]), ([1], [1]), ([], []), ([3], [3]), ([4, 2], [4]), ([], []), ([6], [6]), ([5, 7, 5], [5, 7]), ([2, 8], [2, 8]), ([9, 8, 0, 1, 2, 3, 4, 5, 6, 7, 8, 9], [9]), ([10, 0, 1, 2, 3, 4, 5, 6, 7, 8, 9, 10], [])])
def impl_ShearSurface.B3 : List Nat := [0, 1, 3, 0, 8, 31, 0, 64, 255, 511, 1023, 2047]
theorem impl_ShearSurface.tab3 : rtab .any (opsOf Try.f114 3) = impl_ShearSurface.T3 := by kernel_rfl
theorem impl_ShearSurface.bits3 : waitsOk impl_ShearSurface.T3.2 impl_ShearSurface.B3 = true := by kernel_rfl
set_option maxHeartbeats 8000000 in
set_option maxRecDepth 100000 in
theorem impl_ShearSurface.calls (k : Nat) (A0_0 : Option Addr) (c0_0 : Nat) (l0_0 : List Int) (A0_1 : Option Addr) (c0_1 : Nat) (l0_1 : List Int) (r1 : List Int) (r2 : List Int) (r3 : Bool) (w : World) (hr0_0 : Kd.C (Kd.int .i64) w A0_0 l0_0.length l0_0) (hc0_0 : l0_0.length ≤ c0_0) (hr0_1 : Kd.C (Kd.int .i64) w A0_1 l0_1.length l0_1) (hc0_1 : l0_1.length ≤ c0_1) (h : impl_ShearSurface.f k l0_0 l0_1 = some (r1, r2, r3)) :
    Calls Try.prog 114 #[.agg #[.slice A0_0 l0_0.length c0_0, .slice A0_1 l0_1.length c0_1]] w fun e w' => ∃ v0_ v1_ : Value, e = .returned (.tuple #[.agg #[v0_, v1_], .bool r3]) ∧ Kd.R (Kd.int .i64) 3 w' w.heap.size (fun k_ => some k_ ≠ (v1_ : Value).ownBlock) v0_ r1 ∧ Kd.R (Kd.int .i64) 3 w' w.heap.size (fun k_ => some k_ ≠ (v0_ : Value).ownBlock) v1_ r2 ∧ Below w.heap.size w w' := by
  have hu33 := Try.underlying33
  have HR0_0 := Aside0.mk hr0_0
  have HC0_0 := Aside0.mk hc0_0
  clear hr0_0 hc0_0
  have HR0_1 := Aside0.mk hr0_1
  have HC0_1 := Aside0.mk hc0_1
  clear hr0_1 hc0_1
  have HB := Aside0.mk (Below.refl w.heap.size w)
  have H := h
  unfold impl_ShearSurface.f at H
  clear h
  obtain ⟨t570, A2, H⟩ := bi_ H
  by_cases c3 : t570 = true
  · subst c3
    rw [if_pos rfl] at H
    obtain ⟨t571, A4, H⟩ := bi_ H
    obtain ⟨t574, A5, H⟩ := bi_ H
    obtain ⟨t577, A6, H⟩ := bi_ H
    simp only [Option.some.injEq, Prod.mk.injEq] at H
    obtain ⟨rfl, rfl, rfl⟩ := H
    go_enter Try.func114, Try.ntmps114
    try go_wp2_with (first | ((with_reducible refine gate_dst (N := 1) rfl ?_); refine bx_ 1 #[.slice A0_0 l0_0.length c0_0, .slice A0_1 l0_1.length c0_1] 33 ?_; intro gb568 hg w7 hbox hb; have BK568 := Aside0.mk hbox; have GW568 := gw_ w hg; have GE568 := GW568; replace HB := b1_ hb; clear hb hbox hg) | ((with_reducible refine gate_dst (N := 2) rfl ?_); refine bx_ 2 #[.slice none 0 0, .slice none 0 0] 33 ?_; intro gb569 hg w8 hbox hb; have BK569 := Aside0.mk hbox; have GW569 := gw_ w hg; have GE569 := GW569; replace HB := b1_ hb; have NB568_569 := gN_ BK568 hg; have NB569_568 := gP_ BK568 hg; replace BK568 := bb_ BK568 hb; clear hb hbox hg; have hnb9 := NB568_569.out; have hnc9 := NB569_568.out; obtain ⟨hcz10_0, hcz10_1, hfz10_0, hfz10_1⟩ := c2_ BK568) | ((with_reducible refine gate_callee (f := 19) rfl ?_); refine gL_ (some 5) Try.func19 #[.agg #[.slice A0_0 l0_0.length c0_0, .slice A0_1 l0_1.length c0_1]] rfl qa_ ?_; (with_reducible refine (impl_SurfaceOk.calls k _ _ l0_0 _ _ l0_1 true _ (cb_ HR0_0) HC0_0.out (cb_ HR0_1) HC0_1.out A2.out).mono ?_); rintro e w11 ⟨rfl, hb⟩; refine ⟨_, rfl, ?_⟩; replace BK568 := bb_ BK568 hb; replace BK569 := bb_ BK569 hb; replace HB := b1_ hb; clear hb))
    replace BK568 := Aside0.mk (blk_drew BK568.out)
    replace BK569 := Aside0.mk (blk_drew BK569.out)
    replace HB := Aside0.mk (below_drew1 HB.out)
    refine start_ (n := 12) (S := fun w' => w'.cell? ⟨gb568, 0, none⟩ = some (.slice A0_0 l0_0.length c0_0) ∧ w'.cell? ⟨gb568, 1, none⟩ = some (.slice A0_1 l0_1.length c0_1)) (ds := []) (bl_ 12 0) (by kernel_rfl) rfl (by kernel_rfl) ⟨cz0_ BK568, cz1_ BK568⟩ (fun hHeld => ?_); refine with_tabW impl_ShearSurface.tab3 impl_ShearSurface.bits3 (fun HT_ HW_ => ?_)
    generalize w11.drew = w12 at BK568 BK569 HB hHeld ⊢
    refine pu_ 0 (some 8) (bl_ 12 1) HT_ ?_
    refine pu_ 3 (some 11) (bl_ 12 9) HT_ ?_
    refine pu_ 6 (some 14) (bl_ 12 73) HT_ ?_
    refine ta_ 1 (some 9) (bl_ 12 75) HT_ HW_ hHeld ?_
    refine ta_ 4 (some 12) (bl_ 12 91) HT_ HW_ hHeld ?_
    refine ta_ 7 (some 15) (bl_ 12 219) HT_ HW_ hHeld ?_
    refine on_ 2 (some 10) (bl_ 12 223) HT_ (fun K hK => ?_)
    refine gO_ Try.func100 #[.slice A0_0 l0_0.length c0_0] (by rfl) rfl rfl qa_ ?_
    with_reducible refine (impl_copyInts.calls _ _ l0_0 t571 _ (cb_ HR0_0) HC0_0.out A4.out).mono ?_
    rintro e w13 ⟨v572, rfl, ho0, hb⟩
    refine ⟨_, rfl, ?_⟩
    have HO573 := rl_ w ho0
    replace BK568 := bb_ BK568 hb
    replace BK569 := bb_ BK569 hb
    replace HB := b1_ hb
    clear hb ho0
    refine hK.out _ _ ⟨cz0_ BK568, cz1_ BK568⟩ (fun hHeld => ?_)
    clear hK K
    refine no_ (some 10) ?_
    refine on_ 5 (some 13) (bl_ 12 255) HT_ (fun K hK => ?_)
    refine gO_ Try.func122 #[.slice A0_0 l0_0.length c0_0] (by rfl) rfl rfl qa_ ?_
    with_reducible refine (impl_InversePerm.calls k _ _ l0_0 t574 _ (cb_ HR0_0) HC0_0.out A5.out).mono ?_
    rintro e w14 ⟨v575, rfl, ho0, hb⟩
    refine ⟨_, rfl, ?_⟩
    have HO576 := Aside0.mk (Kd.R_lower (Kd.R_new' ho0 (Kd.R_lt (rr_ HO573))) (below_size hB_))
    replace HO573 := Aside0.mk (Kd.R_elder' (rr_ HO573) (Kd.R_base ho0) hb)
    replace BK568 := bb_ BK568 hb
    replace BK569 := bb_ BK569 hb
    replace HB := b1_ hb
    clear hb ho0
    obtain ⟨Ao15, co15, eo15⟩ := Kd.R_slice HO576.out
    (first | subst eo15 | (injection eo15 with f1_ f2_ f3_; have f4_ := f1_.symm; have f5_ := f3_.symm; clear f1_ f2_ f3_; subst f4_; subst f5_))
    refine hK.out _ _ ⟨cz0_ BK568, cz1_ BK568⟩ (fun hHeld => ?_)
    clear hK K
    refine no_ (some 13) ?_
    refine on_ 8 (some 16) (bl_ 12 511) HT_ (fun K hK => ?_)
    refine gO_ Try.func152 #[.slice Ao15 t574.length co15, .slice A0_1 l0_1.length c0_1] (by rfl) rfl rfl qa_ ?_
    with_reducible refine (impl_ThenPerm.calls k _ _ t574 _ _ l0_1 t577 _ (cr_ HO576) ((Kd.R_reads' HO576.out).2.1) (cb_ HR0_1) HC0_1.out A6.out).mono ?_
    rintro e w16 ⟨v578, rfl, ho0, hb⟩
    refine ⟨_, rfl, ?_⟩
    have HO579 := Aside0.mk (Kd.R_lower (Kd.R_new' (Kd.R_new' ho0 (Kd.R_lt (rr_ HO573))) (Kd.R_lt (rr_ HO576))) (below_size hB_))
    replace HO573 := Aside0.mk (Kd.R_elder' (rr_ HO573) (Kd.R_base ho0) hb)
    replace HO576 := Aside0.mk (Kd.R_elder' (rr_ HO576) (Kd.R_base ho0) hb)
    replace BK568 := bb_ BK568 hb
    replace BK569 := bb_ BK569 hb
    replace HB := b1_ hb
    clear hb ho0
    obtain ⟨Ao17, co17, eo17⟩ := Kd.R_slice HO579.out
    (first | subst eo17 | (injection eo17 with f1_ f2_ f3_; have f4_ := f1_.symm; have f5_ := f3_.symm; clear f1_ f2_ f3_; subst f4_; subst f5_))
    obtain ⟨Ao18, co18, eo18⟩ := Kd.R_slice HO573.out
    (first | subst eo18 | (injection eo18 with f1_ f2_ f3_; have f4_ := f1_.symm; have f5_ := f3_.symm; clear f1_ f2_ f3_; subst f4_; subst f5_))
    refine hK.out _ _ ⟨cz0_ BK568, cz1_ BK568⟩ (fun hHeld => ?_)
    clear hK K
    refine no_ (some 16) ?_
    refine pu_ 9 (some 17) (bl_ 12 1023) HT_ ?_
    refine on_ 10 (none) (bl_ 12 2047) HT_ (fun K hK => ?_)
    have hs19 : w16.cell? ⟨gb569, 0, none⟩ = some (.slice none 0 0) := cz0_ BK569
    have hfs19 := blk_frozen BK569.out 0
    have hns19_0 := NB568_569.out
    have hms19_0 := NB569_568.out
    have hs20 : w16.cell? ⟨gb569, 1, none⟩ = some (.slice none 0 0) := cz1_ BK569
    have hfs20 := blk_frozen BK569.out 1
    have hns20_0 := NB568_569.out
    have hms20_0 := NB569_568.out
    refine skip_ (w1 := ?_) (by rfl) rfl ?_ ?_
    rotate_left
    · go_simp
      rfl
    refine hK.out _ _ ⟨((cell_far (p := ⟨gb569, _, none⟩) NB568_569.out _).trans (((cell_far (p := ⟨gb569, _, none⟩) NB568_569.out _).trans (hHeld.1)))), ((cell_far (p := ⟨gb569, _, none⟩) NB568_569.out _).trans (((cell_far (p := ⟨gb569, _, none⟩) NB568_569.out _).trans (hHeld.2))))⟩ (fun hHeld => ?_)
    clear hK K
    refine pu_ 11 (some 3) (bl_ 12 4095) HT_ ?_
    refine done_ (done_of HT_.out (by kernel_rfl)) ?_
    try go_wp2
    refine bodyPost_ret (results_ct rfl _ _ gb569 33 #[.slice Ao18 t571.length co18, .slice Ao17 t577.length co17] (0, 0) _ rfl qp_ Try.underlying33 rfl (by kernel_rfl)) rfl ?_
    exact ⟨_, _, qb_, (rw_ (Kd.R_mono (fa_ HO573 BK569) (fun _ hk => hk.2))), (rw_ (Kd.R_mono (fa_ HO579 BK569) (fun _ hk => hk.1.2))), hB_⟩
  · replace c3 := Bool.eq_false_iff.mpr c3
    subst c3
    have H1 : (some (([] : List Int), ([] : List Int), false)) = some (r1, r2, r3) := by rw [if_neg (show ¬ (false = true) by decide)] at H; exact H
    clear H
    have H := H1
    clear H1
    simp only [Option.some.injEq, Prod.mk.injEq] at H
    obtain ⟨rfl, rfl, rfl⟩ := H
    go_enter Try.func114, Try.ntmps114
    go_wp2_with (first | ((with_reducible refine gate_dst (N := 1) rfl ?_); refine bx_ 1 #[.slice A0_0 l0_0.length c0_0, .slice A0_1 l0_1.length c0_1] 33 ?_; intro gb568 hg w21 hbox hb; have BK568 := Aside0.mk hbox; have GW568 := gw_ w hg; have GE568 := GW568; replace HB := b1_ hb; clear hb hbox hg) | ((with_reducible refine gate_dst (N := 2) rfl ?_); refine bx_ 2 #[.slice none 0 0, .slice none 0 0] 33 ?_; intro gb569 hg w22 hbox hb; have BK569 := Aside0.mk hbox; have GW569 := gw_ w hg; have GE569 := GW569; replace HB := b1_ hb; have NB568_569 := gN_ BK568 hg; have NB569_568 := gP_ BK568 hg; replace BK568 := bb_ BK568 hb; clear hb hbox hg; have hnb23 := NB568_569.out; have hnc23 := NB569_568.out; obtain ⟨hcz24_0, hcz24_1, hfz24_0, hfz24_1⟩ := c2_ BK568) | ((with_reducible refine gate_callee (f := 19) rfl ?_); refine gL_ (some 5) Try.func19 #[.agg #[.slice A0_0 l0_0.length c0_0, .slice A0_1 l0_1.length c0_1]] rfl qa_ ?_; (with_reducible refine (impl_SurfaceOk.calls k _ _ l0_0 _ _ l0_1 false _ (cb_ HR0_0) HC0_0.out (cb_ HR0_1) HC0_1.out A2.out).mono ?_); rintro e w25 ⟨rfl, hb⟩; refine ⟨_, rfl, ?_⟩; replace BK568 := bb_ BK568 hb; replace BK569 := bb_ BK569 hb; replace HB := b1_ hb; clear hb; obtain ⟨hcz26_0, hcz26_1, hfz26_0, hfz26_1⟩ := c2_ BK569))
    refine bodyPost_ret (results_ct rfl _ _ gb569 33 #[.slice none 0 0, .slice none 0 0] (0, 0) _ rfl qp_ Try.underlying33 rfl (by kernel_rfl)) rfl ?_
    exact ⟨_, _, qb_, by first | exact Kd.R_nil _ _ _ _ _ | exact Kd.N_nil _ _ _ _ _ | exact Kd.V_nil _ _ _ _ _ | exact Kd.Q_nil _ _ _ _ _ | exact Kd.S_nil _ _ _ _ _, by first | exact Kd.R_nil _ _ _ _ _ | exact Kd.N_nil _ _ _ _ _ | exact Kd.V_nil _ _ _ _ _ | exact Kd.Q_nil _ _ _ _ _ | exact Kd.S_nil _ _ _ _ _, hB_⟩
end Go.Proofs.Ytoijcallajegfaa.A
end
section
namespace Go.Proofs.Ytoijcallajegfaa.A
open Go.RowKit Go.Proofs.YtoijcallajegfaaW.PrintWords Go.Proofs.YtoijcallajegfaaW.PrintLast Go.Proofs.YtoijcallajegfaaW.PrintMore
attribute [local go_sem] max2_int min2_int max_two min_two max_three min_three max_four min_four
set_option linter.unusedVariables false
set_option linter.unusedSimpArgs false
def impl_UnshearSurface.f (k : Nat) (l0_0 : List Int) (l0_1 : List Int) : Option (List Int × List Int × Bool) := (impl_SurfaceOk.f k l0_0 l0_1).bind fun t582 => (if t582 = true then ((impl_copyInts.f l0_0).bind fun t583 => ((impl_ThenPerm.f k l0_0 l0_1).bind fun t586 => (some (t583, t586, true)))) else (some (([] : List Int), ([] : List Int), false)))
theorem impl_UnshearSurface.mono : ∀ a0 a1 k, LeO (impl_UnshearSurface.f k a0 a1) (impl_UnshearSurface.f (k + 1) a0 a1) := by
  intro a0 a1 k
  unfold impl_UnshearSurface.f
  repeat' first|exact impl_SurfaceOk.mono _ _ _|exact impl_ThenPerm.mono _ _ _|exact lo_|refine LeO.ite ?_ ?_|refine LeO.bind ?_ (fun _ => ?_)
def impl_UnshearSurface.T3 : Bool × List (List Nat × List Nat) := (true, [([], []), ([0], [0]), ([1], [1]), ([], []), ([3], [3]), ([], []), ([5], [5]), ([4, 6, 2], [4, 6]), ([2, 7], [2, 7]), ([8, 7, 0, 1, 2, 3, 4, 5, 6, 7, 8], [8]), ([9, 0, 1, 2, 3, 4, 5, 6, 7, 8, 9], [])])
def impl_UnshearSurface.B3 : List Nat := [0, 1, 3, 0, 8, 0, 32, 127, 255, 511, 1023]
theorem impl_UnshearSurface.tab3 : rtab .any (opsOf Try.f115 3) = impl_UnshearSurface.T3 := by kernel_rfl
theorem impl_UnshearSurface.bits3 : waitsOk impl_UnshearSurface.T3.2 impl_UnshearSurface.B3 = true := by kernel_rfl
set_option maxHeartbeats 8000000 in
set_option maxRecDepth 100000 in
theorem impl_UnshearSurface.calls (k : Nat) (A0_0 : Option Addr) (c0_0 : Nat) (l0_0 : List Int) (A0_1 : Option Addr) (c0_1 : Nat) (l0_1 : List Int) (r1 : List Int) (r2 : List Int) (r3 : Bool) (w : World) (hr0_0 : Kd.C (Kd.int .i64) w A0_0 l0_0.length l0_0) (hc0_0 : l0_0.length ≤ c0_0) (hr0_1 : Kd.C (Kd.int .i64) w A0_1 l0_1.length l0_1) (hc0_1 : l0_1.length ≤ c0_1) (h : impl_UnshearSurface.f k l0_0 l0_1 = some (r1, r2, r3)) :
    Calls Try.prog 115 #[.agg #[.slice A0_0 l0_0.length c0_0, .slice A0_1 l0_1.length c0_1]] w fun e w' => ∃ v0_ v1_ : Value, e = .returned (.tuple #[.agg #[v0_, v1_], .bool r3]) ∧ Kd.R (Kd.int .i64) 3 w' w.heap.size (fun k_ => some k_ ≠ (v1_ : Value).ownBlock) v0_ r1 ∧ Kd.R (Kd.int .i64) 3 w' w.heap.size (fun k_ => some k_ ≠ (v0_ : Value).ownBlock) v1_ r2 ∧ Below w.heap.size w w' := by
  have hu33 := Try.underlying33
  have HR0_0 := Aside0.mk hr0_0
  have HC0_0 := Aside0.mk hc0_0
  clear hr0_0 hc0_0
  have HR0_1 := Aside0.mk hr0_1
  have HC0_1 := Aside0.mk hc0_1
  clear hr0_1 hc0_1
  have HB := Aside0.mk (Below.refl w.heap.size w)
  have H := h
  unfold impl_UnshearSurface.f at H
  clear h
  obtain ⟨t582, A2, H⟩ := bi_ H
  by_cases c3 : t582 = true
  · subst c3
    rw [if_pos rfl] at H
    obtain ⟨t583, A4, H⟩ := bi_ H
    obtain ⟨t586, A5, H⟩ := bi_ H
    simp only [Option.some.injEq, Prod.mk.injEq] at H
    obtain ⟨rfl, rfl, rfl⟩ := H
    go_enter Try.func115, Try.ntmps115
    try go_wp2_with (first | ((with_reducible refine gate_dst (N := 1) rfl ?_); refine bx_ 1 #[.slice A0_0 l0_0.length c0_0, .slice A0_1 l0_1.length c0_1] 33 ?_; intro gb580 hg w6 hbox hb; have BK580 := Aside0.mk hbox; have GW580 := gw_ w hg; have GE580 := GW580; replace HB := b1_ hb; clear hb hbox hg) | ((with_reducible refine gate_dst (N := 2) rfl ?_); refine bx_ 2 #[.slice none 0 0, .slice none 0 0] 33 ?_; intro gb581 hg w7 hbox hb; have BK581 := Aside0.mk hbox; have GW581 := gw_ w hg; have GE581 := GW581; replace HB := b1_ hb; have NB580_581 := gN_ BK580 hg; have NB581_580 := gP_ BK580 hg; replace BK580 := bb_ BK580 hb; clear hb hbox hg; have hnb8 := NB580_581.out; have hnc8 := NB581_580.out; obtain ⟨hcz9_0, hcz9_1, hfz9_0, hfz9_1⟩ := c2_ BK580) | ((with_reducible refine gate_callee (f := 19) rfl ?_); refine gL_ (some 5) Try.func19 #[.agg #[.slice A0_0 l0_0.length c0_0, .slice A0_1 l0_1.length c0_1]] rfl qa_ ?_; (with_reducible refine (impl_SurfaceOk.calls k _ _ l0_0 _ _ l0_1 true _ (cb_ HR0_0) HC0_0.out (cb_ HR0_1) HC0_1.out A2.out).mono ?_); rintro e w10 ⟨rfl, hb⟩; refine ⟨_, rfl, ?_⟩; replace BK580 := bb_ BK580 hb; replace BK581 := bb_ BK581 hb; replace HB := b1_ hb; clear hb))
    replace BK580 := Aside0.mk (blk_drew BK580.out)
    replace BK581 := Aside0.mk (blk_drew BK581.out)
    replace HB := Aside0.mk (below_drew1 HB.out)
    refine start_ (n := 11) (S := fun w' => w'.cell? ⟨gb580, 0, none⟩ = some (.slice A0_0 l0_0.length c0_0) ∧ w'.cell? ⟨gb580, 1, none⟩ = some (.slice A0_1 l0_1.length c0_1)) (ds := []) (bl_ 11 0) (by kernel_rfl) rfl (by kernel_rfl) ⟨cz0_ BK580, cz1_ BK580⟩ (fun hHeld => ?_); refine with_tabW impl_UnshearSurface.tab3 impl_UnshearSurface.bits3 (fun HT_ HW_ => ?_)
    generalize w10.drew = w11 at BK580 BK581 HB hHeld ⊢
    refine pu_ 0 (some 8) (bl_ 11 1) HT_ ?_
    refine pu_ 3 (some 11) (bl_ 11 9) HT_ ?_
    refine pu_ 5 (some 13) (bl_ 11 41) HT_ ?_
    refine ta_ 1 (some 9) (bl_ 11 43) HT_ HW_ hHeld ?_
    refine ta_ 4 (some 12) (bl_ 11 59) HT_ HW_ hHeld ?_
    refine ta_ 6 (some 14) (bl_ 11 123) HT_ HW_ hHeld ?_
    refine on_ 2 (some 10) (bl_ 11 127) HT_ (fun K hK => ?_)
    refine gO_ Try.func100 #[.slice A0_0 l0_0.length c0_0] (by rfl) rfl rfl qa_ ?_
    with_reducible refine (impl_copyInts.calls _ _ l0_0 t583 _ (cb_ HR0_0) HC0_0.out A4.out).mono ?_
    rintro e w12 ⟨v584, rfl, ho0, hb⟩
    refine ⟨_, rfl, ?_⟩
    have HO585 := rl_ w ho0
    replace BK580 := bb_ BK580 hb
    replace BK581 := bb_ BK581 hb
    replace HB := b1_ hb
    clear hb ho0
    refine hK.out _ _ ⟨cz0_ BK580, cz1_ BK580⟩ (fun hHeld => ?_)
    clear hK K
    refine no_ (some 10) ?_
    refine on_ 7 (some 15) (bl_ 11 255) HT_ (fun K hK => ?_)
    refine gO_ Try.func152 #[.slice A0_0 l0_0.length c0_0, .slice A0_1 l0_1.length c0_1] (by rfl) rfl rfl qa_ ?_
    with_reducible refine (impl_ThenPerm.calls k _ _ l0_0 _ _ l0_1 t586 _ (cb_ HR0_0) HC0_0.out (cb_ HR0_1) HC0_1.out A5.out).mono ?_
    rintro e w13 ⟨v587, rfl, ho0, hb⟩
    refine ⟨_, rfl, ?_⟩
    have HO588 := Aside0.mk (Kd.R_lower (Kd.R_new' ho0 (Kd.R_lt (rr_ HO585))) (below_size hB_))
    replace HO585 := Aside0.mk (Kd.R_elder' (rr_ HO585) (Kd.R_base ho0) hb)
    replace BK580 := bb_ BK580 hb
    replace BK581 := bb_ BK581 hb
    replace HB := b1_ hb
    clear hb ho0
    obtain ⟨Ao14, co14, eo14⟩ := Kd.R_slice HO588.out
    (first | subst eo14 | (injection eo14 with f1_ f2_ f3_; have f4_ := f1_.symm; have f5_ := f3_.symm; clear f1_ f2_ f3_; subst f4_; subst f5_))
    obtain ⟨Ao15, co15, eo15⟩ := Kd.R_slice HO585.out
    (first | subst eo15 | (injection eo15 with f1_ f2_ f3_; have f4_ := f1_.symm; have f5_ := f3_.symm; clear f1_ f2_ f3_; subst f4_; subst f5_))
    refine hK.out _ _ ⟨cz0_ BK580, cz1_ BK580⟩ (fun hHeld => ?_)
    clear hK K
    refine no_ (some 15) ?_
    refine pu_ 8 (some 16) (bl_ 11 511) HT_ ?_
    refine on_ 9 (none) (bl_ 11 1023) HT_ (fun K hK => ?_)
    have hs16 : w13.cell? ⟨gb581, 0, none⟩ = some (.slice none 0 0) := cz0_ BK581
    have hfs16 := blk_frozen BK581.out 0
    have hns16_0 := NB580_581.out
    have hms16_0 := NB581_580.out
    have hs17 : w13.cell? ⟨gb581, 1, none⟩ = some (.slice none 0 0) := cz1_ BK581
    have hfs17 := blk_frozen BK581.out 1
    have hns17_0 := NB580_581.out
    have hms17_0 := NB581_580.out
    refine skip_ (w1 := ?_) (by rfl) rfl ?_ ?_
    rotate_left
    · go_simp
      rfl
    refine hK.out _ _ ⟨((cell_far (p := ⟨gb581, _, none⟩) NB580_581.out _).trans (((cell_far (p := ⟨gb581, _, none⟩) NB580_581.out _).trans (hHeld.1)))), ((cell_far (p := ⟨gb581, _, none⟩) NB580_581.out _).trans (((cell_far (p := ⟨gb581, _, none⟩) NB580_581.out _).trans (hHeld.2))))⟩ (fun hHeld => ?_)
    clear hK K
    refine pu_ 10 (some 3) (bl_ 11 2047) HT_ ?_
    refine done_ (done_of HT_.out (by kernel_rfl)) ?_
    try go_wp2
    refine bodyPost_ret (results_ct rfl _ _ gb581 33 #[.slice Ao15 t583.length co15, .slice Ao14 t586.length co14] (0, 0) _ rfl qp_ Try.underlying33 rfl (by kernel_rfl)) rfl ?_
    exact ⟨_, _, qb_, (rw_ (Kd.R_mono (fa_ HO585 BK581) (fun _ hk => hk.2))), (rw_ (Kd.R_mono (fa_ HO588 BK581) (fun _ hk => hk.2))), hB_⟩
  · replace c3 := Bool.eq_false_iff.mpr c3
    subst c3
    have H1 : (some (([] : List Int), ([] : List Int), false)) = some (r1, r2, r3) := by rw [if_neg (show ¬ (false = true) by decide)] at H; exact H
    clear H
    have H := H1
    clear H1
    simp only [Option.some.injEq, Prod.mk.injEq] at H
    obtain ⟨rfl, rfl, rfl⟩ := H
    go_enter Try.func115, Try.ntmps115
    go_wp2_with (first | ((with_reducible refine gate_dst (N := 1) rfl ?_); refine bx_ 1 #[.slice A0_0 l0_0.length c0_0, .slice A0_1 l0_1.length c0_1] 33 ?_; intro gb580 hg w18 hbox hb; have BK580 := Aside0.mk hbox; have GW580 := gw_ w hg; have GE580 := GW580; replace HB := b1_ hb; clear hb hbox hg) | ((with_reducible refine gate_dst (N := 2) rfl ?_); refine bx_ 2 #[.slice none 0 0, .slice none 0 0] 33 ?_; intro gb581 hg w19 hbox hb; have BK581 := Aside0.mk hbox; have GW581 := gw_ w hg; have GE581 := GW581; replace HB := b1_ hb; have NB580_581 := gN_ BK580 hg; have NB581_580 := gP_ BK580 hg; replace BK580 := bb_ BK580 hb; clear hb hbox hg; have hnb20 := NB580_581.out; have hnc20 := NB581_580.out; obtain ⟨hcz21_0, hcz21_1, hfz21_0, hfz21_1⟩ := c2_ BK580) | ((with_reducible refine gate_callee (f := 19) rfl ?_); refine gL_ (some 5) Try.func19 #[.agg #[.slice A0_0 l0_0.length c0_0, .slice A0_1 l0_1.length c0_1]] rfl qa_ ?_; (with_reducible refine (impl_SurfaceOk.calls k _ _ l0_0 _ _ l0_1 false _ (cb_ HR0_0) HC0_0.out (cb_ HR0_1) HC0_1.out A2.out).mono ?_); rintro e w22 ⟨rfl, hb⟩; refine ⟨_, rfl, ?_⟩; replace BK580 := bb_ BK580 hb; replace BK581 := bb_ BK581 hb; replace HB := b1_ hb; clear hb; obtain ⟨hcz23_0, hcz23_1, hfz23_0, hfz23_1⟩ := c2_ BK581))
    refine bodyPost_ret (results_ct rfl _ _ gb581 33 #[.slice none 0 0, .slice none 0 0] (0, 0) _ rfl qp_ Try.underlying33 rfl (by kernel_rfl)) rfl ?_
    exact ⟨_, _, qb_, by first | exact Kd.R_nil _ _ _ _ _ | exact Kd.N_nil _ _ _ _ _ | exact Kd.V_nil _ _ _ _ _ | exact Kd.Q_nil _ _ _ _ _ | exact Kd.S_nil _ _ _ _ _, by first | exact Kd.R_nil _ _ _ _ _ | exact Kd.N_nil _ _ _ _ _ | exact Kd.V_nil _ _ _ _ _ | exact Kd.Q_nil _ _ _ _ _ | exact Kd.S_nil _ _ _ _ _, hB_⟩
end Go.Proofs.Ytoijcallajegfaa.A
end
section
namespace Go.Proofs.Ytoijcallajegfaa.A
open Go.RowKit Go.Proofs.YtoijcallajegfaaW.PrintWords Go.Proofs.YtoijcallajegfaaW.PrintLast Go.Proofs.YtoijcallajegfaaW.PrintMore
attribute [local go_sem] max2_int min2_int max_two min_two max_three min_three max_four min_four
set_option linter.unusedVariables false
set_option linter.unusedSimpArgs false
def impl_TurnSurface.f (k : Nat) (l0_0 : List Int) (l0_1 : List Int) : Option (List Int × List Int × Bool) := (impl_SurfaceOk.f k l0_0 l0_1).bind fun t591 => (if t591 = true then ((impl_InversePerm.f k l0_1).bind fun t592 => ((impl_copyInts.f l0_0).bind fun t595 => (some (t592, t595, true)))) else (some (([] : List Int), ([] : List Int), false)))
theorem impl_TurnSurface.mono : ∀ a0 a1 k, LeO (impl_TurnSurface.f k a0 a1) (impl_TurnSurface.f (k + 1) a0 a1) := by
  intro a0 a1 k
  unfold impl_TurnSurface.f
  repeat' first|exact impl_InversePerm.mono _ _|exact impl_SurfaceOk.mono _ _ _|exact lo_|refine LeO.ite ?_ ?_|refine LeO.bind ?_ (fun _ => ?_)
def impl_TurnSurface.T3 : Bool × List (List Nat × List Nat) := (true, [([], []), ([0], [0]), ([1], [1]), ([], []), ([3], [3]), ([4, 2], [4]), ([2, 5], [2, 5]), ([6, 5, 0, 1, 2, 3, 4, 5, 6], [6]), ([7, 0, 1, 2, 3, 4, 5, 6, 7], [])])
def impl_TurnSurface.B3 : List Nat := [0, 1, 3, 0, 8, 31, 63, 127, 255]
theorem impl_TurnSurface.tab3 : rtab .any (opsOf Try.f116 3) = impl_TurnSurface.T3 := by kernel_rfl
theorem impl_TurnSurface.bits3 : waitsOk impl_TurnSurface.T3.2 impl_TurnSurface.B3 = true := by kernel_rfl
set_option maxHeartbeats 8000000 in
set_option maxRecDepth 100000 in
theorem impl_TurnSurface.calls (k : Nat) (A0_0 : Option Addr) (c0_0 : Nat) (l0_0 : List Int) (A0_1 : Option Addr) (c0_1 : Nat) (l0_1 : List Int) (r1 : List Int) (r2 : List Int) (r3 : Bool) (w : World) (hr0_0 : Kd.C (Kd.int .i64) w A0_0 l0_0.length l0_0) (hc0_0 : l0_0.length ≤ c0_0) (hr0_1 : Kd.C (Kd.int .i64) w A0_1 l0_1.length l0_1) (hc0_1 : l0_1.length ≤ c0_1) (h : impl_TurnSurface.f k l0_0 l0_1 = some (r1, r2, r3)) :
    Calls Try.prog 116 #[.agg #[.slice A0_0 l0_0.length c0_0, .slice A0_1 l0_1.length c0_1]] w fun e w' => ∃ v0_ v1_ : Value, e = .returned (.tuple #[.agg #[v0_, v1_], .bool r3]) ∧ Kd.R (Kd.int .i64) 3 w' w.heap.size (fun k_ => some k_ ≠ (v1_ : Value).ownBlock) v0_ r1 ∧ Kd.R (Kd.int .i64) 3 w' w.heap.size (fun k_ => some k_ ≠ (v0_ : Value).ownBlock) v1_ r2 ∧ Below w.heap.size w w' := by
  have hu33 := Try.underlying33
  have HR0_0 := Aside0.mk hr0_0
  have HC0_0 := Aside0.mk hc0_0
  clear hr0_0 hc0_0
  have HR0_1 := Aside0.mk hr0_1
  have HC0_1 := Aside0.mk hc0_1
  clear hr0_1 hc0_1
  have HB := Aside0.mk (Below.refl w.heap.size w)
  have H := h
  unfold impl_TurnSurface.f at H
  clear h
  obtain ⟨t591, A2, H⟩ := bi_ H
  by_cases c3 : t591 = true
  · subst c3
    rw [if_pos rfl] at H
    obtain ⟨t592, A4, H⟩ := bi_ H
    obtain ⟨t595, A5, H⟩ := bi_ H
    simp only [Option.some.injEq, Prod.mk.injEq] at H
    obtain ⟨rfl, rfl, rfl⟩ := H
    go_enter Try.func116, Try.ntmps116
    try go_wp2_with (first | ((with_reducible refine gate_dst (N := 1) rfl ?_); refine bx_ 1 #[.slice A0_0 l0_0.length c0_0, .slice A0_1 l0_1.length c0_1] 33 ?_; intro gb589 hg w6 hbox hb; have BK589 := Aside0.mk hbox; have GW589 := gw_ w hg; have GE589 := GW589; replace HB := b1_ hb; clear hb hbox hg) | ((with_reducible refine gate_dst (N := 2) rfl ?_); refine bx_ 2 #[.slice none 0 0, .slice none 0 0] 33 ?_; intro gb590 hg w7 hbox hb; have BK590 := Aside0.mk hbox; have GW590 := gw_ w hg; have GE590 := GW590; replace HB := b1_ hb; have NB589_590 := gN_ BK589 hg; have NB590_589 := gP_ BK589 hg; replace BK589 := bb_ BK589 hb; clear hb hbox hg; have hnb8 := NB589_590.out; have hnc8 := NB590_589.out; obtain ⟨hcz9_0, hcz9_1, hfz9_0, hfz9_1⟩ := c2_ BK589) | ((with_reducible refine gate_callee (f := 19) rfl ?_); refine gL_ (some 5) Try.func19 #[.agg #[.slice A0_0 l0_0.length c0_0, .slice A0_1 l0_1.length c0_1]] rfl qa_ ?_; (with_reducible refine (impl_SurfaceOk.calls k _ _ l0_0 _ _ l0_1 true _ (cb_ HR0_0) HC0_0.out (cb_ HR0_1) HC0_1.out A2.out).mono ?_); rintro e w10 ⟨rfl, hb⟩; refine ⟨_, rfl, ?_⟩; replace BK589 := bb_ BK589 hb; replace BK590 := bb_ BK590 hb; replace HB := b1_ hb; clear hb))
    replace BK589 := Aside0.mk (blk_drew BK589.out)
    replace BK590 := Aside0.mk (blk_drew BK590.out)
    replace HB := Aside0.mk (below_drew1 HB.out)
    refine start_ (n := 9) (S := fun w' => w'.cell? ⟨gb589, 0, none⟩ = some (.slice A0_0 l0_0.length c0_0) ∧ w'.cell? ⟨gb589, 1, none⟩ = some (.slice A0_1 l0_1.length c0_1)) (ds := []) (bl_ 9 0) (by kernel_rfl) rfl (by kernel_rfl) ⟨cz0_ BK589, cz1_ BK589⟩ (fun hHeld => ?_); refine with_tabW impl_TurnSurface.tab3 impl_TurnSurface.bits3 (fun HT_ HW_ => ?_)
    generalize w10.drew = w11 at BK589 BK590 HB hHeld ⊢
    refine pu_ 0 (some 8) (bl_ 9 1) HT_ ?_
    refine pu_ 3 (some 11) (bl_ 9 9) HT_ ?_
    refine ta_ 1 (some 9) (bl_ 9 11) HT_ HW_ hHeld ?_
    refine ta_ 4 (some 12) (bl_ 9 27) HT_ HW_ hHeld ?_
    refine on_ 2 (some 10) (bl_ 9 31) HT_ (fun K hK => ?_)
    refine gO_ Try.func122 #[.slice A0_1 l0_1.length c0_1] (by rfl) rfl rfl qa_ ?_
    with_reducible refine (impl_InversePerm.calls k _ _ l0_1 t592 _ (cb_ HR0_1) HC0_1.out A4.out).mono ?_
    rintro e w12 ⟨v593, rfl, ho0, hb⟩
    refine ⟨_, rfl, ?_⟩
    have HO594 := rl_ w ho0
    replace BK589 := bb_ BK589 hb
    replace BK590 := bb_ BK590 hb
    replace HB := b1_ hb
    clear hb ho0
    refine hK.out _ _ ⟨cz0_ BK589, cz1_ BK589⟩ (fun hHeld => ?_)
    clear hK K
    refine no_ (some 10) ?_
    refine on_ 5 (some 13) (bl_ 9 63) HT_ (fun K hK => ?_)
    refine gO_ Try.func100 #[.slice A0_0 l0_0.length c0_0] (by rfl) rfl rfl qa_ ?_
    with_reducible refine (impl_copyInts.calls _ _ l0_0 t595 _ (cb_ HR0_0) HC0_0.out A5.out).mono ?_
    rintro e w13 ⟨v596, rfl, ho0, hb⟩
    refine ⟨_, rfl, ?_⟩
    have HO597 := Aside0.mk (Kd.R_lower (Kd.R_new' ho0 (Kd.R_lt (rr_ HO594))) (below_size hB_))
    replace HO594 := Aside0.mk (Kd.R_elder' (rr_ HO594) (Kd.R_base ho0) hb)
    replace BK589 := bb_ BK589 hb
    replace BK590 := bb_ BK590 hb
    replace HB := b1_ hb
    clear hb ho0
    obtain ⟨Ao14, co14, eo14⟩ := Kd.R_slice HO597.out
    (first | subst eo14 | (injection eo14 with f1_ f2_ f3_; have f4_ := f1_.symm; have f5_ := f3_.symm; clear f1_ f2_ f3_; subst f4_; subst f5_))
    obtain ⟨Ao15, co15, eo15⟩ := Kd.R_slice HO594.out
    (first | subst eo15 | (injection eo15 with f1_ f2_ f3_; have f4_ := f1_.symm; have f5_ := f3_.symm; clear f1_ f2_ f3_; subst f4_; subst f5_))
    refine hK.out _ _ ⟨cz0_ BK589, cz1_ BK589⟩ (fun hHeld => ?_)
    clear hK K
    refine no_ (some 13) ?_
    refine pu_ 6 (some 14) (bl_ 9 127) HT_ ?_
    refine on_ 7 (none) (bl_ 9 255) HT_ (fun K hK => ?_)
    have hs16 : w13.cell? ⟨gb590, 0, none⟩ = some (.slice none 0 0) := cz0_ BK590
    have hfs16 := blk_frozen BK590.out 0
    have hns16_0 := NB589_590.out
    have hms16_0 := NB590_589.out
    have hs17 : w13.cell? ⟨gb590, 1, none⟩ = some (.slice none 0 0) := cz1_ BK590
    have hfs17 := blk_frozen BK590.out 1
    have hns17_0 := NB589_590.out
    have hms17_0 := NB590_589.out
    refine skip_ (w1 := ?_) (by rfl) rfl ?_ ?_
    rotate_left
    · go_simp
      rfl
    refine hK.out _ _ ⟨((cell_far (p := ⟨gb590, _, none⟩) NB589_590.out _).trans (((cell_far (p := ⟨gb590, _, none⟩) NB589_590.out _).trans (hHeld.1)))), ((cell_far (p := ⟨gb590, _, none⟩) NB589_590.out _).trans (((cell_far (p := ⟨gb590, _, none⟩) NB589_590.out _).trans (hHeld.2))))⟩ (fun hHeld => ?_)
    clear hK K
    refine pu_ 8 (some 3) (bl_ 9 511) HT_ ?_
    refine done_ (done_of HT_.out (by kernel_rfl)) ?_
    try go_wp2
    refine bodyPost_ret (results_ct rfl _ _ gb590 33 #[.slice Ao15 t592.length co15, .slice Ao14 t595.length co14] (0, 0) _ rfl qp_ Try.underlying33 rfl (by kernel_rfl)) rfl ?_
    exact ⟨_, _, qb_, (rw_ (Kd.R_mono (fa_ HO594 BK590) (fun _ hk => hk.2))), (rw_ (Kd.R_mono (fa_ HO597 BK590) (fun _ hk => hk.2))), hB_⟩
  · replace c3 := Bool.eq_false_iff.mpr c3
    subst c3
    have H1 : (some (([] : List Int), ([] : List Int), false)) = some (r1, r2, r3) := by rw [if_neg (show ¬ (false = true) by decide)] at H; exact H
    clear H
    have H := H1
    clear H1
    simp only [Option.some.injEq, Prod.mk.injEq] at H
    obtain ⟨rfl, rfl, rfl⟩ := H
    go_enter Try.func116, Try.ntmps116
    go_wp2_with (first | ((with_reducible refine gate_dst (N := 1) rfl ?_); refine bx_ 1 #[.slice A0_0 l0_0.length c0_0, .slice A0_1 l0_1.length c0_1] 33 ?_; intro gb589 hg w18 hbox hb; have BK589 := Aside0.mk hbox; have GW589 := gw_ w hg; have GE589 := GW589; replace HB := b1_ hb; clear hb hbox hg) | ((with_reducible refine gate_dst (N := 2) rfl ?_); refine bx_ 2 #[.slice none 0 0, .slice none 0 0] 33 ?_; intro gb590 hg w19 hbox hb; have BK590 := Aside0.mk hbox; have GW590 := gw_ w hg; have GE590 := GW590; replace HB := b1_ hb; have NB589_590 := gN_ BK589 hg; have NB590_589 := gP_ BK589 hg; replace BK589 := bb_ BK589 hb; clear hb hbox hg; have hnb20 := NB589_590.out; have hnc20 := NB590_589.out; obtain ⟨hcz21_0, hcz21_1, hfz21_0, hfz21_1⟩ := c2_ BK589) | ((with_reducible refine gate_callee (f := 19) rfl ?_); refine gL_ (some 5) Try.func19 #[.agg #[.slice A0_0 l0_0.length c0_0, .slice A0_1 l0_1.length c0_1]] rfl qa_ ?_; (with_reducible refine (impl_SurfaceOk.calls k _ _ l0_0 _ _ l0_1 false _ (cb_ HR0_0) HC0_0.out (cb_ HR0_1) HC0_1.out A2.out).mono ?_); rintro e w22 ⟨rfl, hb⟩; refine ⟨_, rfl, ?_⟩; replace BK589 := bb_ BK589 hb; replace BK590 := bb_ BK590 hb; replace HB := b1_ hb; clear hb; obtain ⟨hcz23_0, hcz23_1, hfz23_0, hfz23_1⟩ := c2_ BK590))
    refine bodyPost_ret (results_ct rfl _ _ gb590 33 #[.slice none 0 0, .slice none 0 0] (0, 0) _ rfl qp_ Try.underlying33 rfl (by kernel_rfl)) rfl ?_
    exact ⟨_, _, qb_, by first | exact Kd.R_nil _ _ _ _ _ | exact Kd.N_nil _ _ _ _ _ | exact Kd.V_nil _ _ _ _ _ | exact Kd.Q_nil _ _ _ _ _ | exact Kd.S_nil _ _ _ _ _, by first | exact Kd.R_nil _ _ _ _ _ | exact Kd.N_nil _ _ _ _ _ | exact Kd.V_nil _ _ _ _ _ | exact Kd.Q_nil _ _ _ _ _ | exact Kd.S_nil _ _ _ _ _, hB_⟩
end Go.Proofs.Ytoijcallajegfaa.A
end
