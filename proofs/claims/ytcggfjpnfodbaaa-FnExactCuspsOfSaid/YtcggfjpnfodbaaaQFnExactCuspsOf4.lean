/- Lemmas for the row FnExactCuspsOf: the program's functions told as plain functions, and plain mathematics. No conditions. -/
import Derived.Test.YtcggfjpnfodbaaaQFnExactCuspsOf3
section
namespace Go.Proofs.Ytcggfjpnfodbaaa.A
open Go.RowKit Go.Proofs.YtcggfjpnfodbaaaW.PrintWords Go.Proofs.YtcggfjpnfodbaaaW.PrintLast Go.Proofs.YtcggfjpnfodbaaaW.PrintMore
attribute [local go_sem] max2_int min2_int max_two min_two max_three min_three max_four min_four
set_option linter.unusedVariables false
set_option linter.unusedSimpArgs false
def spec_l05Shear.f (k : Nat) (l0_0 : List Int) (l0_1 : List Int) : Option (List Int × List Int) := (some (([] : List Int) : List Int)).bind fun y798 => (if y798.length + l0_0.length < 17592186044416 then ((spec_l02Inverse.f k l0_0).bind fun t804 => ((spec_l02Then.f k t804 l0_1).bind fun t807 => (some ((y798 ++ l0_0), t807)))) else (none))
theorem spec_l05Shear.mono : ∀ a0 a1 k, LeO (spec_l05Shear.f k a0 a1) (spec_l05Shear.f (k + 1) a0 a1) := by
  intro a0 a1 k
  unfold spec_l05Shear.f
  repeat' first|exact spec_l02Inverse.mono _ _|exact spec_l02Then.mono _ _ _|exact lo_|refine LeO.ite ?_ ?_|refine LeO.bind ?_ (fun _ => ?_)
def spec_l05Shear.T1 : Bool × List (List Nat × List Nat) := (true, [([], []), ([], []), ([1], [1]), ([0, 2], [0, 2]), ([], []), ([4], [4]), ([5, 3], [5]), ([], []), ([7], [7]), ([6, 8, 6], [6, 8]), ([3, 9], [3, 9]), ([10, 9, 0, 1, 2, 3, 4, 5, 6, 7, 8, 9, 10], [10])])
def spec_l05Shear.B1 : List Nat := [0, 0, 2, 7, 0, 16, 63, 0, 128, 511, 1023, 2047]
theorem spec_l05Shear.tab1 : rtab .any (opsOf Try.f124 1) = spec_l05Shear.T1 := by kernel_rfl
theorem spec_l05Shear.bits1 : waitsOk spec_l05Shear.T1.2 spec_l05Shear.B1 = true := by kernel_rfl
set_option maxHeartbeats 8000000 in
set_option maxRecDepth 100000 in
theorem spec_l05Shear.calls (k : Nat) (A0_0 : Option Addr) (c0_0 : Nat) (l0_0 : List Int) (A0_1 : Option Addr) (c0_1 : Nat) (l0_1 : List Int) (r1 : List Int) (r2 : List Int) (w : World) (hr0_0 : Kd.C (Kd.int .i64) w A0_0 l0_0.length l0_0) (hc0_0 : l0_0.length ≤ c0_0) (hr0_1 : Kd.C (Kd.int .i64) w A0_1 l0_1.length l0_1) (hc0_1 : l0_1.length ≤ c0_1) (h : spec_l05Shear.f k l0_0 l0_1 = some (r1, r2)) :
    Calls Try.prog 124 #[.agg #[.slice A0_0 l0_0.length c0_0, .slice A0_1 l0_1.length c0_1]] w fun e w' => ∃ v0_ v1_ : Value, e = .returned (.agg #[v0_, v1_]) ∧ Kd.R (Kd.int .i64) 3 w' w.heap.size (fun k_ => some k_ ≠ (v1_ : Value).ownBlock) v0_ r1 ∧ Kd.R (Kd.int .i64) 3 w' w.heap.size (fun k_ => some k_ ≠ (v0_ : Value).ownBlock) v1_ r2 ∧ Below w.heap.size w w' := by
  have hu25 := Try.underlying25
  have HR0_0 := Aside0.mk hr0_0
  have HC0_0 := Aside0.mk hc0_0
  clear hr0_0 hc0_0
  have HR0_1 := Aside0.mk hr0_1
  have HC0_1 := Aside0.mk hc0_1
  clear hr0_1 hc0_1
  have HB := Aside0.mk (Below.refl w.heap.size w)
  have H := h
  unfold spec_l05Shear.f at H
  clear h
  obtain ⟨y798, hy798⟩ : ∃ y_ : List Int, y_ = (([] : List Int)) := ⟨_, rfl⟩
  replace H : (if y798.length + l0_0.length < 17592186044416 then ((spec_l02Inverse.f k l0_0).bind fun t804 => ((spec_l02Then.f k t804 l0_1).bind fun t807 => (some ((y798 ++ l0_0), t807)))) else (none)) = some (r1, r2) := by first | (rw [hy798]; exact H) | exact H
  have Ny798 := Aside0.mk hy798
  clear hy798
  have c2 := cp_ H
  replace H := ca_ H
  have LMc2 := Aside0.mk c2
  clear c2
  obtain ⟨y801, hy801⟩ : ∃ y_ : List Int, y_ = (y798 ++ l0_0) := ⟨_, rfl⟩
  replace H : ((spec_l02Inverse.f k l0_0).bind fun t804 => ((spec_l02Then.f k t804 l0_1).bind fun t807 => (some (y801, t807)))) = some (r1, r2) := by first | (rw [hy801]; exact H) | exact H
  have Ny801 := Aside0.mk hy801
  clear hy801
  obtain ⟨t804, A3, H⟩ := bi_ H
  obtain ⟨t807, A4, H⟩ := bi_ H
  simp only [Option.some.injEq, Prod.mk.injEq] at H
  obtain ⟨rfl, rfl⟩ := H
  go_enter Try.func124, Try.ntmps124
  try go_wp2_with (first | ((with_reducible refine gate_dst (N := 1) rfl ?_); refine bx_ 1 #[.slice A0_0 l0_0.length c0_0, .slice A0_1 l0_1.length c0_1] 25 ?_; intro gb796 hg w5 hbox hb; have BK796 := Aside0.mk hbox; have GW796 := gw_ w hg; have GE796 := GW796; replace HB := b1_ hb; clear hb hbox hg) | ((with_reducible refine gate_dst (N := 2) rfl ?_); refine bx_ 2 #[.slice none 0 0, .slice none 0 0] 25 ?_; intro gb797 hg w6 hbox hb; have BK797 := Aside0.mk hbox; have GW797 := gw_ w hg; have GE797 := GW797; replace HB := b1_ hb; have NB796_797 := gN_ BK796 hg; have NB797_796 := gP_ BK796 hg; replace BK796 := bb_ BK796 hb; clear hb hbox hg))
  replace BK796 := Aside0.mk (blk_drew BK796.out)
  replace BK797 := Aside0.mk (blk_drew BK797.out)
  replace HB := Aside0.mk (below_drew1 HB.out)
  refine start_ (n := 12) (S := fun w' => w'.cell? ⟨gb796, 0, none⟩ = some (.slice A0_0 l0_0.length c0_0) ∧ w'.cell? ⟨gb796, 1, none⟩ = some (.slice A0_1 l0_1.length c0_1)) (ds := []) (bl_ 12 0) (by kernel_rfl) rfl (by kernel_rfl) ⟨cz0_ BK796, cz1_ BK796⟩ (fun hHeld => ?_); refine with_tabW spec_l05Shear.tab1 spec_l05Shear.bits1 (fun HT_ HW_ => ?_)
  generalize w6.drew = w7 at BK796 BK797 HB hHeld ⊢
  refine pu_ 1 (some 4) (bl_ 12 2) HT_ ?_
  refine pu_ 4 (some 7) (bl_ 12 18) HT_ ?_
  refine pu_ 7 (some 10) (bl_ 12 146) HT_ ?_
  refine ta_ 2 (some 5) (bl_ 12 150) HT_ HW_ hHeld ?_
  refine ta_ 5 (some 8) (bl_ 12 182) HT_ HW_ hHeld ?_
  refine ta_ 8 (some 11) (bl_ 12 438) HT_ HW_ hHeld ?_
  refine on_ 0 (some 3) (bl_ 12 439) HT_ (fun K hK => ?_)
  refine Kd.R_lit_step (Kd.int .i64) _ 3 ?hg (N := 3) ?hd (xs := ([] : List Int)) (inner := []) (ok := fun _ => True) (okp := fun _ => True) ?hr ?hp (fun _ hk => hk) trivial (Below.refl _ _) (Nat.le_refl _) (by simp) ?_; (case hd => rfl); (case hg => rfl); (case hr => first | (go_simp; done) | (go_simp; rfl)); (case hp => exact (Reps.none _ _))
  intro v799 w8 ho9 hb hg_ hnew_
  clear hg_ hnew_
  (first | rw [← Ny798.out] at ho9 | (simp only [Int.reduceToNat] at ho9; rw [← Ny798.out] at ho9))
  have HO800 := rl_ w ho9
  replace BK796 := bb_ BK796 hb
  replace BK797 := bb_ BK797 hb
  replace HB := b1_ hb
  clear hb ho9
  refine hK.out _ _ ⟨cz0_ BK796, cz1_ BK796⟩ (fun hHeld => ?_)
  clear hK K
  refine no_ (some 3) ?_
  refine on_ 3 (some 6) (bl_ 12 447) HT_ (fun K hK => ?_)
  refine Kd.R_append_rows_step (Kd.int .i64) (w0 := w) w.heap.size (by rfl) (.tmp 3) (.tmp 5) 23 3 (.int .i64 0) 8 rfl Try.underlying23 info3 rfl (by decide) (by omega) v799 y798 l0_0 _ _ _ (fun _ => True) (fun _ => False) rfl rfl ?aO ?aR (fun _ _ h => h) (fun _ h => h.elim) ?aF ?aB ?aS ?aL ?_
  (case aR => exact cb_ HR0_0)
  (case aB => exact hB_)
  (case aF => exact (fun _ _ => trivial))
  (case aO => exact (rr_ HO800))
  (case aS => exact (below_size hB_))
  (case aL => have := LMc2.out; omega)
  intro v802 w10 ho hb hg hat
  rw [← Ny801.out] at ho
  replace BK796 := Aside0.mk (blk_grown (kk_ BK796) hg (Kd.R_ne HO800.out BK796.out (by decide)))
  replace BK797 := Aside0.mk (blk_grown (kk_ BK797) hg (Kd.R_ne HO800.out BK797.out (by decide)))
  replace HB := Aside0.mk hb
  have HO803 := Aside0.mk ho
  clear HO800
  clear ho hb hg hat
  refine hK.out _ _ ⟨cz0_ BK796, cz1_ BK796⟩ (fun hHeld => ?_)
  clear hK K
  refine no_ (some 6) ?_
  refine on_ 6 (some 9) (bl_ 12 511) HT_ (fun K hK => ?_)
  refine gO_ Try.func150 #[.slice A0_0 l0_0.length c0_0] (by rfl) rfl rfl qa_ ?_
  with_reducible refine (spec_l02Inverse.calls k _ _ l0_0 t804 _ (cb_ HR0_0) HC0_0.out A3.out).mono ?_
  rintro e w11 ⟨v805, rfl, ho0, hb⟩
  refine ⟨_, rfl, ?_⟩
  have HO806 := Aside0.mk (Kd.R_lower (Kd.R_new' ho0 (Kd.R_lt (rr_ HO803))) (below_size hB_))
  replace HO803 := Aside0.mk (Kd.R_elder' (rr_ HO803) (Kd.R_base ho0) hb)
  replace BK796 := bb_ BK796 hb
  replace BK797 := bb_ BK797 hb
  replace HB := b1_ hb
  clear hb ho0
  obtain ⟨Ao12, co12, eo12⟩ := Kd.R_slice HO806.out
  (first | subst eo12 | (injection eo12 with f1_ f2_ f3_; have f4_ := f1_.symm; have f5_ := f3_.symm; clear f1_ f2_ f3_; subst f4_; subst f5_))
  refine hK.out _ _ ⟨cz0_ BK796, cz1_ BK796⟩ (fun hHeld => ?_)
  clear hK K
  refine no_ (some 9) ?_
  refine on_ 9 (some 12) (bl_ 12 1023) HT_ (fun K hK => ?_)
  refine gO_ Try.func154 #[.slice Ao12 t804.length co12, .slice A0_1 l0_1.length c0_1] (by rfl) rfl rfl qa_ ?_
  with_reducible refine (spec_l02Then.calls k _ _ t804 _ _ l0_1 t807 _ (cr_ HO806) ((Kd.R_reads' HO806.out).2.1) (cb_ HR0_1) HC0_1.out A4.out).mono ?_
  rintro e w13 ⟨v808, rfl, ho0, hb⟩
  refine ⟨_, rfl, ?_⟩
  have HO809 := Aside0.mk (Kd.R_lower (Kd.R_new' (Kd.R_new' ho0 (Kd.R_lt (rr_ HO803))) (Kd.R_lt (rr_ HO806))) (below_size hB_))
  replace HO803 := Aside0.mk (Kd.R_elder' (rr_ HO803) (Kd.R_base ho0) hb)
  replace HO806 := Aside0.mk (Kd.R_elder' (rr_ HO806) (Kd.R_base ho0) hb)
  replace BK796 := bb_ BK796 hb
  replace BK797 := bb_ BK797 hb
  replace HB := b1_ hb
  clear hb ho0
  obtain ⟨Ao14, co14, eo14⟩ := Kd.R_slice HO809.out
  (first | subst eo14 | (injection eo14 with f1_ f2_ f3_; have f4_ := f1_.symm; have f5_ := f3_.symm; clear f1_ f2_ f3_; subst f4_; subst f5_))
  obtain ⟨Ao15, co15, eo15⟩ := Kd.R_slice HO803.out
  (first | subst eo15 | (injection eo15 with f1_ f2_ f3_; have f4_ := f1_.symm; have f5_ := f3_.symm; clear f1_ f2_ f3_; subst f4_; subst f5_))
  refine hK.out _ _ ⟨cz0_ BK796, cz1_ BK796⟩ (fun hHeld => ?_)
  clear hK K
  refine no_ (some 12) ?_
  refine pu_ 10 (some 13) (bl_ 12 2047) HT_ ?_
  refine on_ 11 (none) (bl_ 12 4095) HT_ (fun K hK => ?_)
  have hs16 : w13.cell? ⟨gb797, 0, none⟩ = some (.slice none 0 0) := cz0_ BK797
  have hfs16 := blk_frozen BK797.out 0
  have hns16_0 := NB796_797.out
  have hms16_0 := NB797_796.out
  have hs17 : w13.cell? ⟨gb797, 1, none⟩ = some (.slice none 0 0) := cz1_ BK797
  have hfs17 := blk_frozen BK797.out 1
  have hns17_0 := NB796_797.out
  have hms17_0 := NB797_796.out
  refine skip_ (w1 := ?_) (by rfl) rfl ?_ ?_
  rotate_left
  · go_simp
    rfl
  refine hK.out _ _ ⟨((cell_far (p := ⟨gb797, _, none⟩) NB796_797.out _).trans (((cell_far (p := ⟨gb797, _, none⟩) NB796_797.out _).trans (hHeld.1)))), ((cell_far (p := ⟨gb797, _, none⟩) NB796_797.out _).trans (((cell_far (p := ⟨gb797, _, none⟩) NB796_797.out _).trans (hHeld.2))))⟩ (fun hHeld => ?_)
  clear hK K
  refine done_ (done_of HT_.out (by kernel_rfl)) ?_
  try go_wp2
  refine bodyPost_ret (results_cell_row rfl _ _ gb797 25 #[.slice Ao15 y801.length co15, .slice Ao14 t807.length co14] (0, 0) _ rfl qp_ Try.underlying25 rfl (by kernel_rfl)) rfl ?_
  exact ⟨_, _, qb_, (rw_ (Kd.R_mono (fa_ HO803 BK797) (fun _ hk => hk.2))), (rw_ (Kd.R_mono (fa_ HO809 BK797) (fun _ hk => hk.1.2))), hB_⟩
end Go.Proofs.Ytcggfjpnfodbaaa.A
end
section
namespace Go.Proofs.Ytcggfjpnfodbaaa.A
open Go.RowKit Go.Proofs.YtcggfjpnfodbaaaW.PrintWords Go.Proofs.YtcggfjpnfodbaaaW.PrintLast Go.Proofs.YtcggfjpnfodbaaaW.PrintMore
attribute [local go_sem] max2_int min2_int max_two min_two max_three min_three max_four min_four
set_option linter.unusedVariables false
set_option linter.unusedSimpArgs false
def spec_l05Unshear.f (k : Nat) (l0_0 : List Int) (l0_1 : List Int) : Option (List Int × List Int) := (some (([] : List Int) : List Int)).bind fun y812 => (if y812.length + l0_0.length < 17592186044416 then ((spec_l02Then.f k l0_0 l0_1).bind fun t818 => (some ((y812 ++ l0_0), t818))) else (none))
theorem spec_l05Unshear.mono : ∀ a0 a1 k, LeO (spec_l05Unshear.f k a0 a1) (spec_l05Unshear.f (k + 1) a0 a1) := by
  intro a0 a1 k
  unfold spec_l05Unshear.f
  repeat' first|exact spec_l02Then.mono _ _ _|exact lo_|refine LeO.ite ?_ ?_|refine LeO.bind ?_ (fun _ => ?_)
def spec_l05Unshear.T1 : Bool × List (List Nat × List Nat) := (true, [([], []), ([], []), ([1], [1]), ([0, 2], [0, 2]), ([], []), ([4], [4]), ([], []), ([6], [6]), ([5, 7, 3], [5, 7]), ([3, 8], [3, 8]), ([9, 8, 0, 1, 2, 3, 4, 5, 6, 7, 8, 9], [9])])
def spec_l05Unshear.B1 : List Nat := [0, 0, 2, 7, 0, 16, 0, 64, 255, 511, 1023]
theorem spec_l05Unshear.tab1 : rtab .any (opsOf Try.f125 1) = spec_l05Unshear.T1 := by kernel_rfl
theorem spec_l05Unshear.bits1 : waitsOk spec_l05Unshear.T1.2 spec_l05Unshear.B1 = true := by kernel_rfl
set_option maxHeartbeats 8000000 in
set_option maxRecDepth 100000 in
theorem spec_l05Unshear.calls (k : Nat) (A0_0 : Option Addr) (c0_0 : Nat) (l0_0 : List Int) (A0_1 : Option Addr) (c0_1 : Nat) (l0_1 : List Int) (r1 : List Int) (r2 : List Int) (w : World) (hr0_0 : Kd.C (Kd.int .i64) w A0_0 l0_0.length l0_0) (hc0_0 : l0_0.length ≤ c0_0) (hr0_1 : Kd.C (Kd.int .i64) w A0_1 l0_1.length l0_1) (hc0_1 : l0_1.length ≤ c0_1) (h : spec_l05Unshear.f k l0_0 l0_1 = some (r1, r2)) :
    Calls Try.prog 125 #[.agg #[.slice A0_0 l0_0.length c0_0, .slice A0_1 l0_1.length c0_1]] w fun e w' => ∃ v0_ v1_ : Value, e = .returned (.agg #[v0_, v1_]) ∧ Kd.R (Kd.int .i64) 3 w' w.heap.size (fun k_ => some k_ ≠ (v1_ : Value).ownBlock) v0_ r1 ∧ Kd.R (Kd.int .i64) 3 w' w.heap.size (fun k_ => some k_ ≠ (v0_ : Value).ownBlock) v1_ r2 ∧ Below w.heap.size w w' := by
  have hu25 := Try.underlying25
  have HR0_0 := Aside0.mk hr0_0
  have HC0_0 := Aside0.mk hc0_0
  clear hr0_0 hc0_0
  have HR0_1 := Aside0.mk hr0_1
  have HC0_1 := Aside0.mk hc0_1
  clear hr0_1 hc0_1
  have HB := Aside0.mk (Below.refl w.heap.size w)
  have H := h
  unfold spec_l05Unshear.f at H
  clear h
  obtain ⟨y812, hy812⟩ : ∃ y_ : List Int, y_ = (([] : List Int)) := ⟨_, rfl⟩
  replace H : (if y812.length + l0_0.length < 17592186044416 then ((spec_l02Then.f k l0_0 l0_1).bind fun t818 => (some ((y812 ++ l0_0), t818))) else (none)) = some (r1, r2) := by first | (rw [hy812]; exact H) | exact H
  have Ny812 := Aside0.mk hy812
  clear hy812
  have c2 := cp_ H
  replace H := ca_ H
  have LMc2 := Aside0.mk c2
  clear c2
  obtain ⟨y815, hy815⟩ : ∃ y_ : List Int, y_ = (y812 ++ l0_0) := ⟨_, rfl⟩
  replace H : ((spec_l02Then.f k l0_0 l0_1).bind fun t818 => (some (y815, t818))) = some (r1, r2) := by first | (rw [hy815]; exact H) | exact H
  have Ny815 := Aside0.mk hy815
  clear hy815
  obtain ⟨t818, A3, H⟩ := bi_ H
  simp only [Option.some.injEq, Prod.mk.injEq] at H
  obtain ⟨rfl, rfl⟩ := H
  go_enter Try.func125, Try.ntmps125
  try go_wp2_with (first | ((with_reducible refine gate_dst (N := 1) rfl ?_); refine bx_ 1 #[.slice A0_0 l0_0.length c0_0, .slice A0_1 l0_1.length c0_1] 25 ?_; intro gb810 hg w4 hbox hb; have BK810 := Aside0.mk hbox; have GW810 := gw_ w hg; have GE810 := GW810; replace HB := b1_ hb; clear hb hbox hg) | ((with_reducible refine gate_dst (N := 2) rfl ?_); refine bx_ 2 #[.slice none 0 0, .slice none 0 0] 25 ?_; intro gb811 hg w5 hbox hb; have BK811 := Aside0.mk hbox; have GW811 := gw_ w hg; have GE811 := GW811; replace HB := b1_ hb; have NB810_811 := gN_ BK810 hg; have NB811_810 := gP_ BK810 hg; replace BK810 := bb_ BK810 hb; clear hb hbox hg))
  replace BK810 := Aside0.mk (blk_drew BK810.out)
  replace BK811 := Aside0.mk (blk_drew BK811.out)
  replace HB := Aside0.mk (below_drew1 HB.out)
  refine start_ (n := 11) (S := fun w' => w'.cell? ⟨gb810, 0, none⟩ = some (.slice A0_0 l0_0.length c0_0) ∧ w'.cell? ⟨gb810, 1, none⟩ = some (.slice A0_1 l0_1.length c0_1)) (ds := []) (bl_ 11 0) (by kernel_rfl) rfl (by kernel_rfl) ⟨cz0_ BK810, cz1_ BK810⟩ (fun hHeld => ?_); refine with_tabW spec_l05Unshear.tab1 spec_l05Unshear.bits1 (fun HT_ HW_ => ?_)
  generalize w5.drew = w6 at BK810 BK811 HB hHeld ⊢
  refine pu_ 1 (some 4) (bl_ 11 2) HT_ ?_
  refine pu_ 4 (some 7) (bl_ 11 18) HT_ ?_
  refine pu_ 6 (some 9) (bl_ 11 82) HT_ ?_
  refine ta_ 2 (some 5) (bl_ 11 86) HT_ HW_ hHeld ?_
  refine ta_ 5 (some 8) (bl_ 11 118) HT_ HW_ hHeld ?_
  refine ta_ 7 (some 10) (bl_ 11 246) HT_ HW_ hHeld ?_
  refine on_ 0 (some 3) (bl_ 11 247) HT_ (fun K hK => ?_)
  refine Kd.R_lit_step (Kd.int .i64) _ 3 ?hg (N := 3) ?hd (xs := ([] : List Int)) (inner := []) (ok := fun _ => True) (okp := fun _ => True) ?hr ?hp (fun _ hk => hk) trivial (Below.refl _ _) (Nat.le_refl _) (by simp) ?_; (case hd => rfl); (case hg => rfl); (case hr => first | (go_simp; done) | (go_simp; rfl)); (case hp => exact (Reps.none _ _))
  intro v813 w7 ho8 hb hg_ hnew_
  clear hg_ hnew_
  (first | rw [← Ny812.out] at ho8 | (simp only [Int.reduceToNat] at ho8; rw [← Ny812.out] at ho8))
  have HO814 := rl_ w ho8
  replace BK810 := bb_ BK810 hb
  replace BK811 := bb_ BK811 hb
  replace HB := b1_ hb
  clear hb ho8
  refine hK.out _ _ ⟨cz0_ BK810, cz1_ BK810⟩ (fun hHeld => ?_)
  clear hK K
  refine no_ (some 3) ?_
  refine on_ 3 (some 6) (bl_ 11 255) HT_ (fun K hK => ?_)
  refine Kd.R_append_rows_step (Kd.int .i64) (w0 := w) w.heap.size (by rfl) (.tmp 3) (.tmp 5) 23 3 (.int .i64 0) 8 rfl Try.underlying23 info3 rfl (by decide) (by omega) v813 y812 l0_0 _ _ _ (fun _ => True) (fun _ => False) rfl rfl ?aO ?aR (fun _ _ h => h) (fun _ h => h.elim) ?aF ?aB ?aS ?aL ?_
  (case aR => exact cb_ HR0_0)
  (case aB => exact hB_)
  (case aF => exact (fun _ _ => trivial))
  (case aO => exact (rr_ HO814))
  (case aS => exact (below_size hB_))
  (case aL => have := LMc2.out; omega)
  intro v816 w9 ho hb hg hat
  rw [← Ny815.out] at ho
  replace BK810 := Aside0.mk (blk_grown (kk_ BK810) hg (Kd.R_ne HO814.out BK810.out (by decide)))
  replace BK811 := Aside0.mk (blk_grown (kk_ BK811) hg (Kd.R_ne HO814.out BK811.out (by decide)))
  replace HB := Aside0.mk hb
  have HO817 := Aside0.mk ho
  clear HO814
  clear ho hb hg hat
  refine hK.out _ _ ⟨cz0_ BK810, cz1_ BK810⟩ (fun hHeld => ?_)
  clear hK K
  refine no_ (some 6) ?_
  refine on_ 8 (some 11) (bl_ 11 511) HT_ (fun K hK => ?_)
  refine gO_ Try.func154 #[.slice A0_0 l0_0.length c0_0, .slice A0_1 l0_1.length c0_1] (by rfl) rfl rfl qa_ ?_
  with_reducible refine (spec_l02Then.calls k _ _ l0_0 _ _ l0_1 t818 _ (cb_ HR0_0) HC0_0.out (cb_ HR0_1) HC0_1.out A3.out).mono ?_
  rintro e w10 ⟨v819, rfl, ho0, hb⟩
  refine ⟨_, rfl, ?_⟩
  have HO820 := Aside0.mk (Kd.R_lower (Kd.R_new' ho0 (Kd.R_lt (rr_ HO817))) (below_size hB_))
  replace HO817 := Aside0.mk (Kd.R_elder' (rr_ HO817) (Kd.R_base ho0) hb)
  replace BK810 := bb_ BK810 hb
  replace BK811 := bb_ BK811 hb
  replace HB := b1_ hb
  clear hb ho0
  obtain ⟨Ao11, co11, eo11⟩ := Kd.R_slice HO820.out
  (first | subst eo11 | (injection eo11 with f1_ f2_ f3_; have f4_ := f1_.symm; have f5_ := f3_.symm; clear f1_ f2_ f3_; subst f4_; subst f5_))
  obtain ⟨Ao12, co12, eo12⟩ := Kd.R_slice HO817.out
  (first | subst eo12 | (injection eo12 with f1_ f2_ f3_; have f4_ := f1_.symm; have f5_ := f3_.symm; clear f1_ f2_ f3_; subst f4_; subst f5_))
  refine hK.out _ _ ⟨cz0_ BK810, cz1_ BK810⟩ (fun hHeld => ?_)
  clear hK K
  refine no_ (some 11) ?_
  refine pu_ 9 (some 12) (bl_ 11 1023) HT_ ?_
  refine on_ 10 (none) (bl_ 11 2047) HT_ (fun K hK => ?_)
  have hs13 : w10.cell? ⟨gb811, 0, none⟩ = some (.slice none 0 0) := cz0_ BK811
  have hfs13 := blk_frozen BK811.out 0
  have hns13_0 := NB810_811.out
  have hms13_0 := NB811_810.out
  have hs14 : w10.cell? ⟨gb811, 1, none⟩ = some (.slice none 0 0) := cz1_ BK811
  have hfs14 := blk_frozen BK811.out 1
  have hns14_0 := NB810_811.out
  have hms14_0 := NB811_810.out
  refine skip_ (w1 := ?_) (by rfl) rfl ?_ ?_
  rotate_left
  · go_simp
    rfl
  refine hK.out _ _ ⟨((cell_far (p := ⟨gb811, _, none⟩) NB810_811.out _).trans (((cell_far (p := ⟨gb811, _, none⟩) NB810_811.out _).trans (hHeld.1)))), ((cell_far (p := ⟨gb811, _, none⟩) NB810_811.out _).trans (((cell_far (p := ⟨gb811, _, none⟩) NB810_811.out _).trans (hHeld.2))))⟩ (fun hHeld => ?_)
  clear hK K
  refine done_ (done_of HT_.out (by kernel_rfl)) ?_
  try go_wp2
  refine bodyPost_ret (results_cell_row rfl _ _ gb811 25 #[.slice Ao12 y815.length co12, .slice Ao11 t818.length co11] (0, 0) _ rfl qp_ Try.underlying25 rfl (by kernel_rfl)) rfl ?_
  exact ⟨_, _, qb_, (rw_ (Kd.R_mono (fa_ HO817 BK811) (fun _ hk => hk.2))), (rw_ (Kd.R_mono (fa_ HO820 BK811) (fun _ hk => hk.2))), hB_⟩
end Go.Proofs.Ytcggfjpnfodbaaa.A
end
section
namespace Go.Proofs.Ytcggfjpnfodbaaa.A
open Go.RowKit Go.Proofs.YtcggfjpnfodbaaaW.PrintWords Go.Proofs.YtcggfjpnfodbaaaW.PrintLast Go.Proofs.YtcggfjpnfodbaaaW.PrintMore
attribute [local go_sem] max2_int min2_int max_two min_two max_three min_three max_four min_four
set_option linter.unusedVariables false
set_option linter.unusedSimpArgs false
def spec_l05Turn.f (k : Nat) (l0_0 : List Int) (l0_1 : List Int) : Option (List Int × List Int) := (spec_l02Inverse.f k l0_1).bind fun t823 => ((some (([] : List Int) : List Int)).bind fun y826 => (if y826.length + l0_0.length < 17592186044416 then (some (t823, (y826 ++ l0_0))) else (none)))
theorem spec_l05Turn.mono : ∀ a0 a1 k, LeO (spec_l05Turn.f k a0 a1) (spec_l05Turn.f (k + 1) a0 a1) := by
  intro a0 a1 k
  unfold spec_l05Turn.f
  repeat' first|exact spec_l02Inverse.mono _ _|exact lo_|refine LeO.ite ?_ ?_|refine LeO.bind ?_ (fun _ => ?_)
def spec_l05Turn.T1 : Bool × List (List Nat × List Nat) := (true, [([], []), ([0], [0]), ([1], [1]), ([], []), ([], []), ([4], [4]), ([3, 5, 2], [3, 5]), ([2, 6], [2, 6]), ([7, 6, 0, 1, 2, 3, 4, 5, 6, 7], [7])])
def spec_l05Turn.B1 : List Nat := [0, 1, 3, 0, 0, 16, 63, 127, 255]
theorem spec_l05Turn.tab1 : rtab .any (opsOf Try.f126 1) = spec_l05Turn.T1 := by kernel_rfl
theorem spec_l05Turn.bits1 : waitsOk spec_l05Turn.T1.2 spec_l05Turn.B1 = true := by kernel_rfl
set_option maxHeartbeats 8000000 in
set_option maxRecDepth 100000 in
theorem spec_l05Turn.calls (k : Nat) (A0_0 : Option Addr) (c0_0 : Nat) (l0_0 : List Int) (A0_1 : Option Addr) (c0_1 : Nat) (l0_1 : List Int) (r1 : List Int) (r2 : List Int) (w : World) (hr0_0 : Kd.C (Kd.int .i64) w A0_0 l0_0.length l0_0) (hc0_0 : l0_0.length ≤ c0_0) (hr0_1 : Kd.C (Kd.int .i64) w A0_1 l0_1.length l0_1) (hc0_1 : l0_1.length ≤ c0_1) (h : spec_l05Turn.f k l0_0 l0_1 = some (r1, r2)) :
    Calls Try.prog 126 #[.agg #[.slice A0_0 l0_0.length c0_0, .slice A0_1 l0_1.length c0_1]] w fun e w' => ∃ v0_ v1_ : Value, e = .returned (.agg #[v0_, v1_]) ∧ Kd.R (Kd.int .i64) 3 w' w.heap.size (fun k_ => some k_ ≠ (v1_ : Value).ownBlock) v0_ r1 ∧ Kd.R (Kd.int .i64) 3 w' w.heap.size (fun k_ => some k_ ≠ (v0_ : Value).ownBlock) v1_ r2 ∧ Below w.heap.size w w' := by
  have hu25 := Try.underlying25
  have HR0_0 := Aside0.mk hr0_0
  have HC0_0 := Aside0.mk hc0_0
  clear hr0_0 hc0_0
  have HR0_1 := Aside0.mk hr0_1
  have HC0_1 := Aside0.mk hc0_1
  clear hr0_1 hc0_1
  have HB := Aside0.mk (Below.refl w.heap.size w)
  have H := h
  unfold spec_l05Turn.f at H
  clear h
  obtain ⟨t823, A2, H⟩ := bi_ H
  obtain ⟨y826, hy826⟩ : ∃ y_ : List Int, y_ = (([] : List Int)) := ⟨_, rfl⟩
  replace H : (if y826.length + l0_0.length < 17592186044416 then (some (t823, (y826 ++ l0_0))) else (none)) = some (r1, r2) := by first | (rw [hy826]; exact H) | exact H
  have Ny826 := Aside0.mk hy826
  clear hy826
  have c3 := cp_ H
  replace H := ca_ H
  have LMc3 := Aside0.mk c3
  clear c3
  obtain ⟨y829, hy829⟩ : ∃ y_ : List Int, y_ = (y826 ++ l0_0) := ⟨_, rfl⟩
  replace H : (some (t823, y829)) = some (r1, r2) := by first | (rw [hy829]; exact H) | exact H
  have Ny829 := Aside0.mk hy829
  clear hy829
  simp only [Option.some.injEq, Prod.mk.injEq] at H
  obtain ⟨rfl, rfl⟩ := H
  go_enter Try.func126, Try.ntmps126
  try go_wp2_with (first | ((with_reducible refine gate_dst (N := 1) rfl ?_); refine bx_ 1 #[.slice A0_0 l0_0.length c0_0, .slice A0_1 l0_1.length c0_1] 25 ?_; intro gb821 hg w4 hbox hb; have BK821 := Aside0.mk hbox; have GW821 := gw_ w hg; have GE821 := GW821; replace HB := b1_ hb; clear hb hbox hg) | ((with_reducible refine gate_dst (N := 2) rfl ?_); refine bx_ 2 #[.slice none 0 0, .slice none 0 0] 25 ?_; intro gb822 hg w5 hbox hb; have BK822 := Aside0.mk hbox; have GW822 := gw_ w hg; have GE822 := GW822; replace HB := b1_ hb; have NB821_822 := gN_ BK821 hg; have NB822_821 := gP_ BK821 hg; replace BK821 := bb_ BK821 hb; clear hb hbox hg))
  replace BK821 := Aside0.mk (blk_drew BK821.out)
  replace BK822 := Aside0.mk (blk_drew BK822.out)
  replace HB := Aside0.mk (below_drew1 HB.out)
  refine start_ (n := 9) (S := fun w' => w'.cell? ⟨gb821, 0, none⟩ = some (.slice A0_0 l0_0.length c0_0) ∧ w'.cell? ⟨gb821, 1, none⟩ = some (.slice A0_1 l0_1.length c0_1)) (ds := []) (bl_ 9 0) (by kernel_rfl) rfl (by kernel_rfl) ⟨cz0_ BK821, cz1_ BK821⟩ (fun hHeld => ?_); refine with_tabW spec_l05Turn.tab1 spec_l05Turn.bits1 (fun HT_ HW_ => ?_)
  generalize w5.drew = w6 at BK821 BK822 HB hHeld ⊢
  refine pu_ 0 (some 3) (bl_ 9 1) HT_ ?_
  refine pu_ 4 (some 7) (bl_ 9 17) HT_ ?_
  refine ta_ 1 (some 4) (bl_ 9 19) HT_ HW_ hHeld ?_
  refine ta_ 5 (some 8) (bl_ 9 51) HT_ HW_ hHeld ?_
  refine join_ (σ := Value × Value) 3 (bl_ 9 63) (fun s_ => [(5, s_.1), (6, s_.2)]) (fun s_ w' => (w'.cell? ⟨gb821, 0, none⟩ = some (.slice A0_0 l0_0.length c0_0) ∧ w'.cell? ⟨gb821, 1, none⟩ = some (.slice A0_1 l0_1.length c0_1)) ∧ (Kd.R (Kd.int .i64) 3 w' w.heap.size (fun k_ => some k_ ≠ (s_.2 : Value).ownBlock) s_.1 t823) ∧ (Kd.R (Kd.int .i64) 3 w' w.heap.size (fun k_ => some k_ ≠ (s_.1 : Value).ownBlock) s_.2 y826) ∧ (w'.heap[gb821]? = some (.cells #[.slice A0_0 l0_0.length c0_0, .slice A0_1 l0_1.length c0_1] 25 (0, 0))) ∧ (w'.heap[gb822]? = some (.cells #[.slice none 0 0, .slice none 0 0] 25 (0, 0))) ∧ (Below w.heap.size w w')) ?_ ?_
  rotate_left
  · intro hCont
    refine two_ (i := 2) (j := 3) (Ni := some 5) (Nj := some 6) (bl_ 9 55) (bl_ 9 59) rfl rfl rfl rfl (two_of HT_.out (by kernel_rfl)) (by decide) (by decide) (fun K hK => ?_) (fun K hK => ?_)
    · skip
      refine gO_ Try.func150 #[.slice A0_1 l0_1.length c0_1] (by rfl) rfl rfl qa_ ?_
      with_reducible refine (spec_l02Inverse.calls k _ _ l0_1 t823 _ (cb_ HR0_1) HC0_1.out A2.out).mono ?_
      rintro e w7 ⟨v824, rfl, ho0, hb⟩
      refine ⟨_, rfl, ?_⟩
      have HO825 := rl_ w ho0
      replace BK821 := bb_ BK821 hb
      replace BK822 := bb_ BK822 hb
      replace HB := b1_ hb
      clear hb ho0
      refine hK.out _ _ ⟨cz0_ BK821, cz1_ BK821⟩ (fun hHeld => ?_)
      clear hK K
      refine no_ (some 5) ?_
      refine on_ 3 (some 6) (bl_ 9 63) HT_ (fun K hK => ?_)
      refine Kd.R_lit_step (Kd.int .i64) _ 3 ?hg (N := 6) ?hd (xs := ([] : List Int)) (inner := []) (ok := fun _ => True) (okp := fun _ => True) ?hr ?hp (fun _ hk => hk) trivial (Below.refl _ _) (Nat.le_refl _) (by simp) ?_; (case hd => rfl); (case hg => rfl); (case hr => first | (go_simp; done) | (go_simp; rfl)); (case hp => exact (Reps.none _ _))
      intro v827 w8 ho9 hb hg_ hnew_
      clear hg_ hnew_
      (first | rw [← Ny826.out] at ho9 | (simp only [Int.reduceToNat] at ho9; rw [← Ny826.out] at ho9))
      have HO828 := Aside0.mk (Kd.R_lower (Kd.R_new' ho9 (Kd.R_lt (rr_ HO825))) (below_size hB_))
      replace HO825 := Aside0.mk (Kd.R_elder' (rr_ HO825) (Kd.R_base ho9) hb)
      replace BK821 := bb_ BK821 hb
      replace BK822 := bb_ BK822 hb
      replace HB := b1_ hb
      clear hb ho9
      refine hK.out _ _ ⟨cz0_ BK821, cz1_ BK821⟩ (fun hHeld => ?_)
      clear hK K
      refine no_ (some 6) ?_
      exact norm_ (by simp only [putAll, Act.put, List.setIfInBounds_toArray, List.set_cons_zero, List.set_cons_succ]) (hCont (v824, v827) _ ⟨hHeld, (rw_ (Kd.R_mono HO825.out (fun _ hk => hk.2))), (rw_ (Kd.R_mono HO828.out (fun _ hk => hk.2))), (kk_ BK821), (kk_ BK822), hB_⟩)
    · skip
      refine Kd.R_lit_step (Kd.int .i64) _ 3 ?hg (N := 6) ?hd (xs := ([] : List Int)) (inner := []) (ok := fun _ => True) (okp := fun _ => True) ?hr ?hp (fun _ hk => hk) trivial (Below.refl _ _) (Nat.le_refl _) (by simp) ?_; (case hd => rfl); (case hg => rfl); (case hr => first | (go_simp; done) | (go_simp; rfl)); (case hp => exact (Reps.none _ _))
      intro v827 w7 ho8 hb hg_ hnew_
      clear hg_ hnew_
      (first | rw [← Ny826.out] at ho8 | (simp only [Int.reduceToNat] at ho8; rw [← Ny826.out] at ho8))
      have HO828 := rl_ w ho8
      replace BK821 := bb_ BK821 hb
      replace BK822 := bb_ BK822 hb
      replace HB := b1_ hb
      clear hb ho8
      refine hK.out _ _ ⟨cz0_ BK821, cz1_ BK821⟩ (fun hHeld => ?_)
      clear hK K
      refine no_ (some 6) ?_
      refine on_ 2 (some 5) (bl_ 9 63) HT_ (fun K hK => ?_)
      refine gO_ Try.func150 #[.slice A0_1 l0_1.length c0_1] (by rfl) rfl rfl qa_ ?_
      with_reducible refine (spec_l02Inverse.calls k _ _ l0_1 t823 _ (cb_ HR0_1) HC0_1.out A2.out).mono ?_
      rintro e w9 ⟨v824, rfl, ho0, hb⟩
      refine ⟨_, rfl, ?_⟩
      have HO825 := Aside0.mk (Kd.R_lower (Kd.R_new' ho0 (Kd.R_lt (rr_ HO828))) (below_size hB_))
      replace HO828 := Aside0.mk (Kd.R_elder' (rr_ HO828) (Kd.R_base ho0) hb)
      replace BK821 := bb_ BK821 hb
      replace BK822 := bb_ BK822 hb
      replace HB := b1_ hb
      clear hb ho0
      refine hK.out _ _ ⟨cz0_ BK821, cz1_ BK821⟩ (fun hHeld => ?_)
      clear hK K
      refine no_ (some 5) ?_
      exact norm_ (by simp only [putAll, Act.put, List.setIfInBounds_toArray, List.set_cons_zero, List.set_cons_succ]) (hCont (v824, v827) _ ⟨hHeld, (rw_ (Kd.R_mono HO825.out (fun _ hk => hk.2))), (rw_ (Kd.R_mono HO828.out (fun _ hk => hk.2))), (kk_ BK821), (kk_ BK822), hB_⟩)
  rintro ⟨v824, v827⟩ w10 ⟨hS_, h0_, h1_, h2_, h3_, h4_⟩
  have n0_ : Aside0 (Kd.R (Kd.int .i64) 3 w10 w.heap.size (fun k_ => some k_ ≠ (v827 : Value).ownBlock) v824 t823) := ⟨h0_⟩
  have n1_ : Aside0 (Kd.R (Kd.int .i64) 3 w10 w.heap.size (fun k_ => some k_ ≠ (v824 : Value).ownBlock) v827 y826) := ⟨h1_⟩
  have n2_ : Aside0 (w10.heap[gb821]? = some (.cells #[.slice A0_0 l0_0.length c0_0, .slice A0_1 l0_1.length c0_1] 25 (0, 0))) := ⟨h2_⟩
  have n3_ : Aside0 (w10.heap[gb822]? = some (.cells #[.slice none 0 0, .slice none 0 0] 25 (0, 0))) := ⟨h3_⟩
  have n4_ : Aside0 (Below w.heap.size w w10) := ⟨h4_⟩
  clear BK821
  clear BK822
  clear HB
  clear h0_ h1_ h2_ h3_ h4_
  have HO825 := n0_
  have HO828 := n1_
  have BK821 := n2_
  have BK822 := n3_
  have HB := n4_
  clear n0_ n1_ n2_ n3_ n4_
  have hHeld : w10.cell? ⟨gb821, 0, none⟩ = some (.slice A0_0 l0_0.length c0_0) ∧ w10.cell? ⟨gb821, 1, none⟩ = some (.slice A0_1 l0_1.length c0_1) := hS_
  refine norm_ (a' := ?_) ?_ ?_
  rotate_left
  · simp only [putAll, Act.put, List.setIfInBounds_toArray, List.set_cons_zero, List.set_cons_succ]
    rfl
  refine on_ 6 (some 9) (bl_ 9 127) HT_ (fun K hK => ?_)
  refine Kd.R_append_rows_step (Kd.int .i64) (w0 := w) w.heap.size (by rfl) (.tmp 6) (.tmp 8) 23 3 (.int .i64 0) 8 rfl Try.underlying23 info3 rfl (by decide) (by omega) v827 y826 l0_0 _ _ _ (fun k_ => some k_ ≠ (v824 : Value).ownBlock) (fun _ => False) rfl rfl ?aO ?aR (fun _ _ h => h) (fun _ h => h.elim) ?aF ?aB ?aS ?aL ?_
  (case aR => exact cb_ HR0_0)
  (case aB => exact hB_)
  (case aF => exact (fun k_ hk => Kd.fresh' (Kd.R_lt (rr_ HO825)) k_ hk))
  (case aO => exact (rr_ HO828))
  (case aS => exact (below_size hB_))
  (case aL => have := LMc3.out; omega)
  intro v830 w11 ho hb hg hat
  rw [← Ny829.out] at ho
  replace BK821 := Aside0.mk (blk_grown (kk_ BK821) hg (Kd.R_ne HO828.out BK821.out (by decide)))
  replace BK822 := Aside0.mk (blk_grown (kk_ BK822) hg (Kd.R_ne HO828.out BK822.out (by decide)))
  replace HO825 := Aside0.mk (Kd.R_after (ok := (fun _ => True)) (rw_ (Kd.R_mono HO825.out (fun _ hk => ⟨trivial, hk⟩))) hg hat)
  replace HB := Aside0.mk hb
  have HO831 := Aside0.mk ho
  clear HO828
  clear ho hb hg hat
  obtain ⟨Ao12, co12, eo12⟩ := Kd.R_slice HO831.out
  (first | subst eo12 | (injection eo12 with f1_ f2_ f3_; have f4_ := f1_.symm; have f5_ := f3_.symm; clear f1_ f2_ f3_; subst f4_; subst f5_))
  obtain ⟨Ao13, co13, eo13⟩ := Kd.R_slice HO825.out
  (first | subst eo13 | (injection eo13 with f1_ f2_ f3_; have f4_ := f1_.symm; have f5_ := f3_.symm; clear f1_ f2_ f3_; subst f4_; subst f5_))
  refine hK.out _ _ ⟨cz0_ BK821, cz1_ BK821⟩ (fun hHeld => ?_)
  clear hK K
  refine no_ (some 9) ?_
  refine pu_ 7 (some 10) (bl_ 9 255) HT_ ?_
  refine on_ 8 (none) (bl_ 9 511) HT_ (fun K hK => ?_)
  have hs14 : w11.cell? ⟨gb822, 0, none⟩ = some (.slice none 0 0) := cz0_ BK822
  have hfs14 := blk_frozen BK822.out 0
  have hns14_0 := NB821_822.out
  have hms14_0 := NB822_821.out
  have hs15 : w11.cell? ⟨gb822, 1, none⟩ = some (.slice none 0 0) := cz1_ BK822
  have hfs15 := blk_frozen BK822.out 1
  have hns15_0 := NB821_822.out
  have hms15_0 := NB822_821.out
  refine skip_ (w1 := ?_) (by rfl) rfl ?_ ?_
  rotate_left
  · go_simp
    rfl
  refine hK.out _ _ ⟨((cell_far (p := ⟨gb822, _, none⟩) NB821_822.out _).trans (((cell_far (p := ⟨gb822, _, none⟩) NB821_822.out _).trans (hHeld.1)))), ((cell_far (p := ⟨gb822, _, none⟩) NB821_822.out _).trans (((cell_far (p := ⟨gb822, _, none⟩) NB821_822.out _).trans (hHeld.2))))⟩ (fun hHeld => ?_)
  clear hK K
  refine done_ (done_of HT_.out (by kernel_rfl)) ?_
  try go_wp2
  refine bodyPost_ret (results_cell_row rfl _ _ gb822 25 #[.slice Ao13 t823.length co13, .slice Ao12 y829.length co12] (0, 0) _ rfl qp_ Try.underlying25 rfl (by kernel_rfl)) rfl ?_
  exact ⟨_, _, qb_, (rw_ (Kd.R_mono (fa_ HO825 BK822) (fun _ hk => hk.2))), (rw_ (fa_ HO831 BK822)), hB_⟩
end Go.Proofs.Ytcggfjpnfodbaaa.A
end
section
namespace Go.Proofs.Ytcggfjpnfodbaaa.A
open Go.RowKit Go.Proofs.YtcggfjpnfodbaaaW.PrintWords Go.Proofs.YtcggfjpnfodbaaaW.PrintLast Go.Proofs.YtcggfjpnfodbaaaW.PrintMore
attribute [local go_sem] max2_int min2_int max_two min_two max_three min_three max_four min_four
set_option linter.unusedVariables false
set_option linter.unusedSimpArgs false
def spec_l05Unturn.f (k : Nat) (l0_0 : List Int) (l0_1 : List Int) : Option (List Int × List Int) := (some (([] : List Int) : List Int)).bind fun y834 => (if y834.length + l0_1.length < 17592186044416 then ((spec_l02Inverse.f k l0_0).bind fun t840 => (some ((y834 ++ l0_1), t840))) else (none))
theorem spec_l05Unturn.mono : ∀ a0 a1 k, LeO (spec_l05Unturn.f k a0 a1) (spec_l05Unturn.f (k + 1) a0 a1) := by
  intro a0 a1 k
  unfold spec_l05Unturn.f
  repeat' first|exact spec_l02Inverse.mono _ _|exact lo_|refine LeO.ite ?_ ?_|refine LeO.bind ?_ (fun _ => ?_)
def spec_l05Unturn.T1 : Bool × List (List Nat × List Nat) := (true, [([], []), ([], []), ([1], [1]), ([0, 2], [0, 2]), ([], []), ([4], [4]), ([5, 3], [5]), ([3, 6], [3, 6]), ([7, 6, 0, 1, 2, 3, 4, 5, 6, 7], [7])])
def spec_l05Unturn.B1 : List Nat := [0, 0, 2, 7, 0, 16, 63, 127, 255]
theorem spec_l05Unturn.tab1 : rtab .any (opsOf Try.f127 1) = spec_l05Unturn.T1 := by kernel_rfl
theorem spec_l05Unturn.bits1 : waitsOk spec_l05Unturn.T1.2 spec_l05Unturn.B1 = true := by kernel_rfl
set_option maxHeartbeats 8000000 in
set_option maxRecDepth 100000 in
theorem spec_l05Unturn.calls (k : Nat) (A0_0 : Option Addr) (c0_0 : Nat) (l0_0 : List Int) (A0_1 : Option Addr) (c0_1 : Nat) (l0_1 : List Int) (r1 : List Int) (r2 : List Int) (w : World) (hr0_0 : Kd.C (Kd.int .i64) w A0_0 l0_0.length l0_0) (hc0_0 : l0_0.length ≤ c0_0) (hr0_1 : Kd.C (Kd.int .i64) w A0_1 l0_1.length l0_1) (hc0_1 : l0_1.length ≤ c0_1) (h : spec_l05Unturn.f k l0_0 l0_1 = some (r1, r2)) :
    Calls Try.prog 127 #[.agg #[.slice A0_0 l0_0.length c0_0, .slice A0_1 l0_1.length c0_1]] w fun e w' => ∃ v0_ v1_ : Value, e = .returned (.agg #[v0_, v1_]) ∧ Kd.R (Kd.int .i64) 3 w' w.heap.size (fun k_ => some k_ ≠ (v1_ : Value).ownBlock) v0_ r1 ∧ Kd.R (Kd.int .i64) 3 w' w.heap.size (fun k_ => some k_ ≠ (v0_ : Value).ownBlock) v1_ r2 ∧ Below w.heap.size w w' := by
  have hu25 := Try.underlying25
  have HR0_0 := Aside0.mk hr0_0
  have HC0_0 := Aside0.mk hc0_0
  clear hr0_0 hc0_0
  have HR0_1 := Aside0.mk hr0_1
  have HC0_1 := Aside0.mk hc0_1
  clear hr0_1 hc0_1
  have HB := Aside0.mk (Below.refl w.heap.size w)
  have H := h
  unfold spec_l05Unturn.f at H
  clear h
  obtain ⟨y834, hy834⟩ : ∃ y_ : List Int, y_ = (([] : List Int)) := ⟨_, rfl⟩
  replace H : (if y834.length + l0_1.length < 17592186044416 then ((spec_l02Inverse.f k l0_0).bind fun t840 => (some ((y834 ++ l0_1), t840))) else (none)) = some (r1, r2) := by first | (rw [hy834]; exact H) | exact H
  have Ny834 := Aside0.mk hy834
  clear hy834
  have c2 := cp_ H
  replace H := ca_ H
  have LMc2 := Aside0.mk c2
  clear c2
  obtain ⟨y837, hy837⟩ : ∃ y_ : List Int, y_ = (y834 ++ l0_1) := ⟨_, rfl⟩
  replace H : ((spec_l02Inverse.f k l0_0).bind fun t840 => (some (y837, t840))) = some (r1, r2) := by first | (rw [hy837]; exact H) | exact H
  have Ny837 := Aside0.mk hy837
  clear hy837
  obtain ⟨t840, A3, H⟩ := bi_ H
  simp only [Option.some.injEq, Prod.mk.injEq] at H
  obtain ⟨rfl, rfl⟩ := H
  go_enter Try.func127, Try.ntmps127
  try go_wp2_with (first | ((with_reducible refine gate_dst (N := 1) rfl ?_); refine bx_ 1 #[.slice A0_0 l0_0.length c0_0, .slice A0_1 l0_1.length c0_1] 25 ?_; intro gb832 hg w4 hbox hb; have BK832 := Aside0.mk hbox; have GW832 := gw_ w hg; have GE832 := GW832; replace HB := b1_ hb; clear hb hbox hg) | ((with_reducible refine gate_dst (N := 2) rfl ?_); refine bx_ 2 #[.slice none 0 0, .slice none 0 0] 25 ?_; intro gb833 hg w5 hbox hb; have BK833 := Aside0.mk hbox; have GW833 := gw_ w hg; have GE833 := GW833; replace HB := b1_ hb; have NB832_833 := gN_ BK832 hg; have NB833_832 := gP_ BK832 hg; replace BK832 := bb_ BK832 hb; clear hb hbox hg))
  replace BK832 := Aside0.mk (blk_drew BK832.out)
  replace BK833 := Aside0.mk (blk_drew BK833.out)
  replace HB := Aside0.mk (below_drew1 HB.out)
  refine start_ (n := 9) (S := fun w' => w'.cell? ⟨gb832, 0, none⟩ = some (.slice A0_0 l0_0.length c0_0) ∧ w'.cell? ⟨gb832, 1, none⟩ = some (.slice A0_1 l0_1.length c0_1)) (ds := []) (bl_ 9 0) (by kernel_rfl) rfl (by kernel_rfl) ⟨cz0_ BK832, cz1_ BK832⟩ (fun hHeld => ?_); refine with_tabW spec_l05Unturn.tab1 spec_l05Unturn.bits1 (fun HT_ HW_ => ?_)
  generalize w5.drew = w6 at BK832 BK833 HB hHeld ⊢
  refine pu_ 1 (some 4) (bl_ 9 2) HT_ ?_
  refine pu_ 4 (some 7) (bl_ 9 18) HT_ ?_
  refine ta_ 2 (some 5) (bl_ 9 22) HT_ HW_ hHeld ?_
  refine ta_ 5 (some 8) (bl_ 9 54) HT_ HW_ hHeld ?_
  refine on_ 0 (some 3) (bl_ 9 55) HT_ (fun K hK => ?_)
  refine Kd.R_lit_step (Kd.int .i64) _ 3 ?hg (N := 3) ?hd (xs := ([] : List Int)) (inner := []) (ok := fun _ => True) (okp := fun _ => True) ?hr ?hp (fun _ hk => hk) trivial (Below.refl _ _) (Nat.le_refl _) (by simp) ?_; (case hd => rfl); (case hg => rfl); (case hr => first | (go_simp; done) | (go_simp; rfl)); (case hp => exact (Reps.none _ _))
  intro v835 w7 ho8 hb hg_ hnew_
  clear hg_ hnew_
  (first | rw [← Ny834.out] at ho8 | (simp only [Int.reduceToNat] at ho8; rw [← Ny834.out] at ho8))
  have HO836 := rl_ w ho8
  replace BK832 := bb_ BK832 hb
  replace BK833 := bb_ BK833 hb
  replace HB := b1_ hb
  clear hb ho8
  refine hK.out _ _ ⟨cz0_ BK832, cz1_ BK832⟩ (fun hHeld => ?_)
  clear hK K
  refine no_ (some 3) ?_
  refine on_ 3 (some 6) (bl_ 9 63) HT_ (fun K hK => ?_)
  refine Kd.R_append_rows_step (Kd.int .i64) (w0 := w) w.heap.size (by rfl) (.tmp 3) (.tmp 5) 23 3 (.int .i64 0) 8 rfl Try.underlying23 info3 rfl (by decide) (by omega) v835 y834 l0_1 _ _ _ (fun _ => True) (fun _ => False) rfl rfl ?aO ?aR (fun _ _ h => h) (fun _ h => h.elim) ?aF ?aB ?aS ?aL ?_
  (case aR => exact cb_ HR0_1)
  (case aB => exact hB_)
  (case aF => exact (fun _ _ => trivial))
  (case aO => exact (rr_ HO836))
  (case aS => exact (below_size hB_))
  (case aL => have := LMc2.out; omega)
  intro v838 w9 ho hb hg hat
  rw [← Ny837.out] at ho
  replace BK832 := Aside0.mk (blk_grown (kk_ BK832) hg (Kd.R_ne HO836.out BK832.out (by decide)))
  replace BK833 := Aside0.mk (blk_grown (kk_ BK833) hg (Kd.R_ne HO836.out BK833.out (by decide)))
  replace HB := Aside0.mk hb
  have HO839 := Aside0.mk ho
  clear HO836
  clear ho hb hg hat
  refine hK.out _ _ ⟨cz0_ BK832, cz1_ BK832⟩ (fun hHeld => ?_)
  clear hK K
  refine no_ (some 6) ?_
  refine on_ 6 (some 9) (bl_ 9 127) HT_ (fun K hK => ?_)
  refine gO_ Try.func150 #[.slice A0_0 l0_0.length c0_0] (by rfl) rfl rfl qa_ ?_
  with_reducible refine (spec_l02Inverse.calls k _ _ l0_0 t840 _ (cb_ HR0_0) HC0_0.out A3.out).mono ?_
  rintro e w10 ⟨v841, rfl, ho0, hb⟩
  refine ⟨_, rfl, ?_⟩
  have HO842 := Aside0.mk (Kd.R_lower (Kd.R_new' ho0 (Kd.R_lt (rr_ HO839))) (below_size hB_))
  replace HO839 := Aside0.mk (Kd.R_elder' (rr_ HO839) (Kd.R_base ho0) hb)
  replace BK832 := bb_ BK832 hb
  replace BK833 := bb_ BK833 hb
  replace HB := b1_ hb
  clear hb ho0
  obtain ⟨Ao11, co11, eo11⟩ := Kd.R_slice HO842.out
  (first | subst eo11 | (injection eo11 with f1_ f2_ f3_; have f4_ := f1_.symm; have f5_ := f3_.symm; clear f1_ f2_ f3_; subst f4_; subst f5_))
  obtain ⟨Ao12, co12, eo12⟩ := Kd.R_slice HO839.out
  (first | subst eo12 | (injection eo12 with f1_ f2_ f3_; have f4_ := f1_.symm; have f5_ := f3_.symm; clear f1_ f2_ f3_; subst f4_; subst f5_))
  refine hK.out _ _ ⟨cz0_ BK832, cz1_ BK832⟩ (fun hHeld => ?_)
  clear hK K
  refine no_ (some 9) ?_
  refine pu_ 7 (some 10) (bl_ 9 255) HT_ ?_
  refine on_ 8 (none) (bl_ 9 511) HT_ (fun K hK => ?_)
  have hs13 : w10.cell? ⟨gb833, 0, none⟩ = some (.slice none 0 0) := cz0_ BK833
  have hfs13 := blk_frozen BK833.out 0
  have hns13_0 := NB832_833.out
  have hms13_0 := NB833_832.out
  have hs14 : w10.cell? ⟨gb833, 1, none⟩ = some (.slice none 0 0) := cz1_ BK833
  have hfs14 := blk_frozen BK833.out 1
  have hns14_0 := NB832_833.out
  have hms14_0 := NB833_832.out
  refine skip_ (w1 := ?_) (by rfl) rfl ?_ ?_
  rotate_left
  · go_simp
    rfl
  refine hK.out _ _ ⟨((cell_far (p := ⟨gb833, _, none⟩) NB832_833.out _).trans (((cell_far (p := ⟨gb833, _, none⟩) NB832_833.out _).trans (hHeld.1)))), ((cell_far (p := ⟨gb833, _, none⟩) NB832_833.out _).trans (((cell_far (p := ⟨gb833, _, none⟩) NB832_833.out _).trans (hHeld.2))))⟩ (fun hHeld => ?_)
  clear hK K
  refine done_ (done_of HT_.out (by kernel_rfl)) ?_
  try go_wp2
  refine bodyPost_ret (results_cell_row rfl _ _ gb833 25 #[.slice Ao12 y837.length co12, .slice Ao11 t840.length co11] (0, 0) _ rfl qp_ Try.underlying25 rfl (by kernel_rfl)) rfl ?_
  exact ⟨_, _, qb_, (rw_ (Kd.R_mono (fa_ HO839 BK833) (fun _ hk => hk.2))), (rw_ (Kd.R_mono (fa_ HO842 BK833) (fun _ hk => hk.2))), hB_⟩
end Go.Proofs.Ytcggfjpnfodbaaa.A
end
section
namespace Go.Proofs.Ytcggfjpnfodbaaa.A
open Go.RowKit Go.Proofs.YtcggfjpnfodbaaaW.PrintWords Go.Proofs.YtcggfjpnfodbaaaW.PrintLast Go.Proofs.YtcggfjpnfodbaaaW.PrintMore
attribute [local go_sem] max2_int min2_int max_two min_two max_three min_three max_four min_four
set_option linter.unusedVariables false
set_option linter.unusedSimpArgs false
def spec_l05Letter.f (k : Nat) (l0_0 : List Int) (l0_1 : List Int) (a1 : Int) : Option (List Int × List Int) := if a1 = 84 then ((spec_l05Shear.f k l0_0 l0_1).bind fun bt845 => (some (bt845.1, bt845.2))) else (if a1 = 116 then ((spec_l05Unshear.f k l0_0 l0_1).bind fun bt851 => (some (bt851.1, bt851.2))) else (if a1 = 83 then ((spec_l05Turn.f k l0_0 l0_1).bind fun bt857 => (some (bt857.1, bt857.2))) else ((spec_l05Unturn.f k l0_0 l0_1).bind fun bt863 => (some (bt863.1, bt863.2)))))
theorem spec_l05Letter.mono : ∀ a0 a1 a2 k, LeO (spec_l05Letter.f k a0 a1 a2) (spec_l05Letter.f (k + 1) a0 a1 a2) := by
  intro a0 a1 a2 k
  unfold spec_l05Letter.f
  repeat' first|exact spec_l05Shear.mono _ _ _|exact spec_l05Turn.mono _ _ _|exact spec_l05Unshear.mono _ _ _|exact spec_l05Unturn.mono _ _ _|exact lo_|refine LeO.ite ?_ ?_|refine LeO.bind ?_ (fun _ => ?_)
set_option maxHeartbeats 8000000 in
set_option maxRecDepth 100000 in
theorem spec_l05Letter.calls (k : Nat) (A0_0 : Option Addr) (c0_0 : Nat) (l0_0 : List Int) (A0_1 : Option Addr) (c0_1 : Nat) (l0_1 : List Int) (a1 : Int) (r1 : List Int) (r2 : List Int) (w : World) (hr0_0 : Kd.C (Kd.int .i64) w A0_0 l0_0.length l0_0) (hc0_0 : l0_0.length ≤ c0_0) (hr0_1 : Kd.C (Kd.int .i64) w A0_1 l0_1.length l0_1) (hc0_1 : l0_1.length ≤ c0_1) (h : spec_l05Letter.f k l0_0 l0_1 a1 = some (r1, r2)) :
    Calls Try.prog 87 #[.agg #[.slice A0_0 l0_0.length c0_0, .slice A0_1 l0_1.length c0_1], .int .u8 a1] w fun e w' => ∃ v0_ v1_ : Value, e = .returned (.agg #[v0_, v1_]) ∧ Kd.R (Kd.int .i64) 3 w' w.heap.size (fun k_ => some k_ ≠ (v1_ : Value).ownBlock) v0_ r1 ∧ Kd.R (Kd.int .i64) 3 w' w.heap.size (fun k_ => some k_ ≠ (v0_ : Value).ownBlock) v1_ r2 ∧ Below w.heap.size w w' := by
  have hu25 := Try.underlying25
  have HR0_0 := Aside0.mk hr0_0
  have HC0_0 := Aside0.mk hc0_0
  clear hr0_0 hc0_0
  have HR0_1 := Aside0.mk hr0_1
  have HC0_1 := Aside0.mk hc0_1
  clear hr0_1 hc0_1
  have HB := Aside0.mk (Below.refl w.heap.size w)
  have H := h
  unfold spec_l05Letter.f at H
  clear h
  by_cases c3 : a1 = 84
  · rw [if_pos c3] at H
    have c3b0 : (a1 == 84) = true := beq_iff_eq.mpr c3
    have c3b1 : (a1 != 84) = false := bne_eq_false_iff_eq.mpr c3
    clear c3
    obtain ⟨⟨t845, t848⟩, A4, H⟩ := bi_ H
    try dsimp only at H
    simp only [Option.some.injEq, Prod.mk.injEq] at H
    obtain ⟨rfl, rfl⟩ := H
    go_enter Try.func87, Try.ntmps87
    go_wp2_with (first | ((with_reducible refine gate_dst (N := 2) rfl ?_); refine bx_ 2 #[.slice A0_0 l0_0.length c0_0, .slice A0_1 l0_1.length c0_1] 25 ?_; intro gb843 hg w5 hbox hb; have BK843 := Aside0.mk hbox; have GW843 := gw_ w hg; have GE843 := GW843; replace HB := b1_ hb; clear hb hbox hg) | ((with_reducible refine gate_dst (N := 4) rfl ?_); refine bx_ 4 #[.slice none 0 0, .slice none 0 0] 25 ?_; intro gb844 hg w6 hbox hb; have BK844 := Aside0.mk hbox; have GW844 := gw_ w hg; have GE844 := GW844; replace HB := b1_ hb; have NB843_844 := gN_ BK843 hg; have NB844_843 := gP_ BK843 hg; replace BK843 := bb_ BK843 hb; clear hb hbox hg; have hnb7 := NB843_844.out; have hnc7 := NB844_843.out; obtain ⟨hcz8_0, hcz8_1, hfz8_0, hfz8_1⟩ := c2_ BK843) | ((with_reducible refine gate_callee (f := 124) rfl ?_); refine gL_ (some 9) Try.func124 #[.agg #[.slice A0_0 l0_0.length c0_0, .slice A0_1 l0_1.length c0_1]] rfl qa_ ?_; (with_reducible refine (spec_l05Shear.calls k _ _ l0_0 _ _ l0_1 t845 t848 _ (cb_ HR0_0) HC0_0.out (cb_ HR0_1) HC0_1.out A4.out).mono ?_); rintro e w9 ⟨v846, v849, rfl, ho0, ho1, hb⟩; refine ⟨_, rfl, ?_⟩; have HO847 := rl_ w ho0; have HO850 := rl_ w ho1; replace BK843 := bb_ BK843 hb; replace BK844 := bb_ BK844 hb; replace HB := b1_ hb; clear hb ho0 ho1; obtain ⟨Ao10, co10, eo10⟩ := Kd.R_slice HO847.out; subst eo10; obtain ⟨hcz11_0, hcz11_1, hfz11_0, hfz11_1⟩ := c2_ BK844; obtain ⟨Ao12, co12, eo12⟩ := Kd.R_slice HO850.out; subst eo12))
    refine bodyPost_ret (results_cell_row rfl _ _ gb844 25 #[.slice Ao10 t845.length co10, .slice Ao12 t848.length co12] (0, 0) _ rfl qp_ Try.underlying25 rfl (by kernel_rfl)) rfl ?_
    exact ⟨_, _, qb_, (rw_ (fa_ HO847 BK844)), (rw_ (fa_ HO850 BK844)), hB_⟩
  · rw [if_neg c3] at H
    have c3b0 : (a1 == 84) = false := beq_eq_false_iff_ne.mpr c3
    have c3b1 : (a1 != 84) = true := bne_iff_ne.mpr c3
    by_cases c13 : a1 = 116
    · rw [if_pos c13] at H
      have c13b0 : (a1 == 116) = true := beq_iff_eq.mpr c13
      have c13b1 : (a1 != 116) = false := bne_eq_false_iff_eq.mpr c13
      clear c13
      obtain ⟨⟨t851, t854⟩, A14, H⟩ := bi_ H
      try dsimp only at H
      simp only [Option.some.injEq, Prod.mk.injEq] at H
      obtain ⟨rfl, rfl⟩ := H
      go_enter Try.func87, Try.ntmps87
      go_wp2_with (first | ((with_reducible refine gate_dst (N := 2) rfl ?_); refine bx_ 2 #[.slice A0_0 l0_0.length c0_0, .slice A0_1 l0_1.length c0_1] 25 ?_; intro gb843 hg w15 hbox hb; have BK843 := Aside0.mk hbox; have GW843 := gw_ w hg; have GE843 := GW843; replace HB := b1_ hb; clear hb hbox hg) | ((with_reducible refine gate_dst (N := 4) rfl ?_); refine bx_ 4 #[.slice none 0 0, .slice none 0 0] 25 ?_; intro gb844 hg w16 hbox hb; have BK844 := Aside0.mk hbox; have GW844 := gw_ w hg; have GE844 := GW844; replace HB := b1_ hb; have NB843_844 := gN_ BK843 hg; have NB844_843 := gP_ BK843 hg; replace BK843 := bb_ BK843 hb; clear hb hbox hg; have hnb17 := NB843_844.out; have hnc17 := NB844_843.out; obtain ⟨hcz18_0, hcz18_1, hfz18_0, hfz18_1⟩ := c2_ BK843) | ((with_reducible refine gate_callee (f := 125) rfl ?_); refine gL_ (some 13) Try.func125 #[.agg #[.slice A0_0 l0_0.length c0_0, .slice A0_1 l0_1.length c0_1]] rfl qa_ ?_; (with_reducible refine (spec_l05Unshear.calls k _ _ l0_0 _ _ l0_1 t851 t854 _ (cb_ HR0_0) HC0_0.out (cb_ HR0_1) HC0_1.out A14.out).mono ?_); rintro e w19 ⟨v852, v855, rfl, ho0, ho1, hb⟩; refine ⟨_, rfl, ?_⟩; have HO853 := rl_ w ho0; have HO856 := rl_ w ho1; replace BK843 := bb_ BK843 hb; replace BK844 := bb_ BK844 hb; replace HB := b1_ hb; clear hb ho0 ho1; obtain ⟨Ao20, co20, eo20⟩ := Kd.R_slice HO853.out; subst eo20; obtain ⟨hcz21_0, hcz21_1, hfz21_0, hfz21_1⟩ := c2_ BK844; obtain ⟨Ao22, co22, eo22⟩ := Kd.R_slice HO856.out; subst eo22))
      refine bodyPost_ret (results_cell_row rfl _ _ gb844 25 #[.slice Ao20 t851.length co20, .slice Ao22 t854.length co22] (0, 0) _ rfl qp_ Try.underlying25 rfl (by kernel_rfl)) rfl ?_
      exact ⟨_, _, qb_, (rw_ (fa_ HO853 BK844)), (rw_ (fa_ HO856 BK844)), hB_⟩
    · rw [if_neg c13] at H
      have c13b0 : (a1 == 116) = false := beq_eq_false_iff_ne.mpr c13
      have c13b1 : (a1 != 116) = true := bne_iff_ne.mpr c13
      by_cases c23 : a1 = 83
      · rw [if_pos c23] at H
        have c23b0 : (a1 == 83) = true := beq_iff_eq.mpr c23
        have c23b1 : (a1 != 83) = false := bne_eq_false_iff_eq.mpr c23
        clear c23
        obtain ⟨⟨t857, t860⟩, A24, H⟩ := bi_ H
        try dsimp only at H
        simp only [Option.some.injEq, Prod.mk.injEq] at H
        obtain ⟨rfl, rfl⟩ := H
        go_enter Try.func87, Try.ntmps87
        go_wp2_with (first | ((with_reducible refine gate_dst (N := 2) rfl ?_); refine bx_ 2 #[.slice A0_0 l0_0.length c0_0, .slice A0_1 l0_1.length c0_1] 25 ?_; intro gb843 hg w25 hbox hb; have BK843 := Aside0.mk hbox; have GW843 := gw_ w hg; have GE843 := GW843; replace HB := b1_ hb; clear hb hbox hg) | ((with_reducible refine gate_dst (N := 4) rfl ?_); refine bx_ 4 #[.slice none 0 0, .slice none 0 0] 25 ?_; intro gb844 hg w26 hbox hb; have BK844 := Aside0.mk hbox; have GW844 := gw_ w hg; have GE844 := GW844; replace HB := b1_ hb; have NB843_844 := gN_ BK843 hg; have NB844_843 := gP_ BK843 hg; replace BK843 := bb_ BK843 hb; clear hb hbox hg; have hnb27 := NB843_844.out; have hnc27 := NB844_843.out; obtain ⟨hcz28_0, hcz28_1, hfz28_0, hfz28_1⟩ := c2_ BK843) | ((with_reducible refine gate_callee (f := 126) rfl ?_); refine gL_ (some 17) Try.func126 #[.agg #[.slice A0_0 l0_0.length c0_0, .slice A0_1 l0_1.length c0_1]] rfl qa_ ?_; (with_reducible refine (spec_l05Turn.calls k _ _ l0_0 _ _ l0_1 t857 t860 _ (cb_ HR0_0) HC0_0.out (cb_ HR0_1) HC0_1.out A24.out).mono ?_); rintro e w29 ⟨v858, v861, rfl, ho0, ho1, hb⟩; refine ⟨_, rfl, ?_⟩; have HO859 := rl_ w ho0; have HO862 := rl_ w ho1; replace BK843 := bb_ BK843 hb; replace BK844 := bb_ BK844 hb; replace HB := b1_ hb; clear hb ho0 ho1; obtain ⟨Ao30, co30, eo30⟩ := Kd.R_slice HO859.out; subst eo30; obtain ⟨hcz31_0, hcz31_1, hfz31_0, hfz31_1⟩ := c2_ BK844; obtain ⟨Ao32, co32, eo32⟩ := Kd.R_slice HO862.out; subst eo32))
        refine bodyPost_ret (results_cell_row rfl _ _ gb844 25 #[.slice Ao30 t857.length co30, .slice Ao32 t860.length co32] (0, 0) _ rfl qp_ Try.underlying25 rfl (by kernel_rfl)) rfl ?_
        exact ⟨_, _, qb_, (rw_ (fa_ HO859 BK844)), (rw_ (fa_ HO862 BK844)), hB_⟩
      · rw [if_neg c23] at H
        have c23b0 : (a1 == 83) = false := beq_eq_false_iff_ne.mpr c23
        have c23b1 : (a1 != 83) = true := bne_iff_ne.mpr c23
        obtain ⟨⟨t863, t866⟩, A33, H⟩ := bi_ H
        try dsimp only at H
        simp only [Option.some.injEq, Prod.mk.injEq] at H
        obtain ⟨rfl, rfl⟩ := H
        go_enter Try.func87, Try.ntmps87
        go_wp2_with (first | ((with_reducible refine gate_dst (N := 2) rfl ?_); refine bx_ 2 #[.slice A0_0 l0_0.length c0_0, .slice A0_1 l0_1.length c0_1] 25 ?_; intro gb843 hg w34 hbox hb; have BK843 := Aside0.mk hbox; have GW843 := gw_ w hg; have GE843 := GW843; replace HB := b1_ hb; clear hb hbox hg) | ((with_reducible refine gate_dst (N := 4) rfl ?_); refine bx_ 4 #[.slice none 0 0, .slice none 0 0] 25 ?_; intro gb844 hg w35 hbox hb; have BK844 := Aside0.mk hbox; have GW844 := gw_ w hg; have GE844 := GW844; replace HB := b1_ hb; have NB843_844 := gN_ BK843 hg; have NB844_843 := gP_ BK843 hg; replace BK843 := bb_ BK843 hb; clear hb hbox hg; have hnb36 := NB843_844.out; have hnc36 := NB844_843.out; obtain ⟨hcz37_0, hcz37_1, hfz37_0, hfz37_1⟩ := c2_ BK843) | ((with_reducible refine gate_callee (f := 127) rfl ?_); refine gL_ (some 19) Try.func127 #[.agg #[.slice A0_0 l0_0.length c0_0, .slice A0_1 l0_1.length c0_1]] rfl qa_ ?_; (with_reducible refine (spec_l05Unturn.calls k _ _ l0_0 _ _ l0_1 t863 t866 _ (cb_ HR0_0) HC0_0.out (cb_ HR0_1) HC0_1.out A33.out).mono ?_); rintro e w38 ⟨v864, v867, rfl, ho0, ho1, hb⟩; refine ⟨_, rfl, ?_⟩; have HO865 := rl_ w ho0; have HO868 := rl_ w ho1; replace BK843 := bb_ BK843 hb; replace BK844 := bb_ BK844 hb; replace HB := b1_ hb; clear hb ho0 ho1; obtain ⟨Ao39, co39, eo39⟩ := Kd.R_slice HO865.out; subst eo39; obtain ⟨hcz40_0, hcz40_1, hfz40_0, hfz40_1⟩ := c2_ BK844; obtain ⟨Ao41, co41, eo41⟩ := Kd.R_slice HO868.out; subst eo41))
        refine bodyPost_ret (results_cell_row rfl _ _ gb844 25 #[.slice Ao39 t863.length co39, .slice Ao41 t866.length co41] (0, 0) _ rfl qp_ Try.underlying25 rfl (by kernel_rfl)) rfl ?_
        exact ⟨_, _, qb_, (rw_ (fa_ HO865 BK844)), (rw_ (fa_ HO868 BK844)), hB_⟩
end Go.Proofs.Ytcggfjpnfodbaaa.A
end
section
namespace Go.Proofs.Ytcggfjpnfodbaaa.A
open Go.RowKit Go.Proofs.YtcggfjpnfodbaaaW.PrintWords Go.Proofs.YtcggfjpnfodbaaaW.PrintLast Go.Proofs.YtcggfjpnfodbaaaW.PrintMore
attribute [local go_sem] max2_int min2_int max_two min_two max_three min_three max_four min_four
set_option linter.unusedVariables false
set_option linter.unusedSimpArgs false
mutual
def spec_l06Orbit.l0 : Nat → List (S25) → List ByteArray → Int → Option ((List (S25)) × List ByteArray × Bool)
  | 0, _, _, _ => none
  | k + 1, x5, x6, x7 => if x7 < (x5.length : Int) then ((some (([84, 83] : List Int) : List Int)).bind fun y882 => (spec_l06Orbit.l1 k x5 x6 x7 y882 (y882.length : Int) 0)) else (some (x5, x6, true))
def spec_l06Orbit.l1 : Nat → List (S25) → List ByteArray → Int → List Int → Int → Int → Option ((List (S25)) × List ByteArray × Bool)
  | 0, _, _, _, _, _, _ => none
  | k + 1, x5, x6, x7, x21, x22, x23 => if x23 < x22 then (if 0 ≤ x23 then (if x23 < (x21.length : Int) then (if 0 ≤ x7 then (if x7 < (x5.length : Int) then ((spec_l05Letter.f k ((rd_T25 x5 x7).f0) ((rd_T25 x5 x7).f1) (rd x21 x23)).bind fun bt887 => ((spec_l03Canon.f k bt887.1 bt887.2).bind fun bt893 => ((spec_l06Find.f k x5 bt893.1 bt893.2).bind fun t900 => (if t900 < 0 then (if x5.length < 2932031007402 then (if x7 < (x6.length : Int) then ((some (([rd x21 x23] : List Int) : List Int)).bind fun y905 => (if (rdOf ByteArray.empty x6 x7).size + (strOfNums y905).size ≤ 9223372036854775807 then (if x6.length < 8796093022208 then (spec_l06Orbit.l1 k (x5 ++ [(⟨bt893.1, bt893.2⟩ : S25)]) (x6 ++ [(rdOf ByteArray.empty x6 x7) ++ (strOfNums y905)]) x7 x21 x22 (wrap64 (x23 + 1))) else (none)) else (none))) else (none)) else (none)) else (spec_l06Orbit.l1 k x5 x6 x7 x21 x22 (wrap64 (x23 + 1))))))) else (none)) else (none)) else (none)) else (none)) else (if (x5.length : Int) > 120 then (some (([] : List (S25)), ([] : List ByteArray), false)) else (spec_l06Orbit.l0 k x5 x6 (wrap64 (x7 + 1))))
end
def spec_l06Orbit.f (k : Nat) (l0_0 : List Int) (l0_1 : List Int) : Option ((List (S25)) × List ByteArray × Bool) := (spec_l03Canon.f k l0_0 l0_1).bind fun bt870 => (spec_l06Orbit.l0 k (([(⟨bt870.1, bt870.2⟩ : S25)] : List (S25))) (([(⟨#[]⟩ : ByteArray)] : List ByteArray)) 0)
theorem spec_l06Orbit.mono_l : ∀ k, (∀ y0 y1 y2, LeO (spec_l06Orbit.l0 k y0 y1 y2) (spec_l06Orbit.l0 (k + 1) y0 y1 y2)) ∧ (∀ y0 y1 y2 y3 y4 y5, LeO (spec_l06Orbit.l1 k y0 y1 y2 y3 y4 y5) (spec_l06Orbit.l1 (k + 1) y0 y1 y2 y3 y4 y5))
  | 0 => ⟨fun _ _ _ r h => by simp [spec_l06Orbit.l0] at h, fun _ _ _ _ _ _ r h => by simp [spec_l06Orbit.l1] at h⟩
  | k + 1 => by
    obtain ⟨ih0, ih1⟩ := spec_l06Orbit.mono_l k
    refine ⟨?_, ?_⟩
    · intro y0 y1 y2
      unfold spec_l06Orbit.l0
      repeat' first|exact ih0 _ _ _|exact ih1 _ _ _ _ _ _|exact spec_l03Canon.mono _ _ _|exact spec_l05Letter.mono _ _ _ _|exact spec_l06Find.mono _ _ _ _|exact lo_|refine LeO.ite ?_ ?_|refine LeO.bind ?_ (fun _ => ?_)
    · intro y0 y1 y2 y3 y4 y5
      unfold spec_l06Orbit.l1
      repeat' first|exact ih0 _ _ _|exact ih1 _ _ _ _ _ _|exact spec_l03Canon.mono _ _ _|exact spec_l05Letter.mono _ _ _ _|exact spec_l06Find.mono _ _ _ _|exact lo_|refine LeO.ite ?_ ?_|refine LeO.bind ?_ (fun _ => ?_)
theorem spec_l06Orbit.mono : ∀ a0 a1 k, LeO (spec_l06Orbit.f k a0 a1) (spec_l06Orbit.f (k + 1) a0 a1) := by
  intro a0 a1 k
  obtain ⟨ih0, ih1⟩ := spec_l06Orbit.mono_l k
  unfold spec_l06Orbit.f
  repeat' first|exact ih0 _ _ _|exact ih1 _ _ _ _ _ _|exact spec_l03Canon.mono _ _ _|exact spec_l05Letter.mono _ _ _ _|exact spec_l06Find.mono _ _ _ _|exact lo_|refine LeO.ite ?_ ?_|refine LeO.bind ?_ (fun _ => ?_)
def spec_l06Orbit.T12 : Bool × List (List Nat × List Nat) := (true, [([], []), ([], []), ([], []), ([1, 2], [1, 2]), ([3], [3]), ([], []), ([5], [5]), ([6], [6]), ([4, 7], [4, 7]), ([8], [8]), ([0, 9], [0, 9]), ([10, 10, 0, 1, 2, 3, 4, 5, 6, 7, 8, 9, 10], [0, 1, 10])])
def spec_l06Orbit.B12 : List Nat := [0, 0, 0, 6, 14, 0, 32, 96, 254, 510, 1023, 2047]
theorem spec_l06Orbit.tab12 : rtab .any (opsOf Try.f84 12) = spec_l06Orbit.T12 := by kernel_rfl
theorem spec_l06Orbit.bits12 : waitsOk spec_l06Orbit.T12.2 spec_l06Orbit.B12 = true := by kernel_rfl
set_option maxHeartbeats 8000000 in
set_option maxRecDepth 100000 in
theorem spec_l06Orbit.calls (k : Nat) (A0_0 : Option Addr) (c0_0 : Nat) (l0_0 : List Int) (A0_1 : Option Addr) (c0_1 : Nat) (l0_1 : List Int) (r1 : List (S25)) (r2 : List ByteArray) (r3 : Bool) (w : World) (hr0_0 : Kd.C (Kd.int .i64) w A0_0 l0_0.length l0_0) (hc0_0 : l0_0.length ≤ c0_0) (hr0_1 : Kd.C (Kd.int .i64) w A0_1 l0_1.length l0_1) (hc0_1 : l0_1.length ≤ c0_1) (h : spec_l06Orbit.f k l0_0 l0_1 = some (r1, r2, r3)) :
    Calls Try.prog 84 #[.agg #[.slice A0_0 l0_0.length c0_0, .slice A0_1 l0_1.length c0_1]] w fun e w' => ∃ v0_ v1_ : Value, e = .returned (.tuple #[v0_, v1_, .bool r3]) ∧ Kd.N k25 25 w' w.heap.size (fun k_ => (w.heap.size ≤ k_) ∧ some k_ ≠ (v1_ : Value).ownBlock) v0_ r1 ∧ Kd.R Kd.string 9 w' w.heap.size (fun k_ => (w.heap.size ≤ k_)) v1_ r2 ∧ Below w.heap.size w w' := by
  have hu25 := Try.underlying25
  have HR0_0 := Aside0.mk hr0_0
  have HC0_0 := Aside0.mk hc0_0
  clear hr0_0 hc0_0
  have HR0_1 := Aside0.mk hr0_1
  have HC0_1 := Aside0.mk hc0_1
  clear hr0_1 hc0_1
  have HB := Aside0.mk (Below.refl w.heap.size w)
  have H := h
  unfold spec_l06Orbit.f at H
  clear h
  obtain ⟨⟨t870, t873⟩, A2, H⟩ := bi_ H
  try dsimp only at H
  obtain ⟨y876, hy876⟩ : ∃ y_ : List (S25), y_ = (([(⟨t870, t873⟩ : S25)] : List (S25))) := ⟨_, rfl⟩
  replace H : (spec_l06Orbit.l0 k y876 (([(⟨#[]⟩ : ByteArray)] : List ByteArray)) 0) = some (r1, r2, r3) := by first | (rw [hy876]; exact H) | exact H
  have Ny876 := Aside0.mk hy876
  clear hy876
  obtain ⟨y879, hy879⟩ : ∃ y_ : List ByteArray, y_ = (([(⟨#[]⟩ : ByteArray)] : List ByteArray)) := ⟨_, rfl⟩
  replace H : (spec_l06Orbit.l0 k y876 y879 0) = some (r1, r2, r3) := by first | (rw [hy879]; exact H) | exact H
  have Ny879 := Aside0.mk hy879
  clear hy879
  have H' := Aside0.mk H
  clear H
  go_enter Try.func84, Try.ntmps84
  go_wp2_with (first | ((with_reducible refine gate_dst (N := 1) rfl ?_); refine bx_ 1 #[.slice A0_0 l0_0.length c0_0, .slice A0_1 l0_1.length c0_1] 25 ?_; intro gb869 hg w3 hbox hb; have BK869 := Aside0.mk hbox; have GW869 := gw_ w hg; have GE869 := GW869; replace HB := b1_ hb; clear hb hbox hg; obtain ⟨hcz4_0, hcz4_1, hfz4_0, hfz4_1⟩ := c2_ BK869) | ((with_reducible refine gate_callee (f := 82) rfl ?_); refine gL_ (some 12) Try.func82 #[.agg #[.slice A0_0 l0_0.length c0_0, .slice A0_1 l0_1.length c0_1]] rfl qa_ ?_; (with_reducible refine (spec_l03Canon.calls k _ _ l0_0 _ _ l0_1 t870 t873 _ (cb_ HR0_0) HC0_0.out (cb_ HR0_1) HC0_1.out A2.out).mono ?_); rintro e w5 ⟨v871, v874, rfl, ho0, ho1, hb⟩; refine ⟨_, rfl, ?_⟩; have HO872 := Aside0.mk (Kd.R_lower (Kd.R_newM (M := fun k_ => (w.heap.size ≤ k_)) ho0 (below_size hB_) (fun k_ h_ => h_)) (below_size hB_)); have HO875 := Aside0.mk (Kd.R_lower (Kd.R_newM (M := fun k_ => (w.heap.size ≤ k_)) ho1 (below_size hB_) (fun k_ h_ => h_)) (below_size hB_)); replace BK869 := bb_ BK869 hb; replace HB := b1_ hb; clear hb ho0 ho1; obtain ⟨Ao6, co6, eo6⟩ := Kd.R_slice HO872.out; subst eo6; obtain ⟨Ao7, co7, eo7⟩ := Kd.R_slice HO875.out; subst eo7) | ((with_reducible refine gate_dst (N := 13) rfl ?_); refine Kd.N_lit k25 _ 25 ?hg (N' := 13) ?hd (xs := ([(⟨t870, t873⟩ : S25)] : List (S25))) (inner := [.slice Ao6 t870.length co6, .slice Ao7 t873.length co7]) (ok := (fun k_ => (w.heap.size ≤ k_) ∧ k_ ≠ gb869)) (okp := (fun k_ => (w.heap.size ≤ k_) ∧ k_ ≠ gb869)) ?hr ?hp (fun _ hk => hk) ((show ∀ k_, w5.heap.size ≤ k_ → (fun k_ => (w.heap.size ≤ k_) ∧ k_ ≠ gb869) k_ from fun k_ hk => ⟨(Nat.le_trans (below_size hB_) hk), Kd.freshB (kk_ BK869) k_ hk⟩) _ (Nat.le_refl _)) (Below.refl _ _) (Nat.le_refl _) (by simp) ?_; (case hd => rfl); (case hg => rfl); (case hr => first | (go_simp; done) | (go_simp; rfl)); (case hp => exact (Reps.c2 (show Kd.FK k25 _ _ (⟨t870, t873⟩ : S25) [.slice Ao6 t870.length co6, .slice Ao7 t873.length co7] from (k25_mkF _ _ (⟨t870, t873⟩ : S25) (Kd.R_reads' (Kd.R_mono (ok' := (fun k_ => (w.heap.size ≤ k_) ∧ k_ ≠ gb869)) (Kd.R_types (HO872.out) BK869.out (by decide)) (fun k_ hk => ⟨hk.1.1, hk.2⟩))).2.1 (Kd.R_F (Kd.R_mono (ok' := (fun k_ => (w.heap.size ≤ k_) ∧ k_ ≠ gb869)) (Kd.R_types (HO872.out) BK869.out (by decide)) (fun k_ hk => ⟨hk.1.1, hk.2⟩))) (Kd.R_reads' (Kd.R_mono (ok' := (fun k_ => (w.heap.size ≤ k_) ∧ k_ ≠ gb869)) (Kd.R_types (HO875.out) BK869.out (by decide)) (fun k_ hk => ⟨hk.1.1, hk.2⟩))).2.1 (Kd.R_F (Kd.R_mono (ok' := (fun k_ => (w.heap.size ≤ k_) ∧ k_ ≠ gb869)) (Kd.R_types (HO875.out) BK869.out (by decide)) (fun k_ hk => ⟨hk.1.1, hk.2⟩))))) (Reps.none _ _))); intro v877 w8 ho9 hb hg_ hnew_; clear hg_ hnew_; (first | rw [← Ny876.out] at ho9 | (simp only [Int.reduceToNat] at ho9; rw [← Ny876.out] at ho9)); have HO878 := Aside0.mk (Kd.N_lower ho9 (below_size hB_)); replace BK869 := bb_ BK869 hb; replace HB := b1_ hb; clear HO872 HO875; clear hb ho9) | ((with_reducible refine gate_dst (N := 14) rfl ?_); refine Kd.R_lit Kd.string _ 9 ?hg (N := 14) ?hd (xs := ([(⟨#[]⟩ : ByteArray)] : List ByteArray)) (inner := [.string (⟨#[]⟩ : ByteArray)]) (ok := fun _ => True) (okp := fun _ => True) ?hr ?hp (fun _ hk => hk) trivial (Below.refl _ _) (Nat.le_refl _) (by simp) ?_; (case hd => rfl); (case hg => rfl); (case hr => first | (go_simp; done) | (go_simp; rfl)); (case hp => exact (Reps.one (show Kd.M Kd.string _ _ _ (⟨#[]⟩ : ByteArray) [.string (⟨#[]⟩ : ByteArray)] from rfl) (Reps.none _ _))); intro v880 w10 ho11 hb hg_ hnew_; clear hg_ hnew_; (first | rw [← Ny879.out] at ho11 | (simp only [Int.reduceToNat] at ho11; rw [← Ny879.out] at ho11)); replace HO878 := Aside0.mk (Kd.N_elder' (by (with_reducible repeat (first | apply Kd.N_alloc | apply Kd.N_drewN | apply Kd.N_drew)); exact HO878.out) (Kd.R_base ho11) hb); have HO881 := Aside0.mk (Kd.R_lower (Kd.R_newM (M := fun k_ => (w.heap.size ≤ k_)) ho11 (below_size hB_) (fun k_ h_ => h_)) (below_size hB_)); replace BK869 := bb_ BK869 hb; replace HB := b1_ hb; clear hb ho11))
  go_loopg [5, 6, 7] k (fun kq v5 v6 v7 w' => ∃ (x5_1 : List (S25)) (x6_1 : List ByteArray) (x7_1 : Int), v7 = .int .i64 x7_1 ∧ Aside0 (spec_l06Orbit.l0 kq x5_1 x6_1 x7_1 = some (r1, r2, r3)) ∧ Aside0 (kq ≤ k) ∧ Aside0 (Kd.N k25 25 w' w.heap.size (fun k_ => (w.heap.size ≤ k_) ∧ some k_ ≠ (v6 : Value).ownBlock ∧ k_ ≠ gb869) v5 x5_1) ∧ Aside0 (Kd.R Kd.string 9 w' w.heap.size (fun k_ => (w.heap.size ≤ k_)) v6 x6_1) ∧ Aside0 (w'.heap[gb869]? = some (.cells #[(.slice A0_0 l0_0.length c0_0), (.slice A0_1 l0_1.length c0_1)] 25 (0, 0))) ∧ Aside0 (Below w.heap.size w w'))
  case atStart => exact ⟨(y876), (y879), (0), qc_, H', ⟨Nat.le_refl _⟩, ⟨by (with_reducible repeat (first | apply Kd.N_alloc | apply Kd.N_drewN | apply Kd.N_drew)); exact Kd.N_mono HO878.out (fun _ hk => ⟨hk.1.1, ⟨hk.2, hk.1.2⟩⟩)⟩, ⟨(rw_ (Kd.R_mono HO881.out (fun _ hk => hk.1)))⟩, ⟨(kk_ BK869)⟩, ⟨hB_⟩⟩
  case round =>
    clear H'
    obtain ⟨x5_1, x6_1, x7_1, rfl, HA, HK1, HO_5, HO_6, BK869, HB⟩ := hrel
    cases gk with
    | zero => exact absurd HA.out (by simp [spec_l06Orbit.l0])
    | succ k1 =>
      have H := HA.out
      clear HA
      simp only [spec_l06Orbit.l0] at H
      by_cases c12 : x7_1 < (x5_1.length : Int)
      · rw [if_pos c12] at H
        have c12b0 := decide_eq_true c12
        clear c12
        obtain ⟨y882, hy882⟩ : ∃ y_ : List Int, y_ = (([84, 83] : List Int)) := ⟨_, rfl⟩
        replace H : (spec_l06Orbit.l1 k1 x5_1 x6_1 x7_1 y882 (y882.length : Int) 0) = some (r1, r2, r3) := by first | (rw [hy882]; exact H) | exact H
        have Ny882 := Aside0.mk hy882
        clear hy882
        have H' := Aside0.mk H
        clear H
        obtain ⟨Ao13, co13, eo13⟩ := Kd.N_slice HO_5.out
        subst eo13
        go_wp2_with (first | ((with_reducible refine gate_dst (N := 21) rfl ?_); refine Kd.R_lit (Kd.int .u8) _ 5 ?hg (N := 21) ?hd (xs := ([84, 83] : List Int)) (inner := [.int .u8 84, .int .u8 83]) (ok := fun _ => True) (okp := fun _ => True) ?hr ?hp (fun _ hk => hk) trivial (Below.refl _ _) (Nat.le_refl _) (by simp) ?_; (case hd => rfl); (case hg => rfl); (case hr => first | (go_simp; done) | (go_simp; rfl)); (case hp => exact (Reps.one (show Kd.M (Kd.int .u8) _ _ _ 84 [.int .u8 84] from rfl) (Reps.one (show Kd.M (Kd.int .u8) _ _ _ 83 [.int .u8 83] from rfl) (Reps.none _ _)))); intro v883 w14 ho15 hb hg_ hnew_; clear hg_ hnew_; (first | rw [← Ny882.out] at ho15 | (simp only [Int.reduceToNat] at ho15; rw [← Ny882.out] at ho15)); replace HO_5 := Aside0.mk (Kd.N_elder' (by (with_reducible repeat (first | apply Kd.N_alloc | apply Kd.N_drewN | apply Kd.N_drew)); exact HO_5.out) (Kd.R_base ho15) hb); replace HO_6 := rb_ HO_6 hb; have HO884 := Aside0.mk (Kd.R_lower (Kd.R_newM (M := fun k_ => (w.heap.size ≤ k_)) ho15 (below_size hB_) (fun k_ h_ => h_)) (below_size hB_)); replace BK869 := bb_ BK869 hb; replace HB := b1_ hb; clear hb ho15; obtain ⟨Ao16, co16, eo16⟩ := Kd.R_slice HO884.out; subst eo16))
        go_loopg [5, 6, 23] k1 (fun kq v5 v6 v23 w' => ∃ (x5_2 : List (S25)) (x6_2 : List ByteArray) (x23_2 : Int), v23 = .int .i64 x23_2 ∧ Aside0 (spec_l06Orbit.l1 kq x5_2 x6_2 x7_1 y882 (y882.length : Int) x23_2 = some (r1, r2, r3)) ∧ Aside0 (kq ≤ k1) ∧ Aside0 (Kd.N k25 25 w' w.heap.size (fun k_ => (w.heap.size ≤ k_) ∧ some k_ ≠ (v6 : Value).ownBlock ∧ some k_ ≠ ((.slice Ao16 y882.length co16) : Value).ownBlock ∧ k_ ≠ gb869) v5 x5_2) ∧ Aside0 (Kd.R Kd.string 9 w' w.heap.size (fun k_ => (w.heap.size ≤ k_)) v6 x6_2) ∧ Aside0 (Kd.R (Kd.int .u8) 5 w' w.heap.size (fun k_ => (w.heap.size ≤ k_)) (.slice Ao16 y882.length co16) y882) ∧ Aside0 (w'.heap[gb869]? = some (.cells #[(.slice A0_0 l0_0.length c0_0), (.slice A0_1 l0_1.length c0_1)] 25 (0, 0))) ∧ Aside0 (Below w.heap.size w w'))
        case atStart => exact ⟨(x5_1), (x6_1), (0), qc_, H', ⟨Nat.le_refl _⟩, ⟨by (with_reducible repeat (first | apply Kd.N_alloc | apply Kd.N_drewN | apply Kd.N_drew)); exact Kd.N_mono HO_5.out (fun _ hk => ⟨hk.1.1, ⟨hk.1.2.1, ⟨hk.2, hk.1.2.2⟩⟩⟩)⟩, ⟨(rr_ HO_6)⟩, ⟨(rw_ (Kd.R_mono HO884.out (fun _ hk => hk.1)))⟩, ⟨(kk_ BK869)⟩, ⟨hB_⟩⟩
        case round =>
          clear H'
          obtain ⟨x5_2, x6_2, x23_2, rfl, HA, HK2, HO_5, HO_6, HO_21, BK869, HB⟩ := hrel
          cases gk with
          | zero => exact absurd HA.out (by simp [spec_l06Orbit.l1])
          | succ k2 =>
            have H := HA.out
            clear HA
            simp only [spec_l06Orbit.l1] at H
            by_cases c17 : x23_2 < (y882.length : Int)
            · rw [if_pos c17] at H
              have c17b0 := decide_eq_true c17
              clear c17
              have c18 := cp_ H
              replace H := ca_ H
              have c18b0 := decide_eq_true c18
              clear c18
              have c19 := cp_ H
              replace H := ca_ H
              have c19b0 := decide_eq_true c19
              clear c19
              have c20 := cp_ H
              replace H := ca_ H
              have c20b0 := decide_eq_true c20
              clear c20
              have c21 := cp_ H
              replace H := ca_ H
              have c21b0 := decide_eq_true c21
              clear c21
              obtain ⟨⟨t887, t890⟩, A22, H⟩ := bi_ H
              try dsimp only at H
              obtain ⟨⟨t893, t896⟩, A23, H⟩ := bi_ H
              try dsimp only at H
              obtain ⟨t900, A24, H⟩ := bi_ H
              by_cases c25 : t900 < 0
              · rw [if_pos c25] at H
                have c25b0 := decide_eq_true c25
                clear c25
                have c26 := cp_ H
                replace H := ca_ H
                have LMc26 := Aside0.mk c26
                clear c26
                obtain ⟨y901, hy901⟩ : ∃ y_ : List (S25), y_ = (x5_2 ++ [(⟨t893, t896⟩ : S25)]) := ⟨_, rfl⟩
                replace H : (if x7_1 < (x6_2.length : Int) then ((some (([rd y882 x23_2] : List Int) : List Int)).bind fun y905 => (if (rdOf ByteArray.empty x6_2 x7_1).size + (strOfNums y905).size ≤ 9223372036854775807 then (if x6_2.length < 8796093022208 then (spec_l06Orbit.l1 k2 y901 (x6_2 ++ [(rdOf ByteArray.empty x6_2 x7_1) ++ (strOfNums y905)]) x7_1 y882 (y882.length : Int) (wrap64 (x23_2 + 1))) else (none)) else (none))) else (none)) = some (r1, r2, r3) := by first | (rw [hy901]; exact H) | exact H
                have Ny901 := Aside0.mk hy901
                clear hy901
                have c27 := cp_ H
                replace H := ca_ H
                have c27b0 := decide_eq_true c27
                clear c27
                obtain ⟨y905, hy905⟩ : ∃ y_ : List Int, y_ = (([rd y882 x23_2] : List Int)) := ⟨_, rfl⟩
                replace H : (if (rdOf ByteArray.empty x6_2 x7_1).size + (strOfNums y905).size ≤ 9223372036854775807 then (if x6_2.length < 8796093022208 then (spec_l06Orbit.l1 k2 y901 (x6_2 ++ [(rdOf ByteArray.empty x6_2 x7_1) ++ (strOfNums y905)]) x7_1 y882 (y882.length : Int) (wrap64 (x23_2 + 1))) else (none)) else (none)) = some (r1, r2, r3) := by first | (rw [hy905]; exact H) | exact H
                have Ny905 := Aside0.mk hy905
                clear hy905
                have c28 := cp_ H
                replace H := ca_ H
                have c28b0 := eq_true c28
                have c28b1 := decide_eq_true c28
                try have c28b2 : (9223372036854775807 < (rdOf ByteArray.empty x6_2 x7_1).size + (strOfNums y905).size) = False := eq_false (Nat.not_lt.2 c28)
                have c29 := cp_ H
                replace H := ca_ H
                have LMc29 := Aside0.mk c29
                clear c29
                obtain ⟨y908, hy908⟩ : ∃ y_ : List ByteArray, y_ = (x6_2 ++ [(rdOf ByteArray.empty x6_2 x7_1) ++ (strOfNums y905)]) := ⟨_, rfl⟩
                replace H : (spec_l06Orbit.l1 k2 y901 y908 x7_1 y882 (y882.length : Int) (wrap64 (x23_2 + 1))) = some (r1, r2, r3) := by first | (rw [hy908]; exact H) | exact H
                have Ny908 := Aside0.mk hy908
                clear hy908
                have H' := Aside0.mk H
                clear H
                have p885 : 0 ≤ (x23_2 : Int) := of_decide_eq_true qe_
                have q885 : x23_2 < (y882.length : Int) := of_decide_eq_true qe_
                obtain ⟨ad885, e885, hx885_0⟩ := Kd.at_int (Kd.R_reads' HO_21.out).2.2 x23_2 p885 q885
                cases e885
                replace p885 := eq_true p885
                replace q885 := eq_true q885
                obtain ⟨Ao30, co30, eo30⟩ := Kd.N_slice HO_5.out
                subst eo30
                have p886 : 0 ≤ (x7_1 : Int) := of_decide_eq_true qe_
                have q886 : x7_1 < (x5_2.length : Int) := of_decide_eq_true qe_
                obtain ⟨ad886, A886_0, c886_0, A886_1, c886_1, e886, hx886_0, hx886_1, hl886_0, hi886_0, hl886_1, hi886_1⟩ := at_T25 (Kd.N_reads' HO_5.out).2.2 x7_1 p886 q886
                cases e886
                obtain ⟨ce886, hce886, hMe886, hcc886⟩ := Kd.N_get HO_5.out z25 x7_1 p886 (by first | exact q886 | exact of_decide_eq_true qe_ | (have e_ := (Kd.N_reads' HO_5.out).1; omega))
                obtain ⟨ua886_0, uc886_0, ua886_1, uc886_1, rfl, ul886_0, ge886_0, ul886_1, ge886_1⟩ := k25_openF hMe886
                have hv886_0 := hcc886 0 _ rfl
                rw [Nat.add_zero] at hv886_0
                replace hv886_0 := Option.some.inj (hv886_0.symm.trans hx886_0)
                injection hv886_0 with hva_ hvn_ hvc_
                rw [hva_] at ge886_0
                rw [hvc_] at ul886_0
                have HL886_0 := Aside0.mk (show Kd.V (Kd.int .i64) 3 _ w.heap.size _ _ ((rd_T25 x5_2 x7_1).f0) from Kd.V_mk ul886_0 ge886_0)
                clear hva_ hvn_ hvc_ ge886_0 ul886_0
                have hv886_1 := hcc886 1 _ rfl
                rw [add_field _ _ 1 (by omega)] at hv886_1
                replace hv886_1 := Option.some.inj (hv886_1.symm.trans hx886_1)
                injection hv886_1 with hva_ hvn_ hvc_
                rw [hva_] at ge886_1
                rw [hvc_] at ul886_1
                have HL886_1 := Aside0.mk (show Kd.V (Kd.int .i64) 3 _ w.heap.size _ _ ((rd_T25 x5_2 x7_1).f1) from Kd.V_mk ul886_1 ge886_1)
                clear hva_ hvn_ hvc_ ge886_1 ul886_1
                clear hcc886 hce886
                have HR886_0 := Aside0.mk hi886_0
                have HC886_0 := Aside0.mk hl886_0
                clear hi886_0 hl886_0
                have HR886_1 := Aside0.mk hi886_1
                have HC886_1 := Aside0.mk hl886_1
                clear hi886_1 hl886_1
                replace p886 := eq_true p886
                replace q886 := eq_true q886
                try go_wp2_with (first | ((with_reducible refine gate_callee (f := 87) rfl ?_); refine gL_ (some 32) Try.func87 #[.agg #[.slice A886_0 ((rd_T25 x5_2 x7_1).f0).length c886_0, .slice A886_1 ((rd_T25 x5_2 x7_1).f1).length c886_1], .int .u8 (rd y882 x23_2)] rfl qa_ ?_; (with_reducible refine (spec_l05Letter.calls k2 _ _ ((rd_T25 x5_2 x7_1).f0) _ _ ((rd_T25 x5_2 x7_1).f1) (rd y882 x23_2) t887 t890 _ ?side1 ?side2 ?side3 ?side4 A22.out).mono ?_); (case side1 => repeat (first | exact (by repeat (first | (with_reducible exact HR886_0.out) | (with_reducible refine Kd.C_alloc ?_ _) | (with_reducible refine Kd.C_drewN ?_ _) | (with_reducible refine Kd.C_drew ?_) | exact HR886_0.out)) | (with_reducible refine Kd.C_alloc ?_ _) | (with_reducible refine Kd.C_drewN ?_ _) | (with_reducible refine Kd.C_drew ?_))); (case side2 => exact HC886_0.out); (case side3 => repeat (first | exact (by repeat (first | (with_reducible exact HR886_1.out) | (with_reducible refine Kd.C_alloc ?_ _) | (with_reducible refine Kd.C_drewN ?_ _) | (with_reducible refine Kd.C_drew ?_) | exact HR886_1.out)) | (with_reducible refine Kd.C_alloc ?_ _) | (with_reducible refine Kd.C_drewN ?_ _) | (with_reducible refine Kd.C_drew ?_))); (case side4 => exact HC886_1.out); rintro e w31 ⟨v888, v891, rfl, ho0, ho1, hb⟩; refine ⟨_, rfl, ?_⟩; replace HO_5 := Aside0.mk (Kd.N_mono (Kd.N_told (Kd.N_told (Kd.N_old (by (with_reducible repeat (first | apply Kd.N_alloc | apply Kd.N_drewN | apply Kd.N_drew)); exact HO_5.out) hb) (Kd.R_base ho0)) (Kd.R_base ho1)) (fun _ h_ => h_.1)); replace HO_6 := rb_ HO_6 hb; replace HO_21 := rb_ HO_21 hb; replace HL886_0 := Aside0.mk (Kd.V_mono (Kd.V_told (Kd.V_told (Kd.V_old (by (with_reducible repeat (first | apply Kd.V_alloc | apply Kd.V_drewN | apply Kd.V_drew)); exact HL886_0.out) hb) (Kd.R_base ho0)) (Kd.R_base ho1)) (fun _ h_ => h_.1)); replace HL886_1 := Aside0.mk (Kd.V_mono (Kd.V_told (Kd.V_told (Kd.V_old (by (with_reducible repeat (first | apply Kd.V_alloc | apply Kd.V_drewN | apply Kd.V_drew)); exact HL886_1.out) hb) (Kd.R_base ho0)) (Kd.R_base ho1)) (fun _ h_ => h_.1)); have HO889 := Aside0.mk (Kd.R_lower (Kd.R_newM (M := fun k_ => (w.heap.size ≤ k_)) ho0 (below_size hB_) (fun k_ h_ => h_)) (below_size hB_)); have HO892 := Aside0.mk (Kd.R_lower (Kd.R_newM (M := fun k_ => (w.heap.size ≤ k_)) ho1 (below_size hB_) (fun k_ h_ => h_)) (below_size hB_)); replace BK869 := bb_ BK869 hb; replace HR886_0 := Aside0.mk (Kd.C_below (by repeat (first | (with_reducible exact HR886_0.out) | (with_reducible refine Kd.C_alloc ?_ _) | (with_reducible refine Kd.C_drewN ?_ _) | (with_reducible refine Kd.C_drew ?_) | exact HR886_0.out)) hb); replace HR886_1 := Aside0.mk (Kd.C_below (by repeat (first | (with_reducible exact HR886_1.out) | (with_reducible refine Kd.C_alloc ?_ _) | (with_reducible refine Kd.C_drewN ?_ _) | (with_reducible refine Kd.C_drew ?_) | exact HR886_1.out)) hb); replace HB := b1_ hb; clear hb ho0 ho1; obtain ⟨Ao32, co32, eo32⟩ := Kd.R_slice HO889.out; subst eo32; obtain ⟨Ao33, co33, eo33⟩ := Kd.R_slice HO892.out; subst eo33) | ((with_reducible refine gate_callee (f := 82) rfl ?_); refine gL_ (some 33) Try.func82 #[.agg #[.slice Ao32 t887.length co32, .slice Ao33 t890.length co33]] rfl qa_ ?_; (with_reducible refine (spec_l03Canon.calls k2 _ _ t887 _ _ t890 t893 t896 _ (cr_ HO889) ((Kd.R_reads' HO889.out).2.1) (cr_ HO892) ((Kd.R_reads' HO892.out).2.1) A23.out).mono ?_); rintro e w34 ⟨v894, v897, rfl, ho0, ho1, hb⟩; refine ⟨_, rfl, ?_⟩; replace HO_5 := Aside0.mk (Kd.N_mono (Kd.N_told (Kd.N_told (Kd.N_old (by (with_reducible repeat (first | apply Kd.N_alloc | apply Kd.N_drewN | apply Kd.N_drew)); exact HO_5.out) hb) (Kd.R_base ho0)) (Kd.R_base ho1)) (fun _ h_ => h_.1)); replace HO_6 := rb_ HO_6 hb; replace HO_21 := rb_ HO_21 hb; replace HL886_0 := Aside0.mk (Kd.V_mono (Kd.V_told (Kd.V_told (Kd.V_old (by (with_reducible repeat (first | apply Kd.V_alloc | apply Kd.V_drewN | apply Kd.V_drew)); exact HL886_0.out) hb) (Kd.R_base ho0)) (Kd.R_base ho1)) (fun _ h_ => h_.1)); replace HL886_1 := Aside0.mk (Kd.V_mono (Kd.V_told (Kd.V_told (Kd.V_old (by (with_reducible repeat (first | apply Kd.V_alloc | apply Kd.V_drewN | apply Kd.V_drew)); exact HL886_1.out) hb) (Kd.R_base ho0)) (Kd.R_base ho1)) (fun _ h_ => h_.1)); have HO895 := Aside0.mk (Kd.R_lower (Kd.R_new' (Kd.R_new' (Kd.R_newM (M := fun k_ => (w.heap.size ≤ k_)) ho0 (below_size hB_) (fun k_ h_ => h_)) (Kd.R_lt (rr_ HO889))) (Kd.R_lt (rr_ HO892))) (below_size hB_)); have HO898 := Aside0.mk (Kd.R_lower (Kd.R_new' (Kd.R_new' (Kd.R_newM (M := fun k_ => (w.heap.size ≤ k_)) ho1 (below_size hB_) (fun k_ h_ => h_)) (Kd.R_lt (rr_ HO889))) (Kd.R_lt (rr_ HO892))) (below_size hB_)); replace HO889 := Aside0.mk (Kd.R_mono (Kd.R_told (Kd.R_told (Kd.R_old (rr_ HO889) hb) (Kd.R_base ho0)) (Kd.R_base ho1)) (fun _ h_ => h_.1)); replace HO892 := Aside0.mk (Kd.R_mono (Kd.R_told (Kd.R_told (Kd.R_old (rr_ HO892) hb) (Kd.R_base ho0)) (Kd.R_base ho1)) (fun _ h_ => h_.1)); replace BK869 := bb_ BK869 hb; replace HR886_0 := Aside0.mk (Kd.C_below (by repeat (first | (with_reducible exact HR886_0.out) | (with_reducible refine Kd.C_alloc ?_ _) | (with_reducible refine Kd.C_drewN ?_ _) | (with_reducible refine Kd.C_drew ?_) | exact HR886_0.out)) hb); replace HR886_1 := Aside0.mk (Kd.C_below (by repeat (first | (with_reducible exact HR886_1.out) | (with_reducible refine Kd.C_alloc ?_ _) | (with_reducible refine Kd.C_drewN ?_ _) | (with_reducible refine Kd.C_drew ?_) | exact HR886_1.out)) hb); replace HB := b1_ hb; clear hb ho0 ho1) | ((with_reducible refine gate_dst (N := 10) rfl ?_); refine bx_ 10 #[.slice none 0 0, .slice none 0 0] 25 ?_; intro gb899 hg w35 hbox hb; replace HO_5 := Aside0.mk (Kd.N_below (Kd.N_elderB (by (with_reducible repeat (first | apply Kd.N_alloc | apply Kd.N_drewN | apply Kd.N_drew)); exact HO_5.out) gb899 (Nat.le_of_eq hg.symm)) hb); replace HO_6 := rb_ HO_6 hb; replace HO_21 := rb_ HO_21 hb; replace HL886_0 := Aside0.mk (Kd.V_below (Kd.V_elderB (by (with_reducible repeat (first | apply Kd.V_alloc | apply Kd.V_drewN | apply Kd.V_drew)); exact HL886_0.out) gb899 (Nat.le_of_eq hg.symm)) hb); replace HL886_1 := Aside0.mk (Kd.V_below (Kd.V_elderB (by (with_reducible repeat (first | apply Kd.V_alloc | apply Kd.V_drewN | apply Kd.V_drew)); exact HL886_1.out) gb899 (Nat.le_of_eq hg.symm)) hb); replace HO889 := rb_ HO889 hb; replace HO892 := rb_ HO892 hb; replace HO895 := rb_ HO895 hb; replace HO898 := rb_ HO898 hb; replace HR886_0 := Aside0.mk (Kd.C_below (by repeat (first | (with_reducible exact HR886_0.out) | (with_reducible refine Kd.C_alloc ?_ _) | (with_reducible refine Kd.C_drewN ?_ _) | (with_reducible refine Kd.C_drew ?_) | exact HR886_0.out)) hb); replace HR886_1 := Aside0.mk (Kd.C_below (by repeat (first | (with_reducible exact HR886_1.out) | (with_reducible refine Kd.C_alloc ?_ _) | (with_reducible refine Kd.C_drewN ?_ _) | (with_reducible refine Kd.C_drew ?_) | exact HR886_1.out)) hb); have BK899 := Aside0.mk hbox; have GW899 := gw_ w hg; have GE899 := GW899; replace HB := b1_ hb; have NB869_899 := gN_ BK869 hg; have NB899_869 := gP_ BK869 hg; replace BK869 := bb_ BK869 hb; clear hb hbox hg; obtain ⟨Ao36, co36, eo36⟩ := Kd.R_slice HO895.out; subst eo36; have hnb37 := NB899_869.out; have hnc37 := NB869_899.out; obtain ⟨hcz38_0, hcz38_1, hfz38_0, hfz38_1⟩ := c2_ BK899; obtain ⟨Ao39, co39, eo39⟩ := Kd.R_slice HO898.out; subst eo39) | ((with_reducible refine gate_callee (f := 81) rfl ?_); refine gL_ (some 36) Try.func81 #[.slice (some ad886) x5_2.length co30, .agg #[.slice Ao36 t893.length co36, .slice Ao39 t896.length co39]] rfl qa_ ?_; (with_reducible refine (spec_l06Find.calls k2 _ _ x5_2 _ _ t893 _ _ t896 t900 _ ?side1 ?side2 ?side3 ?side4 ?side5 ?side6 A24.out).mono ?_); (case side1 => refine (Kd.N_reads' (e := 25) (base := w.heap.size) (ok := fun k_ => (((((((w.heap.size ≤ k_) ∧ (some k_ ≠ (u6 : Value).ownBlock ∧ (some k_ ≠ (.slice (some ad885) y882.length co16 : Value).ownBlock ∧ k_ ≠ gb869))) ∧ some k_ ≠ (.slice Ao32 t887.length co32 : Value).ownBlock) ∧ some k_ ≠ (.slice Ao33 t890.length co33 : Value).ownBlock) ∧ some k_ ≠ (.slice Ao36 t893.length co36 : Value).ownBlock) ∧ some k_ ≠ (.slice Ao39 t896.length co39 : Value).ownBlock) ∧ k_ ≠ gb899)) (n := x5_2.length) (c := co30) ?_).2.2; exact (by (with_reducible repeat (first | apply Kd.N_alloc | apply Kd.N_drewN | apply Kd.N_drew)); exact (Kd.N_mono (Kd.N_far (p := ⟨gb899, 1, none⟩) (Kd.N_far (p := ⟨gb899, 0, none⟩) (Kd.N_mono HO_5.out (fun k_ hk => (⟨hk, hk.2⟩ : _ ∧ k_ ≠ gb899))) (fun _ hk => hk.2) (.slice Ao36 t893.length co36)) (fun _ hk => hk.2) (.slice Ao39 t896.length co39)) (fun _ h_ => h_.1)))); (case side2 => exact (Kd.N_reads' HO_5.out).2.1); (case side3 => refine (Kd.R_reads' (e := 3) (base := w.heap.size) (ok := fun k_ => ((((w.heap.size ≤ k_) ∧ some k_ ≠ (.slice Ao39 t896.length co39 : Value).ownBlock) ∧ some k_ ≠ (.slice Ao32 t887.length co32 : Value).ownBlock) ∧ some k_ ≠ (.slice Ao33 t890.length co33 : Value).ownBlock)) (n := t893.length) (c := co36) ?_).2.2; exact (rw_ (fa_ HO895 BK899))); (case side4 => exact (Kd.R_reads' HO895.out).2.1); (case side5 => refine (Kd.R_reads' (e := 3) (base := w.heap.size) (ok := fun k_ => ((((w.heap.size ≤ k_) ∧ some k_ ≠ (.slice Ao36 t893.length co36 : Value).ownBlock) ∧ some k_ ≠ (.slice Ao32 t887.length co32 : Value).ownBlock) ∧ some k_ ≠ (.slice Ao33 t890.length co33 : Value).ownBlock)) (n := t896.length) (c := co39) ?_).2.2; exact (rw_ (fa_ HO898 BK899))); (case side6 => exact (Kd.R_reads' HO898.out).2.1); rintro e w40 ⟨rfl, hb⟩; refine ⟨_, rfl, ?_⟩; replace HO_5 := Aside0.mk (Kd.N_below (by (with_reducible repeat (first | apply Kd.N_alloc | apply Kd.N_drewN | apply Kd.N_drew)); exact (Kd.N_mono (Kd.N_far (p := ⟨gb899, 1, none⟩) (Kd.N_far (p := ⟨gb899, 0, none⟩) (Kd.N_mono HO_5.out (fun k_ hk => (⟨hk, hk.2⟩ : _ ∧ k_ ≠ gb899))) (fun _ hk => hk.2) (.slice Ao36 t893.length co36)) (fun _ hk => hk.2) (.slice Ao39 t896.length co39)) (fun _ h_ => h_.1))) hb); replace HO_6 := Aside0.mk (Kd.R_below (rw_ (fa_ HO_6 BK899)) hb); replace HO_21 := Aside0.mk (Kd.R_below (rw_ (fa_ HO_21 BK899)) hb); replace HO889 := Aside0.mk (Kd.R_below (rw_ (fa_ HO889 BK899)) hb); replace HO892 := Aside0.mk (Kd.R_below (rw_ (fa_ HO892 BK899)) hb); replace HO895 := Aside0.mk (Kd.R_below (rw_ (fa_ HO895 BK899)) hb); replace HO898 := Aside0.mk (Kd.R_below (rw_ (fa_ HO898 BK899)) hb); replace BK869 := Aside0.mk (blk_below (g := gb869) (o := .cells #[.slice A0_0 l0_0.length c0_0, .slice A0_1 l0_1.length c0_1] 25 (0, 0)) (by (with_reducible repeat (first | refine blk_drewN ?_ _ | refine blk_drew ?_ | refine blk_alloc ?_ _)); refine blk_far ?_ NB869_899.out _; (with_reducible repeat (first | refine blk_drewN ?_ _ | refine blk_drew ?_ | refine blk_alloc ?_ _)); refine blk_far ?_ NB869_899.out _; (with_reducible repeat (first | refine blk_drewN ?_ _ | refine blk_drew ?_ | refine blk_alloc ?_ _)); exact BK869.out) hb); replace HR886_0 := Aside0.mk (Kd.C_below ((Kd.V_reads' (by (with_reducible repeat (first | apply Kd.V_alloc | apply Kd.V_drewN | apply Kd.V_drew)); exact (Kd.V_mono (Kd.V_far (p := ⟨gb899, 1, none⟩) (Kd.V_far (p := ⟨gb899, 0, none⟩) (Kd.V_mono HL886_0.out (fun k_ hk => (⟨hk, hk.2⟩ : _ ∧ k_ ≠ gb899))) (fun _ hk => hk.2) (.slice Ao36 t893.length co36)) (fun _ hk => hk.2) (.slice Ao39 t896.length co39)) (fun _ h_ => h_.1)))).2.2) hb); replace HL886_0 := Aside0.mk (Kd.V_below (by (with_reducible repeat (first | apply Kd.V_alloc | apply Kd.V_drewN | apply Kd.V_drew)); exact (Kd.V_mono (Kd.V_far (p := ⟨gb899, 1, none⟩) (Kd.V_far (p := ⟨gb899, 0, none⟩) (Kd.V_mono HL886_0.out (fun k_ hk => (⟨hk, hk.2⟩ : _ ∧ k_ ≠ gb899))) (fun _ hk => hk.2) (.slice Ao36 t893.length co36)) (fun _ hk => hk.2) (.slice Ao39 t896.length co39)) (fun _ h_ => h_.1))) hb); replace HR886_1 := Aside0.mk (Kd.C_below ((Kd.V_reads' (by (with_reducible repeat (first | apply Kd.V_alloc | apply Kd.V_drewN | apply Kd.V_drew)); exact (Kd.V_mono (Kd.V_far (p := ⟨gb899, 1, none⟩) (Kd.V_far (p := ⟨gb899, 0, none⟩) (Kd.V_mono HL886_1.out (fun k_ hk => (⟨hk, hk.2⟩ : _ ∧ k_ ≠ gb899))) (fun _ hk => hk.2) (.slice Ao36 t893.length co36)) (fun _ hk => hk.2) (.slice Ao39 t896.length co39)) (fun _ h_ => h_.1)))).2.2) hb); replace HL886_1 := Aside0.mk (Kd.V_below (by (with_reducible repeat (first | apply Kd.V_alloc | apply Kd.V_drewN | apply Kd.V_drew)); exact (Kd.V_mono (Kd.V_far (p := ⟨gb899, 1, none⟩) (Kd.V_far (p := ⟨gb899, 0, none⟩) (Kd.V_mono HL886_1.out (fun k_ hk => (⟨hk, hk.2⟩ : _ ∧ k_ ≠ gb899))) (fun _ hk => hk.2) (.slice Ao36 t893.length co36)) (fun _ hk => hk.2) (.slice Ao39 t896.length co39)) (fun _ h_ => h_.1))) hb); replace BK899 := Aside0.mk (blk_below (g := gb899) (o := .cells #[.slice Ao36 t893.length co36, .slice Ao39 t896.length co39] 25 (0, 0)) qp_ hb); replace HB := b1_ hb; clear hb; obtain ⟨hcz41_0, hcz41_1, hfz41_0, hfz41_1⟩ := c2_ BK899) | ((with_reducible refine gate_builtin (b := .append) (xs := #[.tmp 38, .tmp 40]) rfl ?_); at_builtin; refine Kd.N_append k25 (w0 := w) w.heap.size rfl (.tmp 38) (.tmp 40) 36 25 (.agg #[(.slice none 0 0), (.slice none 0 0)]) 48 rfl Try.underlying36 info25 rfl (by decide) (by omega) (.slice (some ad886) x5_2.length co30) x5_2 (⟨t893, t896⟩ : S25) [.slice Ao36 t893.length co36, .slice Ao39 t896.length co39] (fun k_ => (w.heap.size ≤ k_) ∧ some k_ ≠ (u6 : Value).ownBlock ∧ some k_ ≠ (.slice (some ad885) y882.length co16 : Value).ownBlock ∧ some k_ ≠ (.slice Ao32 t887.length co32 : Value).ownBlock ∧ some k_ ≠ (.slice Ao33 t890.length co33 : Value).ownBlock ∧ k_ ≠ gb869 ∧ k_ ≠ gb899) (fun k_ => ((fun k_ => (w.heap.size ≤ k_) ∧ some k_ ≠ (u6 : Value).ownBlock ∧ some k_ ≠ (.slice (some ad885) y882.length co16 : Value).ownBlock ∧ some k_ ≠ (.slice Ao32 t887.length co32 : Value).ownBlock ∧ some k_ ≠ (.slice Ao33 t890.length co33 : Value).ownBlock ∧ k_ ≠ gb869 ∧ k_ ≠ gb899)) k_ ∧ some k_ ≠ (.slice (some ad886) x5_2.length co30 : Value).ownBlock) rfl rfl ?aP (fun _ hk => hk) ?aF ?aO ?aB ?aS ?aL ?_; (case aP => exact (k25_mkF _ _ (⟨t893, t896⟩ : S25) (Kd.R_reads' (Kd.R_mono (ok' := (fun k_ => ((fun k_ => (w.heap.size ≤ k_) ∧ some k_ ≠ (u6 : Value).ownBlock ∧ some k_ ≠ (.slice (some ad885) y882.length co16 : Value).ownBlock ∧ some k_ ≠ (.slice Ao32 t887.length co32 : Value).ownBlock ∧ some k_ ≠ (.slice Ao33 t890.length co33 : Value).ownBlock ∧ k_ ≠ gb869 ∧ k_ ≠ gb899)) k_ ∧ some k_ ≠ (.slice (some ad886) x5_2.length co30 : Value).ownBlock)) (Kd.R_types (Kd.R_types (Kd.R_apart' (Kd.R_apart' (Kd.R_apart' (HO895.out) (Kd.R_typed HO_6.out) (by decide)) (Kd.R_typed HO_21.out) (by decide)) (Kd.N_typed HO_5.out) (by decide)) BK869.out (by decide)) BK899.out (by decide)) (fun k_ hk => ⟨⟨hk.1.1.1.1.1.1.1.1, ⟨hk.1.1.1.1.2, ⟨hk.1.1.1.2, ⟨hk.1.1.1.1.1.1.2, ⟨hk.1.1.1.1.1.2, ⟨hk.1.2, hk.2⟩⟩⟩⟩⟩⟩, hk.1.1.2⟩))).2.1 (Kd.R_F (Kd.R_mono (ok' := (fun k_ => ((fun k_ => (w.heap.size ≤ k_) ∧ some k_ ≠ (u6 : Value).ownBlock ∧ some k_ ≠ (.slice (some ad885) y882.length co16 : Value).ownBlock ∧ some k_ ≠ (.slice Ao32 t887.length co32 : Value).ownBlock ∧ some k_ ≠ (.slice Ao33 t890.length co33 : Value).ownBlock ∧ k_ ≠ gb869 ∧ k_ ≠ gb899)) k_ ∧ some k_ ≠ (.slice (some ad886) x5_2.length co30 : Value).ownBlock)) (Kd.R_types (Kd.R_types (Kd.R_apart' (Kd.R_apart' (Kd.R_apart' (HO895.out) (Kd.R_typed HO_6.out) (by decide)) (Kd.R_typed HO_21.out) (by decide)) (Kd.N_typed HO_5.out) (by decide)) BK869.out (by decide)) BK899.out (by decide)) (fun k_ hk => ⟨⟨hk.1.1.1.1.1.1.1.1, ⟨hk.1.1.1.1.2, ⟨hk.1.1.1.2, ⟨hk.1.1.1.1.1.1.2, ⟨hk.1.1.1.1.1.2, ⟨hk.1.2, hk.2⟩⟩⟩⟩⟩⟩, hk.1.1.2⟩))) (Kd.R_reads' (Kd.R_mono (ok' := (fun k_ => ((fun k_ => (w.heap.size ≤ k_) ∧ some k_ ≠ (u6 : Value).ownBlock ∧ some k_ ≠ (.slice (some ad885) y882.length co16 : Value).ownBlock ∧ some k_ ≠ (.slice Ao32 t887.length co32 : Value).ownBlock ∧ some k_ ≠ (.slice Ao33 t890.length co33 : Value).ownBlock ∧ k_ ≠ gb869 ∧ k_ ≠ gb899)) k_ ∧ some k_ ≠ (.slice (some ad886) x5_2.length co30 : Value).ownBlock)) (Kd.R_types (Kd.R_types (Kd.R_apart' (Kd.R_apart' (Kd.R_apart' (HO898.out) (Kd.R_typed HO_6.out) (by decide)) (Kd.R_typed HO_21.out) (by decide)) (Kd.N_typed HO_5.out) (by decide)) BK869.out (by decide)) BK899.out (by decide)) (fun k_ hk => ⟨⟨hk.1.1.1.1.1.1.1.1, ⟨hk.1.1.1.1.2, ⟨hk.1.1.1.2, ⟨hk.1.1.1.1.1.1.2, ⟨hk.1.1.1.1.1.2, ⟨hk.1.2, hk.2⟩⟩⟩⟩⟩⟩, hk.1.1.2⟩))).2.1 (Kd.R_F (Kd.R_mono (ok' := (fun k_ => ((fun k_ => (w.heap.size ≤ k_) ∧ some k_ ≠ (u6 : Value).ownBlock ∧ some k_ ≠ (.slice (some ad885) y882.length co16 : Value).ownBlock ∧ some k_ ≠ (.slice Ao32 t887.length co32 : Value).ownBlock ∧ some k_ ≠ (.slice Ao33 t890.length co33 : Value).ownBlock ∧ k_ ≠ gb869 ∧ k_ ≠ gb899)) k_ ∧ some k_ ≠ (.slice (some ad886) x5_2.length co30 : Value).ownBlock)) (Kd.R_types (Kd.R_types (Kd.R_apart' (Kd.R_apart' (Kd.R_apart' (HO898.out) (Kd.R_typed HO_6.out) (by decide)) (Kd.R_typed HO_21.out) (by decide)) (Kd.N_typed HO_5.out) (by decide)) BK869.out (by decide)) BK899.out (by decide)) (fun k_ hk => ⟨⟨hk.1.1.1.1.1.1.1.1, ⟨hk.1.1.1.1.2, ⟨hk.1.1.1.2, ⟨hk.1.1.1.1.1.1.2, ⟨hk.1.1.1.1.1.2, ⟨hk.1.2, hk.2⟩⟩⟩⟩⟩⟩, hk.1.1.2⟩))))); (case aB => exact hB_); (case aF => exact (fun k_ hk => ⟨(Nat.le_trans (below_size hB_) hk), Kd.fresh' (Kd.R_lt (rr_ HO_6)) k_ hk, Kd.fresh' (Kd.R_lt (rr_ HO_21)) k_ hk, Kd.fresh' (Kd.R_lt (rr_ HO889)) k_ hk, Kd.fresh' (Kd.R_lt (rr_ HO892)) k_ hk, Kd.freshB (kk_ BK869) k_ hk, Kd.freshB (kk_ BK899) k_ hk⟩)); (case aO => exact (by (with_reducible repeat (first | apply Kd.N_alloc | apply Kd.N_drewN | apply Kd.N_drew)); exact Kd.N_mono HO_5.out (fun _ hk => ⟨hk.1.1.1.1.1.1, ⟨hk.1.1.1.1.1.2.1, ⟨hk.1.1.1.1.1.2.2.1, ⟨hk.1.1.1.1.2, ⟨hk.1.1.1.2, ⟨hk.1.1.1.1.1.2.2.2, hk.2⟩⟩⟩⟩⟩⟩))); (case aS => exact (below_size hB_)); (case aL => have := LMc26.out; omega); intro v902 w42 ho hb hg hat; rw [← Ny901.out] at ho; replace HO_6 := Aside0.mk (Kd.R_over' (rr_ HO_6) (Kd.N_typed (by (with_reducible repeat (first | apply Kd.N_alloc | apply Kd.N_drewN | apply Kd.N_drew)); exact HO_5.out)) (by decide) hg); replace HO_21 := Aside0.mk (Kd.R_over' (rr_ HO_21) (Kd.N_typed (by (with_reducible repeat (first | apply Kd.N_alloc | apply Kd.N_drewN | apply Kd.N_drew)); exact HO_5.out)) (by decide) hg); replace BK869 := Aside0.mk (blk_grown (kk_ BK869) hg (Kd.N_away HO_5.out (fun _ hk => hk.1.1.1.1.1.2.2.2))); replace HL886_0 := Aside0.mk (Kd.V_afterv (ok := (fun k_ => (w.heap.size ≤ k_) ∧ some k_ ≠ (u6 : Value).ownBlock ∧ some k_ ≠ (.slice (some ad885) y882.length co16 : Value).ownBlock ∧ some k_ ≠ (.slice Ao32 t887.length co32 : Value).ownBlock ∧ some k_ ≠ (.slice Ao33 t890.length co33 : Value).ownBlock ∧ some k_ ≠ (.slice Ao36 t893.length co36 : Value).ownBlock ∧ some k_ ≠ (.slice Ao39 t896.length co39 : Value).ownBlock ∧ k_ ≠ gb869 ∧ k_ ≠ gb899)) (by (with_reducible repeat (first | apply Kd.V_alloc | apply Kd.V_drewN | apply Kd.V_drew)); exact Kd.V_mono HL886_0.out (fun _ hk => ⟨⟨hk.1.1.1.1.1.1.1, ⟨hk.1.1.1.1.1.1.2.1, ⟨hk.1.1.1.1.1.1.2.2.1, ⟨hk.1.1.1.1.2, ⟨hk.1.1.1.2, ⟨hk.1.1.2, ⟨hk.1.2, ⟨hk.1.1.1.1.1.1.2.2.2, hk.2⟩⟩⟩⟩⟩⟩⟩⟩, hk.1.1.1.1.1.2⟩)) hg hat); replace HL886_1 := Aside0.mk (Kd.V_afterv (ok := (fun k_ => (w.heap.size ≤ k_) ∧ some k_ ≠ (u6 : Value).ownBlock ∧ some k_ ≠ (.slice (some ad885) y882.length co16 : Value).ownBlock ∧ some k_ ≠ (.slice Ao32 t887.length co32 : Value).ownBlock ∧ some k_ ≠ (.slice Ao33 t890.length co33 : Value).ownBlock ∧ some k_ ≠ (.slice Ao36 t893.length co36 : Value).ownBlock ∧ some k_ ≠ (.slice Ao39 t896.length co39 : Value).ownBlock ∧ k_ ≠ gb869 ∧ k_ ≠ gb899)) (by (with_reducible repeat (first | apply Kd.V_alloc | apply Kd.V_drewN | apply Kd.V_drew)); exact Kd.V_mono HL886_1.out (fun _ hk => ⟨⟨hk.1.1.1.1.1.1.1, ⟨hk.1.1.1.1.1.1.2.1, ⟨hk.1.1.1.1.1.1.2.2.1, ⟨hk.1.1.1.1.2, ⟨hk.1.1.1.2, ⟨hk.1.1.2, ⟨hk.1.2, ⟨hk.1.1.1.1.1.1.2.2.2, hk.2⟩⟩⟩⟩⟩⟩⟩⟩, hk.1.1.1.1.1.2⟩)) hg hat); replace HO889 := Aside0.mk (Kd.R_over' (rr_ HO889) (Kd.N_typed (by (with_reducible repeat (first | apply Kd.N_alloc | apply Kd.N_drewN | apply Kd.N_drew)); exact HO_5.out)) (by decide) hg); replace HO892 := Aside0.mk (Kd.R_over' (rr_ HO892) (Kd.N_typed (by (with_reducible repeat (first | apply Kd.N_alloc | apply Kd.N_drewN | apply Kd.N_drew)); exact HO_5.out)) (by decide) hg); replace BK899 := Aside0.mk (blk_grown (kk_ BK899) hg (Kd.N_away HO_5.out (fun _ hk => hk.2))); replace HB := Aside0.mk hb; have HO903 := Aside0.mk ho; clear HO_5 HO895 HO898; clear ho hb hg hat; obtain ⟨Ao43, co43, eo43⟩ := Kd.R_slice HO_6.out; subst eo43; have p904 : 0 ≤ (x7_1 : Int) := of_decide_eq_true qe_; have q904 : x7_1 < (x6_2.length : Int) := of_decide_eq_true qe_; obtain ⟨ad904, e904, hx904_0⟩ := Kd.at_string (Kd.R_reads' HO_6.out).2.2 x7_1 p904 q904; cases e904; replace p904 := eq_true p904; replace q904 := eq_true q904))
                replace HO_6 := Aside0.mk (Kd.R_drew HO_6.out)
                replace HO_21 := Aside0.mk (Kd.R_drew HO_21.out)
                replace HL886_0 := Aside0.mk (Kd.V_drew HL886_0.out)
                replace HL886_1 := Aside0.mk (Kd.V_drew HL886_1.out)
                replace HO889 := Aside0.mk (Kd.R_drew HO889.out)
                replace HO892 := Aside0.mk (Kd.R_drew HO892.out)
                replace HO903 := Aside0.mk (Kd.N_drew HO903.out)
                replace BK869 := Aside0.mk (blk_drew BK869.out)
                replace BK899 := Aside0.mk (blk_drew BK899.out)
                replace HB := Aside0.mk (below_drew1 HB.out)
                have hx_ : w42.drew.cell? (ad904.add (x7_1).toNat) = some (.string (rdOf ByteArray.empty x6_2 x7_1)) := hx904_0
                refine start_ (n := 12) (S := fun w' => w'.cell? (ad904.add (x7_1).toNat) = some (.string (rdOf ByteArray.empty x6_2 x7_1))) (ds := [10]) (bl_ 12 0) (by kernel_rfl) rfl (by kernel_rfl) hx_ (fun hHeld => ?_); refine with_tabW spec_l06Orbit.tab12 spec_l06Orbit.bits12 (fun HT_ HW_ => ?_)
                generalize w42.drew = w44 at HO_6 HO_21 HL886_0 HL886_1 HO889 HO892 HO903 BK869 BK899 HB hHeld ⊢
                refine pu_ 0 (some 42) (bl_ 12 1) HT_ ?_
                refine pu_ 1 (some 43) (bl_ 12 3) HT_ ?_
                refine pu_ 2 (some 44) (bl_ 12 7) HT_ ?_
                refine pu_ 3 (some 45) (bl_ 12 15) HT_ ?_
                refine ta_ 4 (some 46) (bl_ 12 31) HT_ HW_ hHeld ?_
                refine pu_ 5 (some 47) (bl_ 12 63) HT_ ?_
                refine on_ 6 (some 48) (bl_ 12 127) HT_ (fun K hK => ?_)
                refine Kd.R_lit_step (Kd.int .u8) _ 5 ?hg (N := 48) ?hd (xs := ([rd y882 x23_2] : List Int)) (inner := [.int .u8 (rd y882 x23_2)]) (ok := fun _ => True) (okp := fun _ => True) ?hr ?hp (fun _ hk => hk) trivial (Below.refl _ _) (Nat.le_refl _) (by simp) ?_; (case hd => rfl); (case hg => rfl); (case hr => first | (go_simp; done) | (go_simp; rfl)); (case hp => exact (Reps.one (show Kd.M (Kd.int .u8) _ _ _ (rd y882 x23_2) [.int .u8 (rd y882 x23_2)] from rfl) (Reps.none _ _)))
                intro v906 w45 ho46 hb hg_ hnew_
                have hS1_ := (hb.cell (World.block_lt_of_cell? _ _ hHeld)).trans hHeld
                clear hg_ hnew_
                (first | rw [← Ny905.out] at ho46 | (simp only [Int.reduceToNat] at ho46; rw [← Ny905.out] at ho46))
                replace HO_6 := rb_ HO_6 hb
                replace HL886_0 := Aside0.mk (Kd.V_elder' (by (with_reducible repeat (first | apply Kd.V_alloc | apply Kd.V_drewN | apply Kd.V_drew)); exact HL886_0.out) (Kd.R_base ho46) hb)
                replace HL886_1 := Aside0.mk (Kd.V_elder' (by (with_reducible repeat (first | apply Kd.V_alloc | apply Kd.V_drewN | apply Kd.V_drew)); exact HL886_1.out) (Kd.R_base ho46) hb)
                replace HO889 := rb_ HO889 hb
                replace HO892 := rb_ HO892 hb
                replace HO903 := Aside0.mk (Kd.N_elder' (by (with_reducible repeat (first | apply Kd.N_alloc | apply Kd.N_drewN | apply Kd.N_drew)); exact HO903.out) (Kd.R_base ho46) hb)
                have HO907 := Aside0.mk (Kd.R_lower (Kd.R_new' (Kd.R_newM (M := fun k_ => (w.heap.size ≤ k_)) ho46 (below_size hB_) (fun k_ h_ => h_)) (Kd.R_lt (rr_ HO_21))) (below_size hB_))
                replace HO_21 := Aside0.mk (Kd.R_elder' (rr_ HO_21) (Kd.R_base ho46) hb)
                replace BK869 := bb_ BK869 hb
                replace BK899 := bb_ BK899 hb
                replace HB := b1_ hb
                clear hb ho46
                refine hK.out _ _ hS1_ (fun hHeld => ?_)
                clear hK K
                refine no_ (some 48) ?_
                refine on_ 7 (some 49) (bl_ 12 255) HT_ (fun K hK => ?_)
                have hcv47 := own_string (P := Try.prog) Try.underlying22 Try.underlying5 Try.underlying9 (Kd.own_of_R HO907.out)
                refine value_ (w1 := ?_) (v := ?_) (by rfl) rfl ?_ ?_
                rotate_left 2
                · go_simp
                  constructor
                  · rfl
                  · rfl
                clear hcv47
                refine hK.out _ _ hHeld (fun hHeld => ?_)
                clear hK K
                refine no_ (some 49) ?_
                refine pu_ 8 (some 50) (bl_ 12 511) HT_ ?_
                refine on_ 9 (some 51) (bl_ 12 1023) HT_ (fun K hK => ?_)
                refine value_ (w1 := ?_) (v := ?_) (by rfl) rfl ?_ ?_
                rotate_left 2
                · go_simp
                  constructor
                  · rfl
                  · rfl
                refine hK.out _ _ (by first | exact hHeld | exact ((below_alloc (Below.refl _ _) _).cell (World.block_lt_of_cell? _ _ hHeld)).trans hHeld) (fun hHeld => ?_)
                clear hK K
                refine no_ (some 51) ?_
                refine last_ (i := 10) (N := some 52) (bl_ 12 2047) rfl rfl (one_of HT_.out (by kernel_rfl)) (by decide) (fun K hK => ?_)
                refine Kd.R_append_step Kd.string (w0 := w) w.heap.size (by rfl) (.tmp 42) (.tmp 51) 53 9 (.string ⟨#[]⟩) 16 rfl Try.underlying53 info9 rfl (by decide) (by omega) (.slice (some ad904) x6_2.length co43) x6_2 ((rdOf ByteArray.empty x6_2 x7_1) ++ (strOfNums y905)) [.string ((rdOf ByteArray.empty x6_2 x7_1) ++ (strOfNums y905))] (fun k_ => (w.heap.size ≤ k_)) (fun _ => False) rfl rfl ?aP (fun _ hk => hk.elim) ?aF ?aO ?aB ?aS ?aL ?_
                (case aP => exact rfl)
                (case aB => exact hB_)
                (case aF => exact (fun k_ hk => (Nat.le_trans (below_size hB_) hk)))
                (case aO => exact (rr_ HO_6))
                (case aS => exact (below_size hB_))
                (case aL => have := LMc29.out; omega)
                intro v909 w48 ho hb hg hat
                rw [← Ny908.out] at ho
                replace HO_21 := Aside0.mk (Kd.R_over' (rr_ HO_21) (Kd.R_typed (rr_ HO_6)) (by decide) hg)
                replace BK869 := Aside0.mk (blk_grown (kk_ BK869) hg (Kd.R_ne HO_6.out BK869.out (by decide)))
                replace HL886_0 := Aside0.mk (Kd.V_afterv (ok := (fun k_ => (w.heap.size ≤ k_) ∧ some k_ ≠ (.slice (some ad885) y882.length co16 : Value).ownBlock ∧ some k_ ≠ (.slice Ao32 t887.length co32 : Value).ownBlock ∧ some k_ ≠ (.slice Ao33 t890.length co33 : Value).ownBlock ∧ some k_ ≠ (v902 : Value).ownBlock ∧ some k_ ≠ (v906 : Value).ownBlock ∧ k_ ≠ gb869 ∧ k_ ≠ gb899)) (by (with_reducible repeat (first | apply Kd.V_alloc | apply Kd.V_drewN | apply Kd.V_drew)); exact Kd.V_mono HL886_0.out (fun _ hk => ⟨⟨hk.1.1.1, ⟨hk.1.1.2.2.1, ⟨hk.1.1.2.2.2.1, ⟨hk.1.1.2.2.2.2.1, ⟨hk.1.2, ⟨hk.2, ⟨hk.1.1.2.2.2.2.2.2.2.1, hk.1.1.2.2.2.2.2.2.2.2⟩⟩⟩⟩⟩⟩⟩, hk.1.1.2.1⟩)) hg hat)
                replace HL886_1 := Aside0.mk (Kd.V_afterv (ok := (fun k_ => (w.heap.size ≤ k_) ∧ some k_ ≠ (.slice (some ad885) y882.length co16 : Value).ownBlock ∧ some k_ ≠ (.slice Ao32 t887.length co32 : Value).ownBlock ∧ some k_ ≠ (.slice Ao33 t890.length co33 : Value).ownBlock ∧ some k_ ≠ (v902 : Value).ownBlock ∧ some k_ ≠ (v906 : Value).ownBlock ∧ k_ ≠ gb869 ∧ k_ ≠ gb899)) (by (with_reducible repeat (first | apply Kd.V_alloc | apply Kd.V_drewN | apply Kd.V_drew)); exact Kd.V_mono HL886_1.out (fun _ hk => ⟨⟨hk.1.1.1, ⟨hk.1.1.2.2.1, ⟨hk.1.1.2.2.2.1, ⟨hk.1.1.2.2.2.2.1, ⟨hk.1.2, ⟨hk.2, ⟨hk.1.1.2.2.2.2.2.2.2.1, hk.1.1.2.2.2.2.2.2.2.2⟩⟩⟩⟩⟩⟩⟩, hk.1.1.2.1⟩)) hg hat)
                replace HO889 := Aside0.mk (Kd.R_over' (rr_ HO889) (Kd.R_typed (rr_ HO_6)) (by decide) hg)
                replace HO892 := Aside0.mk (Kd.R_over' (rr_ HO892) (Kd.R_typed (rr_ HO_6)) (by decide) hg)
                replace BK899 := Aside0.mk (blk_grown (kk_ BK899) hg (Kd.R_ne HO_6.out BK899.out (by decide)))
                replace HO903 := Aside0.mk (Kd.N_afterv (ok := (fun k_ => (w.heap.size ≤ k_) ∧ some k_ ≠ (.slice (some ad885) y882.length co16 : Value).ownBlock ∧ some k_ ≠ (.slice Ao32 t887.length co32 : Value).ownBlock ∧ some k_ ≠ (.slice Ao33 t890.length co33 : Value).ownBlock ∧ some k_ ≠ (v906 : Value).ownBlock ∧ k_ ≠ gb869 ∧ k_ ≠ gb899)) (by (with_reducible repeat (first | apply Kd.N_alloc | apply Kd.N_drewN | apply Kd.N_drew)); exact Kd.N_mono HO903.out (fun _ hk => ⟨⟨hk.1.1, ⟨hk.1.2.2.1, ⟨hk.1.2.2.2.1, ⟨hk.1.2.2.2.2.1, ⟨hk.2, ⟨hk.1.2.2.2.2.2.1, hk.1.2.2.2.2.2.2⟩⟩⟩⟩⟩⟩, hk.1.2.1⟩)) hg hat)
                replace HO907 := Aside0.mk (Kd.R_over' (rr_ HO907) (Kd.R_typed (rr_ HO_6)) (by decide) hg)
                replace HB := Aside0.mk hb
                have HO910 := Aside0.mk ho
                clear HO_6
                clear ho hb hg hat
                refine hK.out _ _ ?_
                clear hK K
                refine no_ (some 52) ?_
                refine pu_ 11 (some 6) (bl_ 12 4095) HT_ ?_
                refine done_ (done_of HT_.out (by kernel_rfl)) ?_
                try go_wp2
                go_roundg k2
                case measure => have := HK1.out; have := HK2.out; omega
                case rel => exact ⟨(y901), (y908), (wrap64 (x23_2 + 1)), qc_, H', ⟨by have := HK1.out; have := HK2.out; omega⟩, ⟨by (with_reducible repeat (first | apply Kd.N_alloc | apply Kd.N_drewN | apply Kd.N_drew)); exact Kd.N_mono HO903.out (fun _ hk => ⟨hk.1.1, ⟨hk.2, ⟨hk.1.2.1, hk.1.2.2.2.2.2.1⟩⟩⟩)⟩, ⟨(rr_ HO910)⟩, ⟨(rw_ (Kd.R_mono HO_21.out (fun _ hk => hk.1)))⟩, ⟨(kk_ BK869)⟩, ⟨hB_⟩⟩
              · rw [if_neg c25] at H
                have c25b0 := decide_eq_false c25
                clear c25
                have H' := Aside0.mk H
                clear H
                have p885 : 0 ≤ (x23_2 : Int) := of_decide_eq_true qe_
                have q885 : x23_2 < (y882.length : Int) := of_decide_eq_true qe_
                obtain ⟨ad885, e885, hx885_0⟩ := Kd.at_int (Kd.R_reads' HO_21.out).2.2 x23_2 p885 q885
                cases e885
                replace p885 := eq_true p885
                replace q885 := eq_true q885
                obtain ⟨Ao49, co49, eo49⟩ := Kd.N_slice HO_5.out
                subst eo49
                have p886 : 0 ≤ (x7_1 : Int) := of_decide_eq_true qe_
                have q886 : x7_1 < (x5_2.length : Int) := of_decide_eq_true qe_
                obtain ⟨ad886, A886_0, c886_0, A886_1, c886_1, e886, hx886_0, hx886_1, hl886_0, hi886_0, hl886_1, hi886_1⟩ := at_T25 (Kd.N_reads' HO_5.out).2.2 x7_1 p886 q886
                cases e886
                obtain ⟨ce886, hce886, hMe886, hcc886⟩ := Kd.N_get HO_5.out z25 x7_1 p886 (by first | exact q886 | exact of_decide_eq_true qe_ | (have e_ := (Kd.N_reads' HO_5.out).1; omega))
                obtain ⟨ua886_0, uc886_0, ua886_1, uc886_1, rfl, ul886_0, ge886_0, ul886_1, ge886_1⟩ := k25_openF hMe886
                have hv886_0 := hcc886 0 _ rfl
                rw [Nat.add_zero] at hv886_0
                replace hv886_0 := Option.some.inj (hv886_0.symm.trans hx886_0)
                injection hv886_0 with hva_ hvn_ hvc_
                rw [hva_] at ge886_0
                rw [hvc_] at ul886_0
                have HL886_0 := Aside0.mk (show Kd.V (Kd.int .i64) 3 _ w.heap.size _ _ ((rd_T25 x5_2 x7_1).f0) from Kd.V_mk ul886_0 ge886_0)
                clear hva_ hvn_ hvc_ ge886_0 ul886_0
                have hv886_1 := hcc886 1 _ rfl
                rw [add_field _ _ 1 (by omega)] at hv886_1
                replace hv886_1 := Option.some.inj (hv886_1.symm.trans hx886_1)
                injection hv886_1 with hva_ hvn_ hvc_
                rw [hva_] at ge886_1
                rw [hvc_] at ul886_1
                have HL886_1 := Aside0.mk (show Kd.V (Kd.int .i64) 3 _ w.heap.size _ _ ((rd_T25 x5_2 x7_1).f1) from Kd.V_mk ul886_1 ge886_1)
                clear hva_ hvn_ hvc_ ge886_1 ul886_1
                clear hcc886 hce886
                have HR886_0 := Aside0.mk hi886_0
                have HC886_0 := Aside0.mk hl886_0
                clear hi886_0 hl886_0
                have HR886_1 := Aside0.mk hi886_1
                have HC886_1 := Aside0.mk hl886_1
                clear hi886_1 hl886_1
                replace p886 := eq_true p886
                replace q886 := eq_true q886
                go_wp2_with (first | ((with_reducible refine gate_callee (f := 87) rfl ?_); refine gL_ (some 32) Try.func87 #[.agg #[.slice A886_0 ((rd_T25 x5_2 x7_1).f0).length c886_0, .slice A886_1 ((rd_T25 x5_2 x7_1).f1).length c886_1], .int .u8 (rd y882 x23_2)] rfl qa_ ?_; (with_reducible refine (spec_l05Letter.calls k2 _ _ ((rd_T25 x5_2 x7_1).f0) _ _ ((rd_T25 x5_2 x7_1).f1) (rd y882 x23_2) t887 t890 _ ?side1 ?side2 ?side3 ?side4 A22.out).mono ?_); (case side1 => repeat (first | exact (by repeat (first | (with_reducible exact HR886_0.out) | (with_reducible refine Kd.C_alloc ?_ _) | (with_reducible refine Kd.C_drewN ?_ _) | (with_reducible refine Kd.C_drew ?_) | exact HR886_0.out)) | (with_reducible refine Kd.C_alloc ?_ _) | (with_reducible refine Kd.C_drewN ?_ _) | (with_reducible refine Kd.C_drew ?_))); (case side2 => exact HC886_0.out); (case side3 => repeat (first | exact (by repeat (first | (with_reducible exact HR886_1.out) | (with_reducible refine Kd.C_alloc ?_ _) | (with_reducible refine Kd.C_drewN ?_ _) | (with_reducible refine Kd.C_drew ?_) | exact HR886_1.out)) | (with_reducible refine Kd.C_alloc ?_ _) | (with_reducible refine Kd.C_drewN ?_ _) | (with_reducible refine Kd.C_drew ?_))); (case side4 => exact HC886_1.out); rintro e w50 ⟨v888, v891, rfl, ho0, ho1, hb⟩; refine ⟨_, rfl, ?_⟩; replace HO_5 := Aside0.mk (Kd.N_mono (Kd.N_told (Kd.N_told (Kd.N_old (by (with_reducible repeat (first | apply Kd.N_alloc | apply Kd.N_drewN | apply Kd.N_drew)); exact HO_5.out) hb) (Kd.R_base ho0)) (Kd.R_base ho1)) (fun _ h_ => h_.1)); replace HO_6 := rb_ HO_6 hb; replace HO_21 := rb_ HO_21 hb; replace HL886_0 := Aside0.mk (Kd.V_mono (Kd.V_told (Kd.V_told (Kd.V_old (by (with_reducible repeat (first | apply Kd.V_alloc | apply Kd.V_drewN | apply Kd.V_drew)); exact HL886_0.out) hb) (Kd.R_base ho0)) (Kd.R_base ho1)) (fun _ h_ => h_.1)); replace HL886_1 := Aside0.mk (Kd.V_mono (Kd.V_told (Kd.V_told (Kd.V_old (by (with_reducible repeat (first | apply Kd.V_alloc | apply Kd.V_drewN | apply Kd.V_drew)); exact HL886_1.out) hb) (Kd.R_base ho0)) (Kd.R_base ho1)) (fun _ h_ => h_.1)); have HO889 := Aside0.mk (Kd.R_lower (Kd.R_newM (M := fun k_ => (w.heap.size ≤ k_)) ho0 (below_size hB_) (fun k_ h_ => h_)) (below_size hB_)); have HO892 := Aside0.mk (Kd.R_lower (Kd.R_newM (M := fun k_ => (w.heap.size ≤ k_)) ho1 (below_size hB_) (fun k_ h_ => h_)) (below_size hB_)); replace BK869 := bb_ BK869 hb; replace HR886_0 := Aside0.mk (Kd.C_below (by repeat (first | (with_reducible exact HR886_0.out) | (with_reducible refine Kd.C_alloc ?_ _) | (with_reducible refine Kd.C_drewN ?_ _) | (with_reducible refine Kd.C_drew ?_) | exact HR886_0.out)) hb); replace HR886_1 := Aside0.mk (Kd.C_below (by repeat (first | (with_reducible exact HR886_1.out) | (with_reducible refine Kd.C_alloc ?_ _) | (with_reducible refine Kd.C_drewN ?_ _) | (with_reducible refine Kd.C_drew ?_) | exact HR886_1.out)) hb); replace HB := b1_ hb; clear hb ho0 ho1; obtain ⟨Ao51, co51, eo51⟩ := Kd.R_slice HO889.out; subst eo51; obtain ⟨Ao52, co52, eo52⟩ := Kd.R_slice HO892.out; subst eo52) | ((with_reducible refine gate_callee (f := 82) rfl ?_); refine gL_ (some 33) Try.func82 #[.agg #[.slice Ao51 t887.length co51, .slice Ao52 t890.length co52]] rfl qa_ ?_; (with_reducible refine (spec_l03Canon.calls k2 _ _ t887 _ _ t890 t893 t896 _ (cr_ HO889) ((Kd.R_reads' HO889.out).2.1) (cr_ HO892) ((Kd.R_reads' HO892.out).2.1) A23.out).mono ?_); rintro e w53 ⟨v894, v897, rfl, ho0, ho1, hb⟩; refine ⟨_, rfl, ?_⟩; replace HO_5 := Aside0.mk (Kd.N_mono (Kd.N_told (Kd.N_told (Kd.N_old (by (with_reducible repeat (first | apply Kd.N_alloc | apply Kd.N_drewN | apply Kd.N_drew)); exact HO_5.out) hb) (Kd.R_base ho0)) (Kd.R_base ho1)) (fun _ h_ => h_.1)); replace HO_6 := rb_ HO_6 hb; replace HO_21 := rb_ HO_21 hb; replace HL886_0 := Aside0.mk (Kd.V_mono (Kd.V_told (Kd.V_told (Kd.V_old (by (with_reducible repeat (first | apply Kd.V_alloc | apply Kd.V_drewN | apply Kd.V_drew)); exact HL886_0.out) hb) (Kd.R_base ho0)) (Kd.R_base ho1)) (fun _ h_ => h_.1)); replace HL886_1 := Aside0.mk (Kd.V_mono (Kd.V_told (Kd.V_told (Kd.V_old (by (with_reducible repeat (first | apply Kd.V_alloc | apply Kd.V_drewN | apply Kd.V_drew)); exact HL886_1.out) hb) (Kd.R_base ho0)) (Kd.R_base ho1)) (fun _ h_ => h_.1)); have HO895 := Aside0.mk (Kd.R_lower (Kd.R_new' (Kd.R_new' (Kd.R_newM (M := fun k_ => (w.heap.size ≤ k_)) ho0 (below_size hB_) (fun k_ h_ => h_)) (Kd.R_lt (rr_ HO889))) (Kd.R_lt (rr_ HO892))) (below_size hB_)); have HO898 := Aside0.mk (Kd.R_lower (Kd.R_new' (Kd.R_new' (Kd.R_newM (M := fun k_ => (w.heap.size ≤ k_)) ho1 (below_size hB_) (fun k_ h_ => h_)) (Kd.R_lt (rr_ HO889))) (Kd.R_lt (rr_ HO892))) (below_size hB_)); replace HO889 := Aside0.mk (Kd.R_mono (Kd.R_told (Kd.R_told (Kd.R_old (rr_ HO889) hb) (Kd.R_base ho0)) (Kd.R_base ho1)) (fun _ h_ => h_.1)); replace HO892 := Aside0.mk (Kd.R_mono (Kd.R_told (Kd.R_told (Kd.R_old (rr_ HO892) hb) (Kd.R_base ho0)) (Kd.R_base ho1)) (fun _ h_ => h_.1)); replace BK869 := bb_ BK869 hb; replace HR886_0 := Aside0.mk (Kd.C_below (by repeat (first | (with_reducible exact HR886_0.out) | (with_reducible refine Kd.C_alloc ?_ _) | (with_reducible refine Kd.C_drewN ?_ _) | (with_reducible refine Kd.C_drew ?_) | exact HR886_0.out)) hb); replace HR886_1 := Aside0.mk (Kd.C_below (by repeat (first | (with_reducible exact HR886_1.out) | (with_reducible refine Kd.C_alloc ?_ _) | (with_reducible refine Kd.C_drewN ?_ _) | (with_reducible refine Kd.C_drew ?_) | exact HR886_1.out)) hb); replace HB := b1_ hb; clear hb ho0 ho1) | ((with_reducible refine gate_dst (N := 10) rfl ?_); refine bx_ 10 #[.slice none 0 0, .slice none 0 0] 25 ?_; intro gb899 hg w54 hbox hb; replace HO_5 := Aside0.mk (Kd.N_below (Kd.N_elderB (by (with_reducible repeat (first | apply Kd.N_alloc | apply Kd.N_drewN | apply Kd.N_drew)); exact HO_5.out) gb899 (Nat.le_of_eq hg.symm)) hb); replace HO_6 := rb_ HO_6 hb; replace HO_21 := rb_ HO_21 hb; replace HL886_0 := Aside0.mk (Kd.V_below (Kd.V_elderB (by (with_reducible repeat (first | apply Kd.V_alloc | apply Kd.V_drewN | apply Kd.V_drew)); exact HL886_0.out) gb899 (Nat.le_of_eq hg.symm)) hb); replace HL886_1 := Aside0.mk (Kd.V_below (Kd.V_elderB (by (with_reducible repeat (first | apply Kd.V_alloc | apply Kd.V_drewN | apply Kd.V_drew)); exact HL886_1.out) gb899 (Nat.le_of_eq hg.symm)) hb); replace HO889 := rb_ HO889 hb; replace HO892 := rb_ HO892 hb; replace HO895 := rb_ HO895 hb; replace HO898 := rb_ HO898 hb; replace HR886_0 := Aside0.mk (Kd.C_below (by repeat (first | (with_reducible exact HR886_0.out) | (with_reducible refine Kd.C_alloc ?_ _) | (with_reducible refine Kd.C_drewN ?_ _) | (with_reducible refine Kd.C_drew ?_) | exact HR886_0.out)) hb); replace HR886_1 := Aside0.mk (Kd.C_below (by repeat (first | (with_reducible exact HR886_1.out) | (with_reducible refine Kd.C_alloc ?_ _) | (with_reducible refine Kd.C_drewN ?_ _) | (with_reducible refine Kd.C_drew ?_) | exact HR886_1.out)) hb); have BK899 := Aside0.mk hbox; have GW899 := gw_ w hg; have GE899 := GW899; replace HB := b1_ hb; have NB869_899 := gN_ BK869 hg; have NB899_869 := gP_ BK869 hg; replace BK869 := bb_ BK869 hb; clear hb hbox hg; obtain ⟨Ao55, co55, eo55⟩ := Kd.R_slice HO895.out; subst eo55; have hnb56 := NB899_869.out; have hnc56 := NB869_899.out; obtain ⟨hcz57_0, hcz57_1, hfz57_0, hfz57_1⟩ := c2_ BK899; obtain ⟨Ao58, co58, eo58⟩ := Kd.R_slice HO898.out; subst eo58) | ((with_reducible refine gate_callee (f := 81) rfl ?_); refine gL_ (some 36) Try.func81 #[.slice (some ad886) x5_2.length co49, .agg #[.slice Ao55 t893.length co55, .slice Ao58 t896.length co58]] rfl qa_ ?_; (with_reducible refine (spec_l06Find.calls k2 _ _ x5_2 _ _ t893 _ _ t896 t900 _ ?side1 ?side2 ?side3 ?side4 ?side5 ?side6 A24.out).mono ?_); (case side1 => refine (Kd.N_reads' (e := 25) (base := w.heap.size) (ok := fun k_ => (((((((w.heap.size ≤ k_) ∧ (some k_ ≠ (u6 : Value).ownBlock ∧ (some k_ ≠ (.slice (some ad885) y882.length co16 : Value).ownBlock ∧ k_ ≠ gb869))) ∧ some k_ ≠ (.slice Ao51 t887.length co51 : Value).ownBlock) ∧ some k_ ≠ (.slice Ao52 t890.length co52 : Value).ownBlock) ∧ some k_ ≠ (.slice Ao55 t893.length co55 : Value).ownBlock) ∧ some k_ ≠ (.slice Ao58 t896.length co58 : Value).ownBlock) ∧ k_ ≠ gb899)) (n := x5_2.length) (c := co49) ?_).2.2; exact (by (with_reducible repeat (first | apply Kd.N_alloc | apply Kd.N_drewN | apply Kd.N_drew)); exact (Kd.N_mono (Kd.N_far (p := ⟨gb899, 1, none⟩) (Kd.N_far (p := ⟨gb899, 0, none⟩) (Kd.N_mono HO_5.out (fun k_ hk => (⟨hk, hk.2⟩ : _ ∧ k_ ≠ gb899))) (fun _ hk => hk.2) (.slice Ao55 t893.length co55)) (fun _ hk => hk.2) (.slice Ao58 t896.length co58)) (fun _ h_ => h_.1)))); (case side2 => exact (Kd.N_reads' HO_5.out).2.1); (case side3 => refine (Kd.R_reads' (e := 3) (base := w.heap.size) (ok := fun k_ => ((((w.heap.size ≤ k_) ∧ some k_ ≠ (.slice Ao58 t896.length co58 : Value).ownBlock) ∧ some k_ ≠ (.slice Ao51 t887.length co51 : Value).ownBlock) ∧ some k_ ≠ (.slice Ao52 t890.length co52 : Value).ownBlock)) (n := t893.length) (c := co55) ?_).2.2; exact (rw_ (fa_ HO895 BK899))); (case side4 => exact (Kd.R_reads' HO895.out).2.1); (case side5 => refine (Kd.R_reads' (e := 3) (base := w.heap.size) (ok := fun k_ => ((((w.heap.size ≤ k_) ∧ some k_ ≠ (.slice Ao55 t893.length co55 : Value).ownBlock) ∧ some k_ ≠ (.slice Ao51 t887.length co51 : Value).ownBlock) ∧ some k_ ≠ (.slice Ao52 t890.length co52 : Value).ownBlock)) (n := t896.length) (c := co58) ?_).2.2; exact (rw_ (fa_ HO898 BK899))); (case side6 => exact (Kd.R_reads' HO898.out).2.1); rintro e w59 ⟨rfl, hb⟩; refine ⟨_, rfl, ?_⟩; replace HO_5 := Aside0.mk (Kd.N_below (by (with_reducible repeat (first | apply Kd.N_alloc | apply Kd.N_drewN | apply Kd.N_drew)); exact (Kd.N_mono (Kd.N_far (p := ⟨gb899, 1, none⟩) (Kd.N_far (p := ⟨gb899, 0, none⟩) (Kd.N_mono HO_5.out (fun k_ hk => (⟨hk, hk.2⟩ : _ ∧ k_ ≠ gb899))) (fun _ hk => hk.2) (.slice Ao55 t893.length co55)) (fun _ hk => hk.2) (.slice Ao58 t896.length co58)) (fun _ h_ => h_.1))) hb); replace HO_6 := Aside0.mk (Kd.R_below (rw_ (fa_ HO_6 BK899)) hb); replace HO_21 := Aside0.mk (Kd.R_below (rw_ (fa_ HO_21 BK899)) hb); replace HO889 := Aside0.mk (Kd.R_below (rw_ (fa_ HO889 BK899)) hb); replace HO892 := Aside0.mk (Kd.R_below (rw_ (fa_ HO892 BK899)) hb); replace HO895 := Aside0.mk (Kd.R_below (rw_ (fa_ HO895 BK899)) hb); replace HO898 := Aside0.mk (Kd.R_below (rw_ (fa_ HO898 BK899)) hb); replace BK869 := Aside0.mk (blk_below (g := gb869) (o := .cells #[.slice A0_0 l0_0.length c0_0, .slice A0_1 l0_1.length c0_1] 25 (0, 0)) (by (with_reducible repeat (first | refine blk_drewN ?_ _ | refine blk_drew ?_ | refine blk_alloc ?_ _)); refine blk_far ?_ NB869_899.out _; (with_reducible repeat (first | refine blk_drewN ?_ _ | refine blk_drew ?_ | refine blk_alloc ?_ _)); refine blk_far ?_ NB869_899.out _; (with_reducible repeat (first | refine blk_drewN ?_ _ | refine blk_drew ?_ | refine blk_alloc ?_ _)); exact BK869.out) hb); replace HR886_0 := Aside0.mk (Kd.C_below ((Kd.V_reads' (by (with_reducible repeat (first | apply Kd.V_alloc | apply Kd.V_drewN | apply Kd.V_drew)); exact (Kd.V_mono (Kd.V_far (p := ⟨gb899, 1, none⟩) (Kd.V_far (p := ⟨gb899, 0, none⟩) (Kd.V_mono HL886_0.out (fun k_ hk => (⟨hk, hk.2⟩ : _ ∧ k_ ≠ gb899))) (fun _ hk => hk.2) (.slice Ao55 t893.length co55)) (fun _ hk => hk.2) (.slice Ao58 t896.length co58)) (fun _ h_ => h_.1)))).2.2) hb); replace HL886_0 := Aside0.mk (Kd.V_below (by (with_reducible repeat (first | apply Kd.V_alloc | apply Kd.V_drewN | apply Kd.V_drew)); exact (Kd.V_mono (Kd.V_far (p := ⟨gb899, 1, none⟩) (Kd.V_far (p := ⟨gb899, 0, none⟩) (Kd.V_mono HL886_0.out (fun k_ hk => (⟨hk, hk.2⟩ : _ ∧ k_ ≠ gb899))) (fun _ hk => hk.2) (.slice Ao55 t893.length co55)) (fun _ hk => hk.2) (.slice Ao58 t896.length co58)) (fun _ h_ => h_.1))) hb); replace HR886_1 := Aside0.mk (Kd.C_below ((Kd.V_reads' (by (with_reducible repeat (first | apply Kd.V_alloc | apply Kd.V_drewN | apply Kd.V_drew)); exact (Kd.V_mono (Kd.V_far (p := ⟨gb899, 1, none⟩) (Kd.V_far (p := ⟨gb899, 0, none⟩) (Kd.V_mono HL886_1.out (fun k_ hk => (⟨hk, hk.2⟩ : _ ∧ k_ ≠ gb899))) (fun _ hk => hk.2) (.slice Ao55 t893.length co55)) (fun _ hk => hk.2) (.slice Ao58 t896.length co58)) (fun _ h_ => h_.1)))).2.2) hb); replace HL886_1 := Aside0.mk (Kd.V_below (by (with_reducible repeat (first | apply Kd.V_alloc | apply Kd.V_drewN | apply Kd.V_drew)); exact (Kd.V_mono (Kd.V_far (p := ⟨gb899, 1, none⟩) (Kd.V_far (p := ⟨gb899, 0, none⟩) (Kd.V_mono HL886_1.out (fun k_ hk => (⟨hk, hk.2⟩ : _ ∧ k_ ≠ gb899))) (fun _ hk => hk.2) (.slice Ao55 t893.length co55)) (fun _ hk => hk.2) (.slice Ao58 t896.length co58)) (fun _ h_ => h_.1))) hb); replace BK899 := Aside0.mk (blk_below (g := gb899) (o := .cells #[.slice Ao55 t893.length co55, .slice Ao58 t896.length co58] 25 (0, 0)) qp_ hb); replace HB := b1_ hb; clear hb))
                go_roundg k2
                case measure => have := HK1.out; have := HK2.out; omega
                case rel => exact ⟨(x5_2), (x6_2), (wrap64 (x23_2 + 1)), qc_, H', ⟨by have := HK1.out; have := HK2.out; omega⟩, ⟨by (with_reducible repeat (first | apply Kd.N_alloc | apply Kd.N_drewN | apply Kd.N_drew)); exact Kd.N_mono HO_5.out (fun _ hk => ⟨hk.1.1.1.1.1.1, ⟨hk.1.1.1.1.1.2.1, ⟨hk.1.1.1.1.1.2.2.1, hk.1.1.1.1.1.2.2.2⟩⟩⟩)⟩, ⟨(rr_ HO_6)⟩, ⟨(rr_ HO_21)⟩, ⟨(kk_ BK869)⟩, ⟨hB_⟩⟩
            · rw [if_neg c17] at H
              have c17b0 := decide_eq_false c17
              clear c17
              by_cases c60 : (x5_2.length : Int) > 120
              · rw [if_pos c60] at H
                have c60b0 : decide (120 < (x5_2.length : Int)) = true := decide_eq_true c60
                have c60b1 : decide (120 < x5_2.length) = true := decide_eq_true (by omega)
                clear c60
                simp only [Option.some.injEq, Prod.mk.injEq] at H
                obtain ⟨rfl, rfl, rfl⟩ := H
                obtain ⟨Ao61, co61, eo61⟩ := Kd.N_slice HO_5.out
                subst eo61
                go_wp2
                go_ret3
                exact ⟨_, _, qb_, by first | exact Kd.S_nil _ _ _ _ _ | exact Kd.N_nil _ _ _ _ _ | exact Kd.V_nil _ _ _ _ _ | exact Kd.Q_nil _ _ _ _ _ | exact Kd.R_nil _ _ _ _ _, by first | exact Kd.R_nil _ _ _ _ _ | exact Kd.N_nil _ _ _ _ _ | exact Kd.V_nil _ _ _ _ _ | exact Kd.Q_nil _ _ _ _ _ | exact Kd.S_nil _ _ _ _ _, hB_⟩
              · rw [if_neg c60] at H
                have c60b0 : decide (120 < (x5_2.length : Int)) = false := decide_eq_false c60
                have c60b1 : decide (120 < x5_2.length) = false := decide_eq_false (by omega)
                clear c60
                have H' := Aside0.mk H
                clear H
                obtain ⟨Ao62, co62, eo62⟩ := Kd.N_slice HO_5.out
                subst eo62
                go_wp2
                go_roundg k2
                case measure => have := HK1.out; have := HK2.out; omega
                case rel => exact ⟨(x5_2), (x6_2), (wrap64 (x7_1 + 1)), qc_, H', ⟨by have := HK1.out; have := HK2.out; omega⟩, ⟨by (with_reducible repeat (first | apply Kd.N_alloc | apply Kd.N_drewN | apply Kd.N_drew)); exact Kd.N_mono HO_5.out (fun _ hk => ⟨hk.1, ⟨hk.2.1, hk.2.2.2⟩⟩)⟩, ⟨(rr_ HO_6)⟩, ⟨(kk_ BK869)⟩, ⟨hB_⟩⟩
      · rw [if_neg c12] at H
        have c12b0 := decide_eq_false c12
        clear c12
        simp only [Option.some.injEq, Prod.mk.injEq] at H
        obtain ⟨rfl, rfl, rfl⟩ := H
        obtain ⟨Ao63, co63, eo63⟩ := Kd.N_slice HO_5.out
        subst eo63
        go_wp2
        go_ret3
        exact ⟨_, _, qb_, by (with_reducible repeat (first | apply Kd.N_alloc | apply Kd.N_drewN | apply Kd.N_drew)); exact Kd.N_mono HO_5.out (fun _ hk => ⟨hk.1, hk.2.1⟩), (rr_ HO_6), hB_⟩
end Go.Proofs.Ytcggfjpnfodbaaa.A
end
section
namespace Go.Proofs.Ytcggfjpnfodbaaa.A
open Go.RowKit Go.Proofs.YtcggfjpnfodbaaaW.PrintWords Go.Proofs.YtcggfjpnfodbaaaW.PrintLast Go.Proofs.YtcggfjpnfodbaaaW.PrintMore
attribute [local go_sem] max2_int min2_int max_two min_two max_three min_three max_four min_four
set_option linter.unusedVariables false
set_option linter.unusedSimpArgs false
def spec_OrbitOf.f (k : Nat) (l0_0 : List Int) (l0_1 : List Int) : Option ((List (S25)) × Bool) := (spec_SurfaceOk.f k l0_0 l0_1).bind fun t912 => (if t912 = true then ((spec_l06Orbit.f k l0_0 l0_1).bind fun bt913 => (some (bt913.1, bt913.2.2))) else (some (([] : List (S25)), false)))
theorem spec_OrbitOf.mono : ∀ a0 a1 k, LeO (spec_OrbitOf.f k a0 a1) (spec_OrbitOf.f (k + 1) a0 a1) := by
  intro a0 a1 k
  unfold spec_OrbitOf.f
  repeat' first|exact spec_SurfaceOk.mono _ _ _|exact spec_l06Orbit.mono _ _ _|exact lo_|refine LeO.ite ?_ ?_|refine LeO.bind ?_ (fun _ => ?_)
set_option maxHeartbeats 8000000 in
set_option maxRecDepth 100000 in
theorem spec_OrbitOf.calls (k : Nat) (A0_0 : Option Addr) (c0_0 : Nat) (l0_0 : List Int) (A0_1 : Option Addr) (c0_1 : Nat) (l0_1 : List Int) (r1 : List (S25)) (r2 : Bool) (w : World) (hr0_0 : Kd.C (Kd.int .i64) w A0_0 l0_0.length l0_0) (hc0_0 : l0_0.length ≤ c0_0) (hr0_1 : Kd.C (Kd.int .i64) w A0_1 l0_1.length l0_1) (hc0_1 : l0_1.length ≤ c0_1) (h : spec_OrbitOf.f k l0_0 l0_1 = some (r1, r2)) :
    Calls Try.prog 39 #[.agg #[.slice A0_0 l0_0.length c0_0, .slice A0_1 l0_1.length c0_1]] w fun e w' => ∃ v0_ : Value, e = .returned (.tuple #[v0_, .bool r2]) ∧ Kd.N k25 25 w' w.heap.size (fun k_ => (w.heap.size ≤ k_)) v0_ r1 ∧ Below w.heap.size w w' := by
  have hu25 := Try.underlying25
  have HR0_0 := Aside0.mk hr0_0
  have HC0_0 := Aside0.mk hc0_0
  clear hr0_0 hc0_0
  have HR0_1 := Aside0.mk hr0_1
  have HC0_1 := Aside0.mk hc0_1
  clear hr0_1 hc0_1
  have HB := Aside0.mk (Below.refl w.heap.size w)
  have H := h
  unfold spec_OrbitOf.f at H
  clear h
  obtain ⟨t912, A2, H⟩ := bi_ H
  by_cases c3 : t912 = true
  · subst c3
    rw [if_pos rfl] at H
    obtain ⟨⟨t913, t916, t919⟩, A4, H⟩ := bi_ H
    try dsimp only at H
    simp only [Option.some.injEq, Prod.mk.injEq] at H
    obtain ⟨rfl, rfl⟩ := H
    go_enter Try.func39, Try.ntmps39
    go_wp2_with (first | ((with_reducible refine gate_dst (N := 1) rfl ?_); refine bx_ 1 #[.slice A0_0 l0_0.length c0_0, .slice A0_1 l0_1.length c0_1] 25 ?_; intro gb911 hg w5 hbox hb; have BK911 := Aside0.mk hbox; have GW911 := gw_ w hg; have GE911 := GW911; replace HB := b1_ hb; clear hb hbox hg; obtain ⟨hcz6_0, hcz6_1, hfz6_0, hfz6_1⟩ := c2_ BK911) | ((with_reducible refine gate_callee (f := 80) rfl ?_); refine gL_ (some 8) Try.func80 #[.agg #[.slice A0_0 l0_0.length c0_0, .slice A0_1 l0_1.length c0_1]] rfl qa_ ?_; (with_reducible refine (spec_SurfaceOk.calls k _ _ l0_0 _ _ l0_1 true _ (cb_ HR0_0) HC0_0.out (cb_ HR0_1) HC0_1.out A2.out).mono ?_); rintro e w7 ⟨rfl, hb⟩; refine ⟨_, rfl, ?_⟩; replace BK911 := bb_ BK911 hb; replace HB := b1_ hb; clear hb; obtain ⟨hcz8_0, hcz8_1, hfz8_0, hfz8_1⟩ := c2_ BK911) | ((with_reducible refine gate_callee (f := 84) rfl ?_); refine gL_ (some 12) Try.func84 #[.agg #[.slice A0_0 l0_0.length c0_0, .slice A0_1 l0_1.length c0_1]] rfl qa_ ?_; (with_reducible refine (spec_l06Orbit.calls k _ _ l0_0 _ _ l0_1 t913 t916 t919 _ (cb_ HR0_0) HC0_0.out (cb_ HR0_1) HC0_1.out A4.out).mono ?_); rintro e w9 ⟨v914, v917, rfl, ho0, ho1, hb⟩; refine ⟨_, rfl, ?_⟩; have HO915 := Aside0.mk (Kd.N_lower (Kd.N_mono (ok' := fun k_ => (w.heap.size ≤ k_) ∧ some k_ ≠ (v917 : Value).ownBlock ∧ k_ ≠ gb911) ho0 (fun k_ hk_ => ⟨(Nat.le_trans (below_size hB_) hk_.1), hk_.2, (Kd.freshB (kk_ BK911) k_ hk_.1)⟩)) (below_size hB_)); have HO918 := Aside0.mk (Kd.R_lower (Kd.R_newM (M := fun k_ => (w.heap.size ≤ k_)) (Kd.R_mono (ok' := fun k_ => True) ho1 (fun _ hk_ => trivial)) (below_size hB_) (fun k_ h_ => h_)) (below_size hB_)); replace BK911 := bb_ BK911 hb; replace HB := b1_ hb; clear hb ho0 ho1))
    go_ret2
    exact ⟨_, qb_, by (with_reducible repeat (first | apply Kd.N_alloc | apply Kd.N_drewN | apply Kd.N_drew)); exact Kd.N_mono HO915.out (fun _ hk => hk.1), hB_⟩
  · replace c3 := Bool.eq_false_iff.mpr c3
    subst c3
    have H1 : (some (([] : List (S25)), false)) = some (r1, r2) := by rw [if_neg (show ¬ (false = true) by decide)] at H; exact H
    clear H
    have H := H1
    clear H1
    simp only [Option.some.injEq, Prod.mk.injEq] at H
    obtain ⟨rfl, rfl⟩ := H
    go_enter Try.func39, Try.ntmps39
    go_wp2_with (first | ((with_reducible refine gate_dst (N := 1) rfl ?_); refine bx_ 1 #[.slice A0_0 l0_0.length c0_0, .slice A0_1 l0_1.length c0_1] 25 ?_; intro gb911 hg w10 hbox hb; have BK911 := Aside0.mk hbox; have GW911 := gw_ w hg; have GE911 := GW911; replace HB := b1_ hb; clear hb hbox hg; obtain ⟨hcz11_0, hcz11_1, hfz11_0, hfz11_1⟩ := c2_ BK911) | ((with_reducible refine gate_callee (f := 80) rfl ?_); refine gL_ (some 8) Try.func80 #[.agg #[.slice A0_0 l0_0.length c0_0, .slice A0_1 l0_1.length c0_1]] rfl qa_ ?_; (with_reducible refine (spec_SurfaceOk.calls k _ _ l0_0 _ _ l0_1 false _ (cb_ HR0_0) HC0_0.out (cb_ HR0_1) HC0_1.out A2.out).mono ?_); rintro e w12 ⟨rfl, hb⟩; refine ⟨_, rfl, ?_⟩; replace BK911 := bb_ BK911 hb; replace HB := b1_ hb; clear hb))
    go_ret2
    exact ⟨_, qb_, by first | exact Kd.S_nil _ _ _ _ _ | exact Kd.N_nil _ _ _ _ _ | exact Kd.V_nil _ _ _ _ _ | exact Kd.Q_nil _ _ _ _ _ | exact Kd.R_nil _ _ _ _ _, hB_⟩
end Go.Proofs.Ytcggfjpnfodbaaa.A
end
section
namespace Go.Proofs.Ytcggfjpnfodbaaa.A
open Go.RowKit Go.Proofs.YtcggfjpnfodbaaaW.PrintWords Go.Proofs.YtcggfjpnfodbaaaW.PrintLast Go.Proofs.YtcggfjpnfodbaaaW.PrintMore
attribute [local go_sem] max2_int min2_int max_two min_two max_three min_three max_four min_four
set_option linter.unusedVariables false
set_option linter.unusedSimpArgs false
def spec_l06Shears.l0 : Nat → List (S25) → List Int → List (S25) → Int → Int → Option (List Int)
  | 0, _, _, _, _, _ => none
  | k + 1, x0, x3, x7, x8, x9 => if x9 < x8 then (if 0 ≤ x9 then (if x9 < (x7.length : Int) then ((spec_l05Shear.f k ((rd_T25 x7 x9).f0) ((rd_T25 x7 x9).f1)).bind fun bt1394 => ((spec_l03Canon.f k bt1394.1 bt1394.2).bind fun bt1400 => ((spec_l06Find.f k x0 bt1400.1 bt1400.2).bind fun t1406 => (if x3.length < 17592186044416 then (spec_l06Shears.l0 k x0 (x3 ++ [t1406]) x7 x8 (wrap64 (x9 + 1))) else (none))))) else (none)) else (none)) else (some x3)
def spec_l06Shears.f (k : Nat) (l0 : List (S25)) : Option (List Int) := spec_l06Shears.l0 k l0 (([] : List Int)) l0 (l0.length : Int) 0
theorem spec_l06Shears.mono_l : ∀ k, (∀ y0 y1 y2 y3 y4, LeO (spec_l06Shears.l0 k y0 y1 y2 y3 y4) (spec_l06Shears.l0 (k + 1) y0 y1 y2 y3 y4))
  | 0 => fun _ _ _ _ _ r h => by simp [spec_l06Shears.l0] at h
  | k + 1 => by
    have ih0 := spec_l06Shears.mono_l k
    · intro y0 y1 y2 y3 y4
      unfold spec_l06Shears.l0
      repeat' first|exact ih0 _ _ _ _ _|exact spec_l03Canon.mono _ _ _|exact spec_l05Shear.mono _ _ _|exact spec_l06Find.mono _ _ _ _|exact lo_|refine LeO.ite ?_ ?_|refine LeO.bind ?_ (fun _ => ?_)
theorem spec_l06Shears.mono : ∀ a0 k, LeO (spec_l06Shears.f k a0) (spec_l06Shears.f (k + 1) a0) := by
  intro a0 k
  have ih0 := spec_l06Shears.mono_l k
  unfold spec_l06Shears.f
  repeat' first|exact ih0 _ _ _ _ _|exact spec_l03Canon.mono _ _ _|exact spec_l05Shear.mono _ _ _|exact spec_l06Find.mono _ _ _ _|exact lo_|refine LeO.ite ?_ ?_|refine LeO.bind ?_ (fun _ => ?_)
set_option maxHeartbeats 8000000 in
set_option maxRecDepth 100000 in
theorem spec_l06Shears.calls (k : Nat) (A0 : Option Addr) (c0 : Nat) (l0 : List (S25)) (r : List Int) (w : World) (hr0 : Kd.C k25 w A0 l0.length l0) (hc0 : l0.length ≤ c0) (h : spec_l06Shears.f k l0 = some r) :
    Calls Try.prog 92 #[.slice A0 l0.length c0] w fun e w' => ∃ v0_ : Value, e = .returned (v0_) ∧ Kd.R (Kd.int .i64) 3 w' w.heap.size (fun _ => True) v0_ r ∧ Below w.heap.size w w' := by
  have hu25 := Try.underlying25
  have HR0 := Aside0.mk hr0
  have HC0 := Aside0.mk hc0
  clear hr0 hc0
  have HB := Aside0.mk (Below.refl w.heap.size w)
  have H := h
  unfold spec_l06Shears.f at H
  clear h
  obtain ⟨y1389, hy1389⟩ : ∃ y_ : List Int, y_ = (([] : List Int)) := ⟨_, rfl⟩
  replace H : (spec_l06Shears.l0 k l0 y1389 l0 (l0.length : Int) 0) = some r := by first | (rw [hy1389]; exact H) | exact H
  have Ny1389 := Aside0.mk hy1389
  clear hy1389
  have H' := Aside0.mk H
  clear H
  go_enter Try.func92, Try.ntmps92
  go_wp2_with (first | ((with_reducible refine gate_dst (N := 6) rfl ?_); refine Kd.R_lit (Kd.int .i64) _ 3 ?hg (N := 6) ?hd (xs := ([] : List Int)) (inner := []) (ok := fun _ => True) (okp := fun _ => True) ?hr ?hp (fun _ hk => hk) trivial (Below.refl _ _) (Nat.le_refl _) (by simp) ?_; (case hd => rfl); (case hg => rfl); (case hr => first | (go_simp; done) | (go_simp; rfl)); (case hp => exact (Reps.none _ _)); intro v1390 w2 ho3 hb hg_ hnew_; clear hg_ hnew_; (first | rw [← Ny1389.out] at ho3 | (simp only [Int.reduceToNat] at ho3; rw [← Ny1389.out] at ho3)); have HO1391 := rl_ w ho3; replace HB := b1_ hb; clear hb ho3))
  go_loopg [3, 9] k (fun kq v3 v9 w' => ∃ (x3_1 : List Int) (x9_1 : Int), v9 = .int .i64 x9_1 ∧ Aside0 (spec_l06Shears.l0 kq l0 x3_1 l0 (l0.length : Int) x9_1 = some r) ∧ Aside0 (kq ≤ k) ∧ Aside0 (Kd.R (Kd.int .i64) 3 w' w.heap.size (fun _ => True) v3 x3_1) ∧ Aside0 (Below w.heap.size w w'))
  case atStart => exact ⟨(y1389), (0), qc_, H', ⟨Nat.le_refl _⟩, ⟨(rr_ HO1391)⟩, ⟨hB_⟩⟩
  case round =>
    clear H'
    obtain ⟨x3_1, x9_1, rfl, HA, HK1, HO_3, HB⟩ := hrel
    cases gk with
    | zero => exact absurd HA.out (by simp [spec_l06Shears.l0])
    | succ k1 =>
      have H := HA.out
      clear HA
      simp only [spec_l06Shears.l0] at H
      by_cases c4 : x9_1 < (l0.length : Int)
      · rw [if_pos c4] at H
        have c4b0 := decide_eq_true c4
        clear c4
        have c5 := cp_ H
        replace H := ca_ H
        have c5b0 := decide_eq_true c5
        clear c5
        have c6 := cp_ H
        replace H := ca_ H
        have c6b0 := decide_eq_true c6
        clear c6
        obtain ⟨⟨t1394, t1397⟩, A7, H⟩ := bi_ H
        try dsimp only at H
        obtain ⟨⟨t1400, t1403⟩, A8, H⟩ := bi_ H
        try dsimp only at H
        obtain ⟨t1406, A9, H⟩ := bi_ H
        have c10 := cp_ H
        replace H := ca_ H
        have LMc10 := Aside0.mk c10
        clear c10
        obtain ⟨y1407, hy1407⟩ : ∃ y_ : List Int, y_ = (x3_1 ++ [t1406]) := ⟨_, rfl⟩
        replace H : (spec_l06Shears.l0 k1 l0 y1407 l0 (l0.length : Int) (wrap64 (x9_1 + 1))) = some r := by first | (rw [hy1407]; exact H) | exact H
        have Ny1407 := Aside0.mk hy1407
        clear hy1407
        have H' := Aside0.mk H
        clear H
        have p1392 : 0 ≤ (x9_1 : Int) := of_decide_eq_true qe_
        have q1392 : x9_1 < (l0.length : Int) := of_decide_eq_true qe_
        obtain ⟨ad1392, A1392_0, c1392_0, A1392_1, c1392_1, e1392, hx1392_0, hx1392_1, hl1392_0, hi1392_0, hl1392_1, hi1392_1⟩ := at_T25 HR0.out x9_1 p1392 q1392
        cases e1392
        replace hx1392_0 := (HB.out.cell (World.block_lt_of_cell? w _ hx1392_0)).trans hx1392_0
        replace hx1392_1 := (HB.out.cell (World.block_lt_of_cell? w _ hx1392_1)).trans hx1392_1
        have HR1392_0 := Aside0.mk hi1392_0
        have HC1392_0 := Aside0.mk hl1392_0
        clear hi1392_0 hl1392_0
        have HR1392_1 := Aside0.mk hi1392_1
        have HC1392_1 := Aside0.mk hl1392_1
        clear hi1392_1 hl1392_1
        replace p1392 := eq_true p1392
        replace q1392 := eq_true q1392
        go_wp2_with (first | ((with_reducible refine gate_dst (N := 5) rfl ?_); refine bx_ 5 #[.slice none 0 0, .slice none 0 0] 25 ?_; intro gb1393 hg w11 hbox hb; replace HO_3 := rb_ HO_3 hb; have BK1393 := Aside0.mk hbox; have GW1393 := gw_ w hg; have GE1393 := GW1393; replace HB := b1_ hb; clear hb hbox hg; obtain ⟨hcz12_0, hcz12_1, hfz12_0, hfz12_1⟩ := c2_ BK1393) | ((with_reducible refine gate_callee (f := 124) rfl ?_); refine gL_ (some 16) Try.func124 #[.agg #[.slice A1392_0 ((rd_T25 l0 x9_1).f0).length c1392_0, .slice A1392_1 ((rd_T25 l0 x9_1).f1).length c1392_1]] rfl qa_ ?_; (with_reducible refine (spec_l05Shear.calls k1 _ _ ((rd_T25 l0 x9_1).f0) _ _ ((rd_T25 l0 x9_1).f1) t1394 t1397 _ (Kd.C_below HR1392_0.out hB_) HC1392_0.out (Kd.C_below HR1392_1.out hB_) HC1392_1.out A7.out).mono ?_); rintro e w13 ⟨v1395, v1398, rfl, ho0, ho1, hb⟩; refine ⟨_, rfl, ?_⟩; have HO1396 := Aside0.mk (Kd.R_lower (Kd.R_new' ho0 (Kd.R_lt (rw_ (Kd.R_mono (Kd.R_far (p := ⟨gb1393, 1, none⟩) (Kd.R_far (p := ⟨gb1393, 0, none⟩) (Kd.R_types HO_3.out BK1393.out (by decide)) (fun _ hk => hk.2) (.slice A1392_0 ((rd_T25 l0 x9_1).f0).length c1392_0)) (fun _ hk => hk.2) (.slice A1392_1 ((rd_T25 l0 x9_1).f1).length c1392_1)) (fun _ h_ => h_.1))))) (below_size hB_)); have HO1399 := Aside0.mk (Kd.R_lower (Kd.R_new' ho1 (Kd.R_lt (rw_ (Kd.R_mono (Kd.R_far (p := ⟨gb1393, 1, none⟩) (Kd.R_far (p := ⟨gb1393, 0, none⟩) (Kd.R_types HO_3.out BK1393.out (by decide)) (fun _ hk => hk.2) (.slice A1392_0 ((rd_T25 l0 x9_1).f0).length c1392_0)) (fun _ hk => hk.2) (.slice A1392_1 ((rd_T25 l0 x9_1).f1).length c1392_1)) (fun _ h_ => h_.1))))) (below_size hB_)); replace HO_3 := Aside0.mk (Kd.R_mono (Kd.R_told (Kd.R_told (Kd.R_old (rw_ (Kd.R_mono (Kd.R_far (p := ⟨gb1393, 1, none⟩) (Kd.R_far (p := ⟨gb1393, 0, none⟩) (Kd.R_types HO_3.out BK1393.out (by decide)) (fun _ hk => hk.2) (.slice A1392_0 ((rd_T25 l0 x9_1).f0).length c1392_0)) (fun _ hk => hk.2) (.slice A1392_1 ((rd_T25 l0 x9_1).f1).length c1392_1)) (fun _ h_ => h_.1))) hb) (Kd.R_base ho0)) (Kd.R_base ho1)) (fun _ h_ => h_.1)); replace BK1393 := Aside0.mk (blk_below (g := gb1393) (o := .cells #[.slice A1392_0 ((rd_T25 l0 x9_1).f0).length c1392_0, .slice A1392_1 ((rd_T25 l0 x9_1).f1).length c1392_1] 25 (0, 0)) qp_ hb); replace HB := b1_ hb; clear hb ho0 ho1; obtain ⟨Ao14, co14, eo14⟩ := Kd.R_slice HO1396.out; subst eo14; obtain ⟨Ao15, co15, eo15⟩ := Kd.R_slice HO1399.out; subst eo15) | ((with_reducible refine gate_callee (f := 82) rfl ?_); refine gL_ (some 17) Try.func82 #[.agg #[.slice Ao14 t1394.length co14, .slice Ao15 t1397.length co15]] rfl qa_ ?_; (with_reducible refine (spec_l03Canon.calls k1 _ _ t1394 _ _ t1397 t1400 t1403 _ (cr_ HO1396) ((Kd.R_reads' HO1396.out).2.1) (cr_ HO1399) ((Kd.R_reads' HO1399.out).2.1) A8.out).mono ?_); rintro e w16 ⟨v1401, v1404, rfl, ho0, ho1, hb⟩; refine ⟨_, rfl, ?_⟩; have HO1402 := Aside0.mk (Kd.R_lower (Kd.R_new' (Kd.R_new' (Kd.R_new' ho0 (Kd.R_lt (rr_ HO_3))) (Kd.R_lt (rr_ HO1396))) (Kd.R_lt (rr_ HO1399))) (below_size hB_)); have HO1405 := Aside0.mk (Kd.R_lower (Kd.R_new' (Kd.R_new' (Kd.R_new' ho1 (Kd.R_lt (rr_ HO_3))) (Kd.R_lt (rr_ HO1396))) (Kd.R_lt (rr_ HO1399))) (below_size hB_)); replace HO_3 := Aside0.mk (Kd.R_mono (Kd.R_told (Kd.R_told (Kd.R_old (rr_ HO_3) hb) (Kd.R_base ho0)) (Kd.R_base ho1)) (fun _ h_ => h_.1)); replace HO1396 := Aside0.mk (Kd.R_mono (Kd.R_told (Kd.R_told (Kd.R_old (rr_ HO1396) hb) (Kd.R_base ho0)) (Kd.R_base ho1)) (fun _ h_ => h_.1)); replace HO1399 := Aside0.mk (Kd.R_mono (Kd.R_told (Kd.R_told (Kd.R_old (rr_ HO1399) hb) (Kd.R_base ho0)) (Kd.R_base ho1)) (fun _ h_ => h_.1)); replace BK1393 := bb_ BK1393 hb; replace HB := b1_ hb; clear hb ho0 ho1; obtain ⟨Ao17, co17, eo17⟩ := Kd.R_slice HO1402.out; subst eo17; obtain ⟨Ao18, co18, eo18⟩ := Kd.R_slice HO1405.out; subst eo18) | ((with_reducible refine gate_callee (f := 81) rfl ?_); refine gL_ (some 18) Try.func81 #[.slice (some ad1392) l0.length c0, .agg #[.slice Ao17 t1400.length co17, .slice Ao18 t1403.length co18]] rfl qa_ ?_; (with_reducible refine (spec_l06Find.calls k1 _ _ l0 _ _ t1400 _ _ t1403 t1406 _ (cb_ HR0) HC0.out (cr_ HO1402) ((Kd.R_reads' HO1402.out).2.1) (cr_ HO1405) ((Kd.R_reads' HO1405.out).2.1) A9.out).mono ?_); rintro e w19 ⟨rfl, hb⟩; refine ⟨_, rfl, ?_⟩; replace HO_3 := rb_ HO_3 hb; replace HO1396 := rb_ HO1396 hb; replace HO1399 := rb_ HO1399 hb; replace HO1402 := rb_ HO1402 hb; replace HO1405 := rb_ HO1405 hb; replace BK1393 := bb_ BK1393 hb; replace HB := b1_ hb; clear hb) | ((with_reducible refine gate_builtin (b := .append) (xs := #[.tmp 13, .tmp 19]) rfl ?_); at_builtin; refine Kd.R_append (Kd.int .i64) (w0 := w) w.heap.size rfl (.tmp 13) (.tmp 19) 23 3 (.int .i64 0) 8 rfl Try.underlying23 info3 rfl (by decide) (by omega) u3 x3_1 t1406 [.int .i64 t1406] (fun k_ => some k_ ≠ (.slice Ao14 t1394.length co14 : Value).ownBlock ∧ some k_ ≠ (.slice Ao15 t1397.length co15 : Value).ownBlock ∧ some k_ ≠ (.slice Ao17 t1400.length co17 : Value).ownBlock ∧ some k_ ≠ (.slice Ao18 t1403.length co18 : Value).ownBlock) (fun _ => False) rfl rfl ?aP (fun _ hk => hk.elim) ?aF ?aO ?aB ?aS ?aL ?_; (case aP => exact rfl); (case aB => exact hB_); (case aF => exact (fun k_ hk => ⟨Kd.fresh' (Kd.R_lt (rr_ HO1396)) k_ hk, Kd.fresh' (Kd.R_lt (rr_ HO1399)) k_ hk, Kd.fresh' (Kd.R_lt (rr_ HO1402)) k_ hk, Kd.fresh' (Kd.R_lt (rr_ HO1405)) k_ hk⟩)); (case aO => exact (rw_ (Kd.R_mono HO_3.out (fun _ hk => ⟨hk.1.1.1.2, ⟨hk.1.1.2, ⟨hk.1.2, hk.2⟩⟩⟩)))); (case aS => exact (below_size hB_)); (case aL => have := LMc10.out; omega); intro v1408 w20 ho hb hg hat; rw [← Ny1407.out] at ho; replace BK1393 := Aside0.mk (blk_grown (kk_ BK1393) hg (Kd.R_ne HO_3.out BK1393.out (by decide))); replace HO1396 := Aside0.mk (Kd.R_after (ok := (fun k_ => some k_ ≠ (.slice Ao15 t1397.length co15 : Value).ownBlock ∧ some k_ ≠ (.slice Ao17 t1400.length co17 : Value).ownBlock ∧ some k_ ≠ (.slice Ao18 t1403.length co18 : Value).ownBlock)) (rw_ (Kd.R_mono HO1396.out (fun _ hk => ⟨⟨hk.1.1.1, ⟨hk.1.2, hk.2⟩⟩, hk.1.1.2⟩))) hg hat); replace HO1399 := Aside0.mk (Kd.R_after (ok := (fun k_ => some k_ ≠ (.slice Ao14 t1394.length co14 : Value).ownBlock ∧ some k_ ≠ (.slice Ao17 t1400.length co17 : Value).ownBlock ∧ some k_ ≠ (.slice Ao18 t1403.length co18 : Value).ownBlock)) (rw_ (Kd.R_mono HO1399.out (fun _ hk => ⟨⟨hk.1.1.1, ⟨hk.1.2, hk.2⟩⟩, hk.1.1.2⟩))) hg hat); replace HO1402 := Aside0.mk (Kd.R_after (ok := (fun k_ => some k_ ≠ (.slice Ao14 t1394.length co14 : Value).ownBlock ∧ some k_ ≠ (.slice Ao15 t1397.length co15 : Value).ownBlock ∧ some k_ ≠ (.slice Ao18 t1403.length co18 : Value).ownBlock)) (rw_ (Kd.R_mono HO1402.out (fun _ hk => ⟨⟨hk.1.2, ⟨hk.2, hk.1.1.1⟩⟩, hk.1.1.2⟩))) hg hat); replace HO1405 := Aside0.mk (Kd.R_after (ok := (fun k_ => some k_ ≠ (.slice Ao14 t1394.length co14 : Value).ownBlock ∧ some k_ ≠ (.slice Ao15 t1397.length co15 : Value).ownBlock ∧ some k_ ≠ (.slice Ao17 t1400.length co17 : Value).ownBlock)) (rw_ (Kd.R_mono HO1405.out (fun _ hk => ⟨⟨hk.1.2, ⟨hk.2, hk.1.1.1⟩⟩, hk.1.1.2⟩))) hg hat); replace HB := Aside0.mk hb; have HO1409 := Aside0.mk ho; clear HO_3; clear ho hb hg hat))
        go_roundg k1
        case measure => have := HK1.out; omega
        case rel => exact ⟨(y1407), (wrap64 (x9_1 + 1)), qc_, H', ⟨by have := HK1.out; omega⟩, ⟨(rw_ (Kd.R_mono HO1409.out (fun _ hk => trivial)))⟩, ⟨hB_⟩⟩
      · rw [if_neg c4] at H
        have c4b0 := decide_eq_false c4
        clear c4
        obtain rfl := Option.some.inj H
        go_wp2
        go_ret
        exact ⟨_, qb_, (rr_ HO_3), hB_⟩
end Go.Proofs.Ytcggfjpnfodbaaa.A
end
section
namespace Go.Proofs.Ytcggfjpnfodbaaa.A
open Go.RowKit Go.Proofs.YtcggfjpnfodbaaaW.PrintWords Go.Proofs.YtcggfjpnfodbaaaW.PrintLast Go.Proofs.YtcggfjpnfodbaaaW.PrintMore
attribute [local go_sem] max2_int min2_int max_two min_two max_three min_three max_four min_four
set_option linter.unusedVariables false
set_option linter.unusedSimpArgs false
mutual
def spec_l04Down.l0 : Nat → List Int → List Int → Int → Int → Option (List Int)
  | 0, _, _, _, _ => none
  | k + 1, x3, x8, x9, x10 => if x10 < x9 then (if 0 ≤ x10 then (if x10 < (x8.length : Int) then (if x3.length < 17592186044416 then ((some (x3 ++ [0] : List Int)).bind fun y1414 => (spec_l04Down.l1 k y1414 (rd x8 x10) (wrap64 ((y1414.length : Int) - 1)) x8 x9 x10)) else (none)) else (none)) else (none)) else (some x3)
def spec_l04Down.l1 : Nat → List Int → Int → Int → List Int → Int → Int → Option (List Int)
  | 0, _, _, _, _, _, _ => none
  | k + 1, x3, x5, x6, x8, x9, x10 => if x6 > 0 then (if 0 ≤ (wrap64 (x6 - 1)) then (if (wrap64 (x6 - 1)) < (x3.length : Int) then (if (rd x3 (wrap64 (x6 - 1))) < x5 then (if 0 ≤ x6 then (if x6 < (x3.length : Int) then (spec_l04Down.l1 k (x3.set (x6 : Int).toNat (rd x3 (wrap64 (x6 - 1)))) x5 (wrap64 (x6 - 1)) x8 x9 x10) else (none)) else (none)) else (if 0 ≤ x6 then (if x6 < (x3.length : Int) then (spec_l04Down.l0 k (x3.set (x6 : Int).toNat x5) x8 x9 (wrap64 (x10 + 1))) else (none)) else (none))) else (none)) else (none)) else (if 0 ≤ x6 then (if x6 < (x3.length : Int) then (spec_l04Down.l0 k (x3.set (x6 : Int).toNat x5) x8 x9 (wrap64 (x10 + 1))) else (none)) else (none))
end
def spec_l04Down.f (k : Nat) (l0 : List Int) : Option (List Int) := spec_l04Down.l0 k (([] : List Int)) l0 (l0.length : Int) 0
theorem spec_l04Down.mono_l : ∀ k, (∀ y0 y1 y2 y3, LeO (spec_l04Down.l0 k y0 y1 y2 y3) (spec_l04Down.l0 (k + 1) y0 y1 y2 y3)) ∧ (∀ y0 y1 y2 y3 y4 y5, LeO (spec_l04Down.l1 k y0 y1 y2 y3 y4 y5) (spec_l04Down.l1 (k + 1) y0 y1 y2 y3 y4 y5))
  | 0 => ⟨fun _ _ _ _ r h => by simp [spec_l04Down.l0] at h, fun _ _ _ _ _ _ r h => by simp [spec_l04Down.l1] at h⟩
  | k + 1 => by
    obtain ⟨ih0, ih1⟩ := spec_l04Down.mono_l k
    refine ⟨?_, ?_⟩
    · intro y0 y1 y2 y3
      unfold spec_l04Down.l0
      repeat' first|exact ih0 _ _ _ _|exact ih1 _ _ _ _ _ _|exact lo_|refine LeO.ite ?_ ?_|refine LeO.bind ?_ (fun _ => ?_)
    · intro y0 y1 y2 y3 y4 y5
      unfold spec_l04Down.l1
      repeat' first|exact ih0 _ _ _ _|exact ih1 _ _ _ _ _ _|exact lo_|refine LeO.ite ?_ ?_|refine LeO.bind ?_ (fun _ => ?_)
theorem spec_l04Down.mono : ∀ a0 k, LeO (spec_l04Down.f k a0) (spec_l04Down.f (k + 1) a0) := by
  intro a0 k
  obtain ⟨ih0, ih1⟩ := spec_l04Down.mono_l k
  unfold spec_l04Down.f
  repeat' first|exact ih0 _ _ _ _|exact ih1 _ _ _ _ _ _|exact lo_|refine LeO.ite ?_ ?_|refine LeO.bind ?_ (fun _ => ?_)
set_option maxHeartbeats 8000000 in
set_option maxRecDepth 100000 in
theorem spec_l04Down.calls (k : Nat) (A0 : Option Addr) (c0 : Nat) (l0 : List Int) (r : List Int) (w : World) (hr0 : Kd.C (Kd.int .i64) w A0 l0.length l0) (hc0 : l0.length ≤ c0) (h : spec_l04Down.f k l0 = some r) :
    Calls Try.prog 93 #[.slice A0 l0.length c0] w fun e w' => ∃ v0_ : Value, e = .returned (v0_) ∧ Kd.R (Kd.int .i64) 3 w' w.heap.size (fun _ => True) v0_ r ∧ Below w.heap.size w w' := by
  have HR0 := Aside0.mk hr0
  have HC0 := Aside0.mk hc0
  clear hr0 hc0
  have HB := Aside0.mk (Below.refl w.heap.size w)
  have H := h
  unfold spec_l04Down.f at H
  clear h
  obtain ⟨y1410, hy1410⟩ : ∃ y_ : List Int, y_ = (([] : List Int)) := ⟨_, rfl⟩
  replace H : (spec_l04Down.l0 k y1410 l0 (l0.length : Int) 0) = some r := by first | (rw [hy1410]; exact H) | exact H
  have Ny1410 := Aside0.mk hy1410
  clear hy1410
  have H' := Aside0.mk H
  clear H
  go_enter Try.func93, Try.ntmps93
  go_wp2_with (first | ((with_reducible refine gate_dst (N := 7) rfl ?_); refine Kd.R_lit (Kd.int .i64) _ 3 ?hg (N := 7) ?hd (xs := ([] : List Int)) (inner := []) (ok := fun _ => True) (okp := fun _ => True) ?hr ?hp (fun _ hk => hk) trivial (Below.refl _ _) (Nat.le_refl _) (by simp) ?_; (case hd => rfl); (case hg => rfl); (case hr => first | (go_simp; done) | (go_simp; rfl)); (case hp => exact (Reps.none _ _)); intro v1411 w2 ho3 hb hg_ hnew_; clear hg_ hnew_; (first | rw [← Ny1410.out] at ho3 | (simp only [Int.reduceToNat] at ho3; rw [← Ny1410.out] at ho3)); have HO1412 := rl_ w ho3; replace HB := b1_ hb; clear hb ho3))
  go_loopg [3, 10] k (fun kq v3 v10 w' => ∃ (x3_1 : List Int) (x10_1 : Int), v10 = .int .i64 x10_1 ∧ Aside0 (spec_l04Down.l0 kq x3_1 l0 (l0.length : Int) x10_1 = some r) ∧ Aside0 (kq ≤ k) ∧ Aside0 (Kd.R (Kd.int .i64) 3 w' w.heap.size (fun _ => True) v3 x3_1) ∧ Aside0 (Below w.heap.size w w'))
  case atStart => exact ⟨(y1410), (0), qc_, H', ⟨Nat.le_refl _⟩, ⟨(rr_ HO1412)⟩, ⟨hB_⟩⟩
  case round =>
    clear H'
    obtain ⟨x3_1, x10_1, rfl, HA, HK1, HO_3, HB⟩ := hrel
    cases gk with
    | zero => exact absurd HA.out (by simp [spec_l04Down.l0])
    | succ k1 =>
      have H := HA.out
      clear HA
      simp only [spec_l04Down.l0] at H
      by_cases c4 : x10_1 < (l0.length : Int)
      · rw [if_pos c4] at H
        have c4b0 := decide_eq_true c4
        clear c4
        have c5 := cp_ H
        replace H := ca_ H
        have c5b0 := decide_eq_true c5
        clear c5
        have c6 := cp_ H
        replace H := ca_ H
        have c6b0 := decide_eq_true c6
        clear c6
        have c7 := cp_ H
        replace H := ca_ H
        have LMc7 := Aside0.mk c7
        clear c7
        obtain ⟨y1414, hy1414⟩ : ∃ y_ : List Int, y_ = (x3_1 ++ [0]) := ⟨_, rfl⟩
        replace H : (spec_l04Down.l1 k1 y1414 (rd l0 x10_1) (wrap64 ((y1414.length : Int) - 1)) l0 (l0.length : Int) x10_1) = some r := by first | (rw [hy1414]; exact H) | exact H
        have Ny1414 := Aside0.mk hy1414
        clear hy1414
        have H' := Aside0.mk H
        clear H
        have p1413 : 0 ≤ (x10_1 : Int) := of_decide_eq_true qe_
        have q1413 : x10_1 < (l0.length : Int) := of_decide_eq_true qe_
        obtain ⟨ad1413, e1413, hx1413_0⟩ := Kd.at_int HR0.out x10_1 p1413 q1413
        cases e1413
        replace hx1413_0 := (HB.out.cell (World.block_lt_of_cell? w _ hx1413_0)).trans hx1413_0
        replace p1413 := eq_true p1413
        replace q1413 := eq_true q1413
        go_wp2_with (first | ((with_reducible refine gate_builtin (b := .append) (xs := #[.tmp 14, .tmp 15]) rfl ?_); at_builtin; refine Kd.R_append (Kd.int .i64) (w0 := w) w.heap.size rfl (.tmp 14) (.tmp 15) 23 3 (.int .i64 0) 8 rfl Try.underlying23 info3 rfl (by decide) (by omega) u3 x3_1 0 [.int .i64 0] (fun _ => True) (fun _ => False) rfl rfl ?aP (fun _ hk => hk.elim) ?aF ?aO ?aB ?aS ?aL ?_; (case aP => exact rfl); (case aB => exact hB_); (case aF => exact (fun _ _ => trivial)); (case aO => exact (rr_ HO_3)); (case aS => exact (below_size hB_)); (case aL => have := LMc7.out; omega); intro v1415 w8 ho hb hg hat; rw [← Ny1414.out] at ho; replace HB := Aside0.mk hb; have HO1416 := Aside0.mk ho; clear HO_3; clear ho hb hg hat; obtain ⟨Ao9, co9, eo9⟩ := Kd.R_slice HO1416.out; subst eo9))
        go_loopg [6] k1 (fun kq v6 w' => ∃ (x3_2 : List Int) (x6_2 : Int), v6 = .int .i64 x6_2 ∧ Aside0 (spec_l04Down.l1 kq x3_2 (rd l0 x10_1) x6_2 l0 (l0.length : Int) x10_1 = some r) ∧ Aside0 (kq ≤ k1) ∧ Aside0 (Kd.R (Kd.int .i64) 3 w' w.heap.size (fun _ => True) (.slice Ao9 y1414.length co9) x3_2) ∧ Aside0 (Below w.heap.size w w'))
        case atStart => exact ⟨(y1414), (wrap64 ((y1414.length : Int) - 1)), qc_, H', ⟨Nat.le_refl _⟩, ⟨(rr_ HO1416)⟩, ⟨hB_⟩⟩
        case round =>
          clear H'
          obtain ⟨x3_2, x6_2, rfl, HA, HK2, HO_3, HB⟩ := hrel
          have hl3_2 := (Kd.R_reads' HO_3.out).1
          rw [hl3_2] at HO_3
          (try simp only [hl3_2])
          cases gk with
          | zero => exact absurd HA.out (by simp [spec_l04Down.l1])
          | succ k2 =>
            have H := HA.out
            clear HA
            simp only [spec_l04Down.l1] at H
            by_cases c10 : x6_2 > 0
            · rw [if_pos c10] at H
              have c10b0 : decide (0 < x6_2) = true := decide_eq_true c10
              clear c10
              obtain ⟨ji11, hji11⟩ : ∃ j_ : Int, (wrap64 (x6_2 - 1)) = j_ := ⟨_, rfl⟩
              replace H : (if 0 ≤ (ji11) then (if (ji11) < (x3_2.length : Int) then (if (rd x3_2 (ji11)) < (rd l0 x10_1) then (if 0 ≤ x6_2 then (if x6_2 < (x3_2.length : Int) then (spec_l04Down.l1 k2 (x3_2.set (x6_2 : Int).toNat (rd x3_2 (ji11))) (rd l0 x10_1) ji11 l0 (l0.length : Int) x10_1) else (none)) else (none)) else (if 0 ≤ x6_2 then (if x6_2 < (x3_2.length : Int) then (spec_l04Down.l0 k2 (x3_2.set (x6_2 : Int).toNat (rd l0 x10_1)) l0 (l0.length : Int) (wrap64 (x10_1 + 1))) else (none)) else (none))) else (none)) else (none)) = some r := by first | (rw [hji11] at H; exact H) | (simp only [hji11] at H ⊢; exact H)
              have hji11w : (IntKind.i64.wrap (x6_2 - 1)) = ji11 := (i64_w _).trans hji11
              have c12 := cp_ H
              replace H := ca_ H
              have c12b0 := decide_eq_true c12
              clear c12
              have c13 := cp_ H
              replace H := ca_ H
              have c13b0 := decide_eq_true c13
              clear c13
              by_cases c14 : (rd x3_2 (ji11)) < (rd l0 x10_1)
              · rw [if_pos c14] at H
                have c14b0 := decide_eq_true c14
                clear c14
                have c15 := cp_ H
                replace H := ca_ H
                have c15b0 := decide_eq_true c15
                clear c15
                have c16 := cp_ H
                replace H := ca_ H
                have c16b0 := decide_eq_true c16
                clear c16
                obtain ⟨y1419, hy1419⟩ : ∃ y_ : List Int, y_ = (x3_2.set (x6_2 : Int).toNat (rd x3_2 (ji11))) := ⟨_, rfl⟩
                replace H : (spec_l04Down.l1 k2 y1419 (rd l0 x10_1) ji11 l0 (l0.length : Int) x10_1) = some r := by first | (rw [hy1419]; exact H) | exact H
                have Ny1419 := Aside0.mk hy1419
                clear hy1419
                have H' := Aside0.mk H
                clear H
                have p1417 : 0 ≤ ((ji11) : Int) := of_decide_eq_true qe_
                have q1417 : (ji11) < (x3_2.length : Int) := of_decide_eq_true qe_
                obtain ⟨ad1417, e1417, hx1417_0⟩ := Kd.at_int (Kd.R_reads' HO_3.out).2.2 (ji11) p1417 q1417
                cases e1417
                replace p1417 := eq_true p1417
                replace q1417 := eq_true q1417
                have p1418 : 0 ≤ ((ji11) : Int) := of_decide_eq_true qe_
                have q1418 : (ji11) < (x3_2.length : Int) := of_decide_eq_true qe_
                obtain ⟨ad1418, e1418, hx1418_0⟩ := Kd.at_int (Kd.R_reads' HO_3.out).2.2 (ji11) p1418 q1418
                obtain rfl : ad1417 = ad1418 := (by injection e1418)
                replace p1418 := eq_true p1418
                replace q1418 := eq_true q1418
                have p17 : 0 ≤ (x6_2 : Int) := of_decide_eq_true qe_
                have q17 : (x6_2 : Int) < ((x3_2.length : Int) : Int) := of_decide_eq_true qe_
                obtain ⟨go17, co17, eo17, gb17, gl17, cl17, HG17⟩ := Kd.R_form HO_3.out (by omega)
                (first | cases eo17 | (injection eo17 with ea_ en_ ec_; (first | subst ea_ | (injection ea_ with ea_; subst ea_)); subst ec_; clear en_))
                have GB17 := Aside0.mk gb17
                have GG17 := Aside0.mk HG17
                clear gb17 gl17 HG17
                (first | simp only [add_plain] at hx1417_0 | skip)
                (first | simp only [add_plain] at hx1418_0 | skip)
                obtain ⟨hx17_0, hf17_0⟩ := Kd.R_celln 0 HO_3.out (x6_2 : Int) p17 q17
                replace p17 := eq_true p17
                replace q17 := eq_true q17
                have HP18 := Kd.R_putg HO_3.out (x6_2 : Int) (rd x3_2 (ji11))
                go_wp2_with (first | ((with_reducible refine gate_store (t := 3) (p := 38) rfl ?_); refine store_event (t := 3) (p := 38) (v := ?vo_w19) (w1 := (wr.setCell ⟨go17, (x6_2 : Int).toNat, none⟩ (.int .i64 (rd x3_2 (ji11))))) ?hg ?ho ?hn ?hr ?_; (case ho => rfl); (case hg => rfl); (case hn => rfl); (case hr => first | (go_simp; done) | (go_simp; rfl)); intro w19 hw; have hg : wr.grownBy w19 (some go17) := (by rw [hw]; exact HP18.2); have hp_ : Kd.R (Kd.int .i64) 3 w19 w.heap.size (fun _ => True) (.slice (some ⟨go17, 0, none⟩) x3_2.length co9) y1419 := (by rw [hw, Ny1419.out]; exact HP18.1); clear HP18; replace HO_3 := Aside0.mk (hp_); replace HB := Aside0.mk ((by rw [hw]; exact below_set (HB.out) GB17.out : Below w.heap.size w w19)); clear hg hw hp_))
                (try simp only [← hl3_2])
                go_roundg k2
                case measure => have := HK1.out; have := HK2.out; omega
                case rel => exact ⟨(y1419), (ji11), (by first | rfl | (simp; done) | (simp only [← hji11] <;> (first | rfl | simp)) | (simp [*]; done)), H', ⟨by have := HK1.out; have := HK2.out; omega⟩, ⟨by (try simp only [hl3_2]); (with_reducible repeat (first | apply Kd.R_alloc | apply Kd.R_drewN | apply Kd.R_drew)); exact HO_3.out⟩, ⟨hB_⟩⟩
              · rw [if_neg c14] at H
                have c14b0 := decide_eq_false c14
                clear c14
                have c20 := cp_ H
                replace H := ca_ H
                have c20b0 := decide_eq_true c20
                clear c20
                have c21 := cp_ H
                replace H := ca_ H
                have c21b0 := decide_eq_true c21
                clear c21
                obtain ⟨y1420, hy1420⟩ : ∃ y_ : List Int, y_ = (x3_2.set (x6_2 : Int).toNat (rd l0 x10_1)) := ⟨_, rfl⟩
                replace H : (spec_l04Down.l0 k2 y1420 l0 (l0.length : Int) (wrap64 (x10_1 + 1))) = some r := by first | (rw [hy1420]; exact H) | exact H
                have Ny1420 := Aside0.mk hy1420
                clear hy1420
                have H' := Aside0.mk H
                clear H
                have p1417 : 0 ≤ ((ji11) : Int) := of_decide_eq_true qe_
                have q1417 : (ji11) < (x3_2.length : Int) := of_decide_eq_true qe_
                obtain ⟨ad1417, e1417, hx1417_0⟩ := Kd.at_int (Kd.R_reads' HO_3.out).2.2 (ji11) p1417 q1417
                cases e1417
                replace p1417 := eq_true p1417
                replace q1417 := eq_true q1417
                have p22 : 0 ≤ (x6_2 : Int) := of_decide_eq_true qe_
                have q22 : (x6_2 : Int) < ((x3_2.length : Int) : Int) := of_decide_eq_true qe_
                obtain ⟨go22, co22, eo22, gb22, gl22, cl22, HG22⟩ := Kd.R_form HO_3.out (by omega)
                (first | cases eo22 | (injection eo22 with ea_ en_ ec_; (first | subst ea_ | (injection ea_ with ea_; subst ea_)); subst ec_; clear en_))
                have GB22 := Aside0.mk gb22
                have GG22 := Aside0.mk HG22
                clear gb22 gl22 HG22
                (first | simp only [add_plain] at hx1417_0 | skip)
                obtain ⟨hx22_0, hf22_0⟩ := Kd.R_celln 0 HO_3.out (x6_2 : Int) p22 q22
                replace p22 := eq_true p22
                replace q22 := eq_true q22
                have HP23 := Kd.R_putg HO_3.out (x6_2 : Int) (rd l0 x10_1)
                go_wp2_with (first | ((with_reducible refine gate_store (t := 3) (p := 44) rfl ?_); refine store_event (t := 3) (p := 44) (v := ?vo_w24) (w1 := (wr.setCell ⟨go22, (x6_2 : Int).toNat, none⟩ (.int .i64 (rd l0 x10_1)))) ?hg ?ho ?hn ?hr ?_; (case ho => rfl); (case hg => rfl); (case hn => rfl); (case hr => first | (go_simp; done) | (go_simp; rfl)); intro w24 hw; have hg : wr.grownBy w24 (some go22) := (by rw [hw]; exact HP23.2); have hp_ : Kd.R (Kd.int .i64) 3 w24 w.heap.size (fun _ => True) (.slice (some ⟨go22, 0, none⟩) x3_2.length co9) y1420 := (by rw [hw, Ny1420.out]; exact HP23.1); clear HP23; replace HO_3 := Aside0.mk (hp_); replace HB := Aside0.mk ((by rw [hw]; exact below_set (HB.out) GB22.out : Below w.heap.size w w24)); clear hg hw hp_))
                (try simp only [← hl3_2])
                go_roundg k2
                case measure => have := HK1.out; have := HK2.out; omega
                case rel => exact ⟨(y1420), (wrap64 (x10_1 + 1)), qc_, H', ⟨by have := HK1.out; have := HK2.out; omega⟩, ⟨by (try simp only [hl3_2]); (with_reducible repeat (first | apply Kd.R_alloc | apply Kd.R_drewN | apply Kd.R_drew)); exact HO_3.out⟩, ⟨hB_⟩⟩
            · rw [if_neg c10] at H
              have c10b0 : decide (0 < x6_2) = false := decide_eq_false c10
              clear c10
              have c25 := cp_ H
              replace H := ca_ H
              have c25b0 := decide_eq_true c25
              clear c25
              have c26 := cp_ H
              replace H := ca_ H
              have c26b0 := decide_eq_true c26
              clear c26
              obtain ⟨y1421, hy1421⟩ : ∃ y_ : List Int, y_ = (x3_2.set (x6_2 : Int).toNat (rd l0 x10_1)) := ⟨_, rfl⟩
              replace H : (spec_l04Down.l0 k2 y1421 l0 (l0.length : Int) (wrap64 (x10_1 + 1))) = some r := by first | (rw [hy1421]; exact H) | exact H
              have Ny1421 := Aside0.mk hy1421
              clear hy1421
              have H' := Aside0.mk H
              clear H
              have p27 : 0 ≤ (x6_2 : Int) := of_decide_eq_true qe_
              have q27 : (x6_2 : Int) < ((x3_2.length : Int) : Int) := of_decide_eq_true qe_
              obtain ⟨go27, co27, eo27, gb27, gl27, cl27, HG27⟩ := Kd.R_form HO_3.out (by omega)
              (first | cases eo27 | (injection eo27 with ea_ en_ ec_; (first | subst ea_ | (injection ea_ with ea_; subst ea_)); subst ec_; clear en_))
              have GB27 := Aside0.mk gb27
              have GG27 := Aside0.mk HG27
              clear gb27 gl27 HG27
              obtain ⟨hx27_0, hf27_0⟩ := Kd.R_celln 0 HO_3.out (x6_2 : Int) p27 q27
              replace p27 := eq_true p27
              replace q27 := eq_true q27
              have HP28 := Kd.R_putg HO_3.out (x6_2 : Int) (rd l0 x10_1)
              go_wp2_with (first | ((with_reducible refine gate_store (t := 3) (p := 44) rfl ?_); refine store_event (t := 3) (p := 44) (v := ?vo_w29) (w1 := (wr.setCell ⟨go27, (x6_2 : Int).toNat, none⟩ (.int .i64 (rd l0 x10_1)))) ?hg ?ho ?hn ?hr ?_; (case ho => rfl); (case hg => rfl); (case hn => rfl); (case hr => first | (go_simp; done) | (go_simp; rfl)); intro w29 hw; have hg : wr.grownBy w29 (some go27) := (by rw [hw]; exact HP28.2); have hp_ : Kd.R (Kd.int .i64) 3 w29 w.heap.size (fun _ => True) (.slice (some ⟨go27, 0, none⟩) x3_2.length co9) y1421 := (by rw [hw, Ny1421.out]; exact HP28.1); clear HP28; replace HO_3 := Aside0.mk (hp_); replace HB := Aside0.mk ((by rw [hw]; exact below_set (HB.out) GB27.out : Below w.heap.size w w29)); clear hg hw hp_))
              (try simp only [← hl3_2])
              go_roundg k2
              case measure => have := HK1.out; have := HK2.out; omega
              case rel => exact ⟨(y1421), (wrap64 (x10_1 + 1)), qc_, H', ⟨by have := HK1.out; have := HK2.out; omega⟩, ⟨by (try simp only [hl3_2]); (with_reducible repeat (first | apply Kd.R_alloc | apply Kd.R_drewN | apply Kd.R_drew)); exact HO_3.out⟩, ⟨hB_⟩⟩
      · rw [if_neg c4] at H
        have c4b0 := decide_eq_false c4
        clear c4
        obtain rfl := Option.some.inj H
        go_wp2
        go_ret
        exact ⟨_, qb_, (rr_ HO_3), hB_⟩
end Go.Proofs.Ytcggfjpnfodbaaa.A
end
section
namespace Go.Proofs.Ytcggfjpnfodbaaa.A
open Go.RowKit Go.Proofs.YtcggfjpnfodbaaaW.PrintWords Go.Proofs.YtcggfjpnfodbaaaW.PrintLast Go.Proofs.YtcggfjpnfodbaaaW.PrintMore
attribute [local go_sem] max2_int min2_int max_two min_two max_three min_three max_four min_four
set_option linter.unusedVariables false
set_option linter.unusedSimpArgs false
mutual
def spec_CuspsOf.l0 : Nat → List Int → List Int → List Bool → Int → Int → Option (List Int × Bool)
  | 0, _, _, _, _, _ => none
  | k + 1, x6, x7, x8, x26, x27 => if x27 < x26 then (spec_CuspsOf.l1 k x6 x7 x8 0 x27 x26 x27) else ((spec_l04Down.f k x7).bind fun t1436 => (some (t1436, true)))
def spec_CuspsOf.l1 : Nat → List Int → List Int → List Bool → Int → Int → Int → Int → Option (List Int × Bool)
  | 0, _, _, _, _, _, _, _ => none
  | k + 1, x6, x7, x8, x10, x11, x26, x27 => if 0 ≤ x11 then (if x11 < (x8.length : Int) then (if rdOf false x8 x11 = true then (if x10 > 0 then (if x7.length < 17592186044416 then (spec_CuspsOf.l0 k x6 (x7 ++ [x10]) x8 x26 (wrap64 (x27 + 1))) else (none)) else (spec_CuspsOf.l0 k x6 x7 x8 x26 (wrap64 (x27 + 1)))) else (if x11 < (x6.length : Int) then (spec_CuspsOf.l1 k x6 x7 (x8.set (x11 : Int).toNat true) (wrap64 (x10 + 1)) (rd x6 x11) x26 x27) else (none))) else (none)) else (none)
end
def spec_CuspsOf.f (k : Nat) (l0_0 : List Int) (l0_1 : List Int) : Option (List Int × Bool) := (spec_OrbitOf.f k l0_0 l0_1).bind fun bt1423 => (if bt1423.2 = true then ((spec_l06Shears.f k bt1423.1).bind fun t1427 => (if 0 ≤ (t1427.length : Int) then (if ((t1427.length : Int) : Int).toNat ≤ 281474976710656 then (spec_CuspsOf.l0 k t1427 (([] : List Int)) (List.replicate ((t1427.length : Int) : Int).toNat false) (t1427.length : Int) 0) else (none)) else (none))) else (some (([] : List Int), false)))
theorem spec_CuspsOf.mono_l : ∀ k, (∀ y0 y1 y2 y3 y4, LeO (spec_CuspsOf.l0 k y0 y1 y2 y3 y4) (spec_CuspsOf.l0 (k + 1) y0 y1 y2 y3 y4)) ∧ (∀ y0 y1 y2 y3 y4 y5 y6, LeO (spec_CuspsOf.l1 k y0 y1 y2 y3 y4 y5 y6) (spec_CuspsOf.l1 (k + 1) y0 y1 y2 y3 y4 y5 y6))
  | 0 => ⟨fun _ _ _ _ _ r h => by simp [spec_CuspsOf.l0] at h, fun _ _ _ _ _ _ _ r h => by simp [spec_CuspsOf.l1] at h⟩
  | k + 1 => by
    obtain ⟨ih0, ih1⟩ := spec_CuspsOf.mono_l k
    refine ⟨?_, ?_⟩
    · intro y0 y1 y2 y3 y4
      unfold spec_CuspsOf.l0
      repeat' first|exact ih0 _ _ _ _ _|exact ih1 _ _ _ _ _ _ _|exact spec_OrbitOf.mono _ _ _|exact spec_l04Down.mono _ _|exact spec_l06Shears.mono _ _|exact lo_|refine LeO.ite ?_ ?_|refine LeO.bind ?_ (fun _ => ?_)
    · intro y0 y1 y2 y3 y4 y5 y6
      unfold spec_CuspsOf.l1
      repeat' first|exact ih0 _ _ _ _ _|exact ih1 _ _ _ _ _ _ _|exact spec_OrbitOf.mono _ _ _|exact spec_l04Down.mono _ _|exact spec_l06Shears.mono _ _|exact lo_|refine LeO.ite ?_ ?_|refine LeO.bind ?_ (fun _ => ?_)
theorem spec_CuspsOf.mono : ∀ a0 a1 k, LeO (spec_CuspsOf.f k a0 a1) (spec_CuspsOf.f (k + 1) a0 a1) := by
  intro a0 a1 k
  obtain ⟨ih0, ih1⟩ := spec_CuspsOf.mono_l k
  unfold spec_CuspsOf.f
  repeat' first|exact ih0 _ _ _ _ _|exact ih1 _ _ _ _ _ _ _|exact spec_OrbitOf.mono _ _ _|exact spec_l04Down.mono _ _|exact spec_l06Shears.mono _ _|exact lo_|refine LeO.ite ?_ ?_|refine LeO.bind ?_ (fun _ => ?_)
set_option maxHeartbeats 8000000 in
set_option maxRecDepth 100000 in
theorem spec_CuspsOf.calls (k : Nat) (A0_0 : Option Addr) (c0_0 : Nat) (l0_0 : List Int) (A0_1 : Option Addr) (c0_1 : Nat) (l0_1 : List Int) (r1 : List Int) (r2 : Bool) (w : World) (hr0_0 : Kd.C (Kd.int .i64) w A0_0 l0_0.length l0_0) (hc0_0 : l0_0.length ≤ c0_0) (hr0_1 : Kd.C (Kd.int .i64) w A0_1 l0_1.length l0_1) (hc0_1 : l0_1.length ≤ c0_1) (h : spec_CuspsOf.f k l0_0 l0_1 = some (r1, r2)) :
    Calls Try.prog 53 #[.agg #[.slice A0_0 l0_0.length c0_0, .slice A0_1 l0_1.length c0_1]] w fun e w' => ∃ v0_ : Value, e = .returned (.tuple #[v0_, .bool r2]) ∧ Kd.R (Kd.int .i64) 3 w' w.heap.size (fun _ => True) v0_ r1 ∧ Below w.heap.size w w' := by
  have hu25 := Try.underlying25
  have HR0_0 := Aside0.mk hr0_0
  have HC0_0 := Aside0.mk hc0_0
  clear hr0_0 hc0_0
  have HR0_1 := Aside0.mk hr0_1
  have HC0_1 := Aside0.mk hc0_1
  clear hr0_1 hc0_1
  have HB := Aside0.mk (Below.refl w.heap.size w)
  have H := h
  unfold spec_CuspsOf.f at H
  clear h
  obtain ⟨⟨t1423, t1426⟩, A2, H⟩ := bi_ H
  try dsimp only at H
  by_cases c3 : t1426 = true
  · subst c3
    rw [if_pos rfl] at H
    obtain ⟨t1427, A4, H⟩ := bi_ H
    obtain ⟨y1430, hy1430⟩ : ∃ y_ : List Int, y_ = (([] : List Int)) := ⟨_, rfl⟩
    replace H : (if 0 ≤ (t1427.length : Int) then (if ((t1427.length : Int) : Int).toNat ≤ 281474976710656 then (spec_CuspsOf.l0 k t1427 y1430 (List.replicate ((t1427.length : Int) : Int).toNat false) (t1427.length : Int) 0) else (none)) else (none)) = some (r1, r2) := by first | (rw [hy1430]; exact H) | exact H
    have Ny1430 := Aside0.mk hy1430
    clear hy1430
    have c5 := cp_ H
    replace H := ca_ H
    have c5b0 := eq_true c5
    have c5b1 := decide_eq_true c5
    clear c5
    have c6 := cp_ H
    replace H := ca_ H
    have c6b0 := eq_true c6
    have c6b1 := decide_eq_true c6
    clear c6
    obtain ⟨y1433, hy1433⟩ : ∃ y_ : List Bool, y_ = (List.replicate ((t1427.length : Int) : Int).toNat false) := ⟨_, rfl⟩
    replace H : (spec_CuspsOf.l0 k t1427 y1430 y1433 (t1427.length : Int) 0) = some (r1, r2) := by first | (rw [hy1433]; exact H) | exact H
    have Ny1433 := Aside0.mk hy1433
    clear hy1433
    have H' := Aside0.mk H
    clear H
    go_enter Try.func53, Try.ntmps53
    go_wp2_with (first | ((with_reducible refine gate_dst (N := 1) rfl ?_); refine bx_ 1 #[.slice A0_0 l0_0.length c0_0, .slice A0_1 l0_1.length c0_1] 25 ?_; intro gb1422 hg w7 hbox hb; have BK1422 := Aside0.mk hbox; have GW1422 := gw_ w hg; have GE1422 := GW1422; replace HB := b1_ hb; clear hb hbox hg; obtain ⟨hcz8_0, hcz8_1, hfz8_0, hfz8_1⟩ := c2_ BK1422) | ((with_reducible refine gate_callee (f := 39) rfl ?_); refine gL_ (some 14) Try.func39 #[.agg #[.slice A0_0 l0_0.length c0_0, .slice A0_1 l0_1.length c0_1]] rfl qa_ ?_; (with_reducible refine (spec_OrbitOf.calls k _ _ l0_0 _ _ l0_1 t1423 true _ (cb_ HR0_0) HC0_0.out (cb_ HR0_1) HC0_1.out A2.out).mono ?_); rintro e w9 ⟨v1424, rfl, ho0, hb⟩; refine ⟨_, rfl, ?_⟩; have HO1425 := Aside0.mk (Kd.N_lower (Kd.N_mono (ok' := fun k_ => k_ ≠ gb1422) ho0 (fun k_ hk_ => (Kd.freshB (kk_ BK1422) k_ hk_))) (below_size hB_)); replace BK1422 := bb_ BK1422 hb; replace HB := b1_ hb; clear hb ho0; obtain ⟨Ao10, co10, eo10⟩ := Kd.N_slice HO1425.out; subst eo10) | ((with_reducible refine gate_callee (f := 92) rfl ?_); refine gL_ (some 20) Try.func92 #[.slice Ao10 t1423.length co10] rfl qa_ ?_; (with_reducible refine (spec_l06Shears.calls k _ _ t1423 t1427 _ (cw_ ((Kd.N_reads' HO1425.out).2.2)) ((Kd.N_reads' HO1425.out).2.1) A4.out).mono ?_); rintro e w11 ⟨v1428, rfl, ho0, hb⟩; refine ⟨_, rfl, ?_⟩; replace HO1425 := Aside0.mk (Kd.N_elder' (by (with_reducible repeat (first | apply Kd.N_alloc | apply Kd.N_drewN | apply Kd.N_drew)); exact HO1425.out) (Kd.R_base ho0) hb); have HO1429 := rl_ w ho0; replace BK1422 := bb_ BK1422 hb; replace HB := b1_ hb; clear hb ho0) | ((with_reducible refine gate_dst (N := 21) rfl ?_); refine Kd.R_lit (Kd.int .i64) _ 3 ?hg (N := 21) ?hd (xs := ([] : List Int)) (inner := []) (ok := fun _ => True) (okp := fun _ => True) ?hr ?hp (fun _ hk => hk) trivial (Below.refl _ _) (Nat.le_refl _) (by simp) ?_; (case hd => rfl); (case hg => rfl); (case hr => first | (go_simp; done) | (go_simp; rfl)); (case hp => exact (Reps.none _ _)); intro v1431 w12 ho13 hb hg_ hnew_; clear hg_ hnew_; (first | rw [← Ny1430.out] at ho13 | (simp only [Int.reduceToNat] at ho13; rw [← Ny1430.out] at ho13)); replace HO1425 := Aside0.mk (Kd.N_elder' (by (with_reducible repeat (first | apply Kd.N_alloc | apply Kd.N_drewN | apply Kd.N_drew)); exact HO1425.out) (Kd.R_base ho13) hb); have HO1432 := Aside0.mk (Kd.R_lower (Kd.R_new' ho13 (Kd.R_lt (rr_ HO1429))) (below_size hB_)); replace HO1429 := Aside0.mk (Kd.R_elder' (rr_ HO1429) (Kd.R_base ho13) hb); replace BK1422 := bb_ BK1422 hb; replace HB := b1_ hb; clear hb ho13; obtain ⟨Ao14, co14, eo14⟩ := Kd.R_slice HO1429.out; subst eo14) | ((with_reducible refine gate_dst (N := 24) rfl ?_); refine Kd.R_make Kd.bool _ 4 rfl (N := 24) rfl 66 _ _ rfl (t1427.length : Int) rfl rfl Try.underlying66 (.bool false) 1 info4 rfl (by decide) (by omega) false (ok := fun _ => True) (okp := fun _ => True) rfl (fun _ hk => hk) trivial (of_decide_eq_true qe_) (Nat.le_trans (Nat.mul_le_mul_right _ (of_decide_eq_true qe_ : (t1427.length : Int).toNat ≤ 281474976710656)) (by omega)) (Below.refl _ _) (Nat.le_refl _) ?_; intro v1434 w15 ho16 hb hg_ hnew_; clear hg_ hnew_; (first | rw [← Ny1433.out] at ho16 | (simp only [Int.reduceToNat] at ho16; rw [← Ny1433.out] at ho16)); replace HO1425 := Aside0.mk (Kd.N_elder' (by (with_reducible repeat (first | apply Kd.N_alloc | apply Kd.N_drewN | apply Kd.N_drew)); exact HO1425.out) (Kd.R_base ho16) hb); replace HO1429 := rb_ HO1429 hb; replace HO1432 := rb_ HO1432 hb; have HO1435 := rl_ w ho16; replace BK1422 := bb_ BK1422 hb; replace HB := b1_ hb; clear hb ho16))
    go_loopg [7, 27] k (fun kq v7 v27 w' => ∃ (x7_1 : List Int) (x8_1 : List Bool) (x27_1 : Int), v27 = .int .i64 x27_1 ∧ Aside0 (spec_CuspsOf.l0 kq t1427 x7_1 x8_1 (t1427.length : Int) x27_1 = some (r1, r2)) ∧ Aside0 (kq ≤ k) ∧ Aside0 (Kd.R (Kd.int .i64) 3 w' w.heap.size (fun k_ => some k_ ≠ (v7 : Value).ownBlock) (.slice Ao14 t1427.length co14) t1427) ∧ Aside0 (Kd.R (Kd.int .i64) 3 w' w.heap.size (fun k_ => some k_ ≠ ((.slice Ao14 t1427.length co14) : Value).ownBlock) v7 x7_1) ∧ Aside0 (Kd.R Kd.bool 4 w' w.heap.size (fun _ => True) v1434 x8_1) ∧ Aside0 (w'.heap[gb1422]? = some (.cells #[(.slice A0_0 l0_0.length c0_0), (.slice A0_1 l0_1.length c0_1)] 25 (0, 0))) ∧ Aside0 (Below w.heap.size w w'))
    case atStart => exact ⟨(y1430), (y1433), (0), qc_, H', ⟨Nat.le_refl _⟩, ⟨(rw_ (Kd.R_mono HO1429.out (fun _ hk => hk.2)))⟩, ⟨(rw_ (Kd.R_mono HO1432.out (fun _ hk => hk.2)))⟩, ⟨(rr_ HO1435)⟩, ⟨(kk_ BK1422)⟩, ⟨hB_⟩⟩
    case round =>
      clear H'
      obtain ⟨x7_1, x8_1, x27_1, rfl, HA, HK1, HO_6, HO_7, HO_8, BK1422, HB⟩ := hrel
      cases gk with
      | zero => exact absurd HA.out (by simp [spec_CuspsOf.l0])
      | succ k1 =>
        have H := HA.out
        clear HA
        simp only [spec_CuspsOf.l0] at H
        by_cases c17 : x27_1 < (t1427.length : Int)
        · rw [if_pos c17] at H
          have c17b0 := decide_eq_true c17
          clear c17
          have H' := Aside0.mk H
          clear H
          go_wp2
          go_loopg [10, 11] k1 (fun kq v10 v11 w' => ∃ (x8_2 : List Bool) (x10_2 : Int) (x11_2 : Int), v10 = .int .i64 x10_2 ∧ v11 = .int .i64 x11_2 ∧ Aside0 (spec_CuspsOf.l1 kq t1427 x7_1 x8_2 x10_2 x11_2 (t1427.length : Int) x27_1 = some (r1, r2)) ∧ Aside0 (kq ≤ k1) ∧ Aside0 (Kd.R (Kd.int .i64) 3 w' w.heap.size (fun k_ => some k_ ≠ (u7 : Value).ownBlock) (.slice Ao14 t1427.length co14) t1427) ∧ Aside0 (Kd.R (Kd.int .i64) 3 w' w.heap.size (fun k_ => some k_ ≠ ((.slice Ao14 t1427.length co14) : Value).ownBlock) u7 x7_1) ∧ Aside0 (Kd.R Kd.bool 4 w' w.heap.size (fun _ => True) v1434 x8_2) ∧ Aside0 (w'.heap[gb1422]? = some (.cells #[(.slice A0_0 l0_0.length c0_0), (.slice A0_1 l0_1.length c0_1)] 25 (0, 0))) ∧ Aside0 (Below w.heap.size w w'))
          case atStart => exact ⟨(x8_1), (0), (x27_1), qc_, qc_, H', ⟨Nat.le_refl _⟩, ⟨(rr_ HO_6)⟩, ⟨(rr_ HO_7)⟩, ⟨(rr_ HO_8)⟩, ⟨(kk_ BK1422)⟩, ⟨hB_⟩⟩
          case round =>
            clear H'
            obtain ⟨x8_2, x10_2, x11_2, rfl, rfl, HA, HK2, HO_6, HO_7, HO_8, BK1422, HB⟩ := hrel
            cases gk with
            | zero => exact absurd HA.out (by simp [spec_CuspsOf.l1])
            | succ k2 =>
              have H := HA.out
              clear HA
              simp only [spec_CuspsOf.l1] at H
              have c18 := cp_ H
              replace H := ca_ H
              have c18b0 := decide_eq_true c18
              clear c18
              have c19 := cp_ H
              replace H := ca_ H
              have c19b0 := decide_eq_true c19
              clear c19
              obtain ⟨bq20, hbq20⟩ : ∃ b_ : Bool, b_ = (rdOf false x8_2 x11_2) := ⟨_, rfl⟩
              replace H : (if bq20 = true then (if x10_2 > 0 then (if x7_1.length < 17592186044416 then (spec_CuspsOf.l0 k2 t1427 (x7_1 ++ [x10_2]) x8_2 (t1427.length : Int) (wrap64 (x27_1 + 1))) else (none)) else (spec_CuspsOf.l0 k2 t1427 x7_1 x8_2 (t1427.length : Int) (wrap64 (x27_1 + 1)))) else (if x11_2 < (t1427.length : Int) then (spec_CuspsOf.l1 k2 t1427 x7_1 (x8_2.set (x11_2 : Int).toNat true) (wrap64 (x10_2 + 1)) (rd t1427 x11_2) (t1427.length : Int) x27_1) else (none))) = some (r1, r2) := by rw [← hbq20] at H; exact H
              have Nbq20 := Aside0.mk hbq20
              clear hbq20
              by_cases c21 : bq20 = true
              · subst c21
                rw [if_pos rfl] at H
                by_cases c22 : x10_2 > 0
                · rw [if_pos c22] at H
                  have c22b0 : decide (0 < x10_2) = true := decide_eq_true c22
                  clear c22
                  have c23 := cp_ H
                  replace H := ca_ H
                  have LMc23 := Aside0.mk c23
                  clear c23
                  obtain ⟨y1440, hy1440⟩ : ∃ y_ : List Int, y_ = (x7_1 ++ [x10_2]) := ⟨_, rfl⟩
                  replace H : (spec_CuspsOf.l0 k2 t1427 y1440 x8_2 (t1427.length : Int) (wrap64 (x27_1 + 1))) = some (r1, r2) := by first | (rw [hy1440]; exact H) | exact H
                  have Ny1440 := Aside0.mk hy1440
                  clear hy1440
                  have H' := Aside0.mk H
                  clear H
                  obtain ⟨Ao24, co24, eo24⟩ := Kd.R_slice HO_8.out
                  subst eo24
                  have p1439 : 0 ≤ (x11_2 : Int) := of_decide_eq_true qe_
                  have q1439 : x11_2 < (x8_2.length : Int) := of_decide_eq_true qe_
                  obtain ⟨ad1439, e1439, hx1439_0⟩ := Kd.at_bool (Kd.R_reads' HO_8.out).2.2 x11_2 p1439 q1439
                  (try rw [← Nbq20.out] at hx1439_0)
                  cases e1439
                  replace p1439 := eq_true p1439
                  replace q1439 := eq_true q1439
                  go_wp2_with (first | ((with_reducible refine gate_builtin (b := .append) (xs := #[.tmp 47, .tmp 49]) rfl ?_); at_builtin; refine Kd.R_append (Kd.int .i64) (w0 := w) w.heap.size rfl (.tmp 47) (.tmp 49) 23 3 (.int .i64 0) 8 rfl Try.underlying23 info3 rfl (by decide) (by omega) u7 x7_1 x10_2 [.int .i64 x10_2] (fun k_ => some k_ ≠ (.slice Ao14 t1427.length co14 : Value).ownBlock) (fun _ => False) rfl rfl ?aP (fun _ hk => hk.elim) ?aF ?aO ?aB ?aS ?aL ?_; (case aP => exact rfl); (case aB => exact hB_); (case aF => exact (fun k_ hk => Kd.fresh' (Kd.R_lt (rr_ HO_6)) k_ hk)); (case aO => exact (rr_ HO_7)); (case aS => exact (below_size hB_)); (case aL => have := LMc23.out; omega); intro v1441 w25 ho hb hg hat; rw [← Ny1440.out] at ho; replace HO_6 := Aside0.mk (Kd.R_after (ok := (fun _ => True)) (rw_ (Kd.R_mono HO_6.out (fun _ hk => ⟨trivial, hk⟩))) hg hat); replace HO_8 := Aside0.mk (Kd.R_over' (rr_ HO_8) (Kd.R_typed (rr_ HO_7)) (by decide) hg); replace BK1422 := Aside0.mk (blk_grown (kk_ BK1422) hg (Kd.R_ne HO_7.out BK1422.out (by decide))); replace HB := Aside0.mk hb; have HO1442 := Aside0.mk ho; clear HO_7; clear ho hb hg hat))
                  go_roundg k2
                  case measure => have := HK1.out; have := HK2.out; omega
                  case rel => exact ⟨(y1440), (x8_2), (wrap64 (x27_1 + 1)), qc_, H', ⟨by have := HK1.out; have := HK2.out; omega⟩, ⟨(rw_ (Kd.R_mono HO_6.out (fun _ hk => hk.2)))⟩, ⟨(rr_ HO1442)⟩, ⟨(rr_ HO_8)⟩, ⟨(kk_ BK1422)⟩, ⟨hB_⟩⟩
                · rw [if_neg c22] at H
                  have c22b0 : decide (0 < x10_2) = false := decide_eq_false c22
                  clear c22
                  have H' := Aside0.mk H
                  clear H
                  obtain ⟨Ao26, co26, eo26⟩ := Kd.R_slice HO_8.out
                  subst eo26
                  have p1439 : 0 ≤ (x11_2 : Int) := of_decide_eq_true qe_
                  have q1439 : x11_2 < (x8_2.length : Int) := of_decide_eq_true qe_
                  obtain ⟨ad1439, e1439, hx1439_0⟩ := Kd.at_bool (Kd.R_reads' HO_8.out).2.2 x11_2 p1439 q1439
                  (try rw [← Nbq20.out] at hx1439_0)
                  cases e1439
                  replace p1439 := eq_true p1439
                  replace q1439 := eq_true q1439
                  go_wp2
                  go_roundg k2
                  case measure => have := HK1.out; have := HK2.out; omega
                  case rel => exact ⟨(x7_1), (x8_2), (wrap64 (x27_1 + 1)), qc_, H', ⟨by have := HK1.out; have := HK2.out; omega⟩, ⟨(rr_ HO_6)⟩, ⟨(rr_ HO_7)⟩, ⟨(rr_ HO_8)⟩, ⟨(kk_ BK1422)⟩, ⟨hB_⟩⟩
              · replace c21 := Bool.eq_false_iff.mpr c21
                subst c21
                have H1 : (if x11_2 < (t1427.length : Int) then (spec_CuspsOf.l1 k2 t1427 x7_1 (x8_2.set (x11_2 : Int).toNat true) (wrap64 (x10_2 + 1)) (rd t1427 x11_2) (t1427.length : Int) x27_1) else (none)) = some (r1, r2) := by rw [if_neg (show ¬ (false = true) by decide)] at H; exact H
                clear H
                have H := H1
                clear H1
                obtain ⟨y1443, hy1443⟩ : ∃ y_ : List Bool, y_ = (x8_2.set (x11_2 : Int).toNat true) := ⟨_, rfl⟩
                replace H : (if x11_2 < (t1427.length : Int) then (spec_CuspsOf.l1 k2 t1427 x7_1 y1443 (wrap64 (x10_2 + 1)) (rd t1427 x11_2) (t1427.length : Int) x27_1) else (none)) = some (r1, r2) := by first | (rw [hy1443]; exact H) | exact H
                have Ny1443 := Aside0.mk hy1443
                clear hy1443
                have c28 := cp_ H
                replace H := ca_ H
                have c28b0 := decide_eq_true c28
                clear c28
                have H' := Aside0.mk H
                clear H
                obtain ⟨Ao29, co29, eo29⟩ := Kd.R_slice HO_8.out
                subst eo29
                have p1439 : 0 ≤ (x11_2 : Int) := of_decide_eq_true qe_
                have q1439 : x11_2 < (x8_2.length : Int) := of_decide_eq_true qe_
                obtain ⟨ad1439, e1439, hx1439_0⟩ := Kd.at_bool (Kd.R_reads' HO_8.out).2.2 x11_2 p1439 q1439
                (try rw [← Nbq20.out] at hx1439_0)
                cases e1439
                replace p1439 := eq_true p1439
                replace q1439 := eq_true q1439
                have p27 : 0 ≤ (x11_2 : Int) := of_decide_eq_true qe_
                have q27 : (x11_2 : Int) < ((x8_2.length : Int) : Int) := of_decide_eq_true qe_
                obtain ⟨go27, co27, eo27, gb27, gl27, cl27, HG27⟩ := Kd.R_form HO_8.out (by omega)
                (first | cases eo27 | (injection eo27 with ea_ en_ ec_; (first | subst ea_ | (injection ea_ with ea_; subst ea_)); subst ec_; clear en_))
                have GB27 := Aside0.mk gb27
                have GG27 := Aside0.mk HG27
                clear gb27 gl27 HG27
                (first | simp only [add_plain] at hx1439_0 | skip)
                obtain ⟨hx27_0, hf27_0⟩ := Kd.R_celln false HO_8.out (x11_2 : Int) p27 q27
                replace p27 := eq_true p27
                replace q27 := eq_true q27
                have HP30 := Kd.R_putg HO_8.out (x11_2 : Int) true
                go_wp2_with (first | ((with_reducible refine gate_store (t := 4) (p := 42) rfl ?_); refine store_event (t := 4) (p := 42) (v := ?vo_w31) (w1 := (wr.setCell ⟨go27, (x11_2 : Int).toNat, none⟩ (.bool true))) ?hg ?ho ?hn ?hr ?_; (case ho => rfl); (case hg => rfl); (case hn => rfl); (case hr => first | (go_simp; done) | (go_simp; rfl)); intro w31 hw; have hg : wr.grownBy w31 (some go27) := (by rw [hw]; exact HP30.2); have hp_ : Kd.R Kd.bool 4 w31 w.heap.size (fun _ => True) (.slice (some ⟨go27, 0, none⟩) x8_2.length co29) y1443 := (by rw [hw, Ny1443.out]; exact HP30.1); clear HP30; replace HO_6 := Aside0.mk (Kd.R_over' (v := (.slice (some ⟨go27, 0, none⟩) x8_2.length co29)) (rr_ HO_6) (Kd.R_typed HO_8.out) (by decide) hg); replace HO_7 := Aside0.mk (Kd.R_over' (v := (.slice (some ⟨go27, 0, none⟩) x8_2.length co29)) (rr_ HO_7) (Kd.R_typed HO_8.out) (by decide) hg); replace BK1422 := Aside0.mk (blk_grown (kk_ BK1422) hg (Kd.R_ne HO_8.out BK1422.out (by decide))); replace HO_8 := Aside0.mk (hp_); replace HB := Aside0.mk ((by rw [hw]; exact below_set (HB.out) GB27.out : Below w.heap.size w w31)); clear hg hw hp_; have p1444 : 0 ≤ (x11_2 : Int) := of_decide_eq_true qe_; have q1444 : x11_2 < (t1427.length : Int) := of_decide_eq_true qe_; obtain ⟨ad1444, e1444, hx1444_0⟩ := Kd.at_int (Kd.R_reads' HO_6.out).2.2 x11_2 p1444 q1444; cases e1444; replace p1444 := eq_true p1444; replace q1444 := eq_true q1444))
                go_roundg k2
                case measure => have := HK1.out; have := HK2.out; omega
                case rel => exact ⟨(y1443), (wrap64 (x10_2 + 1)), (rd t1427 x11_2), qc_, qc_, H', ⟨by have := HK1.out; have := HK2.out; omega⟩, ⟨(rr_ HO_6)⟩, ⟨(rr_ HO_7)⟩, ⟨(rr_ HO_8)⟩, ⟨(kk_ BK1422)⟩, ⟨hB_⟩⟩
        · rw [if_neg c17] at H
          have c17b0 := decide_eq_false c17
          clear c17
          obtain ⟨t1436, A32, H⟩ := bi_ H
          simp only [Option.some.injEq, Prod.mk.injEq] at H
          obtain ⟨rfl, rfl⟩ := H
          obtain ⟨Ao33, co33, eo33⟩ := Kd.R_slice HO_7.out
          subst eo33
          go_wp2_with (first | ((with_reducible refine gate_callee (f := 93) rfl ?_); refine gL_ (some 53) Try.func93 #[.slice Ao33 x7_1.length co33] rfl qa_ ?_; (with_reducible refine (spec_l04Down.calls k1 _ _ x7_1 t1436 _ (cr_ HO_7) ((Kd.R_reads' HO_7.out).2.1) A32.out).mono ?_); rintro e w34 ⟨v1437, rfl, ho0, hb⟩; refine ⟨_, rfl, ?_⟩; replace HO_8 := rb_ HO_8 hb; have HO1438 := Aside0.mk (Kd.R_lower (Kd.R_new' (Kd.R_new' ho0 (Kd.R_lt (rr_ HO_6))) (Kd.R_lt (rr_ HO_7))) (below_size hB_)); replace HO_6 := Aside0.mk (Kd.R_elder' (rr_ HO_6) (Kd.R_base ho0) hb); replace HO_7 := Aside0.mk (Kd.R_elder' (rr_ HO_7) (Kd.R_base ho0) hb); replace BK1422 := bb_ BK1422 hb; replace HB := b1_ hb; clear hb ho0))
          go_ret2
          exact ⟨_, qb_, (rw_ (Kd.R_mono HO1438.out (fun _ hk => trivial))), hB_⟩
  · replace c3 := Bool.eq_false_iff.mpr c3
    subst c3
    have H1 : (some (([] : List Int), false)) = some (r1, r2) := by rw [if_neg (show ¬ (false = true) by decide)] at H; exact H
    clear H
    have H := H1
    clear H1
    simp only [Option.some.injEq, Prod.mk.injEq] at H
    obtain ⟨rfl, rfl⟩ := H
    go_enter Try.func53, Try.ntmps53
    go_wp2_with (first | ((with_reducible refine gate_dst (N := 1) rfl ?_); refine bx_ 1 #[.slice A0_0 l0_0.length c0_0, .slice A0_1 l0_1.length c0_1] 25 ?_; intro gb1422 hg w35 hbox hb; have BK1422 := Aside0.mk hbox; have GW1422 := gw_ w hg; have GE1422 := GW1422; replace HB := b1_ hb; clear hb hbox hg; obtain ⟨hcz36_0, hcz36_1, hfz36_0, hfz36_1⟩ := c2_ BK1422) | ((with_reducible refine gate_callee (f := 39) rfl ?_); refine gL_ (some 14) Try.func39 #[.agg #[.slice A0_0 l0_0.length c0_0, .slice A0_1 l0_1.length c0_1]] rfl qa_ ?_; (with_reducible refine (spec_OrbitOf.calls k _ _ l0_0 _ _ l0_1 t1423 false _ (cb_ HR0_0) HC0_0.out (cb_ HR0_1) HC0_1.out A2.out).mono ?_); rintro e w37 ⟨v1424, rfl, ho0, hb⟩; refine ⟨_, rfl, ?_⟩; have HO1425 := Aside0.mk (Kd.N_lower (Kd.N_mono (ok' := fun k_ => k_ ≠ gb1422) ho0 (fun k_ hk_ => (Kd.freshB (kk_ BK1422) k_ hk_))) (below_size hB_)); replace BK1422 := bb_ BK1422 hb; replace HB := b1_ hb; clear hb ho0))
    go_ret2
    exact ⟨_, qb_, by first | exact Kd.R_nil _ _ _ _ _ | exact Kd.N_nil _ _ _ _ _ | exact Kd.V_nil _ _ _ _ _ | exact Kd.Q_nil _ _ _ _ _ | exact Kd.S_nil _ _ _ _ _, hB_⟩
end Go.Proofs.Ytcggfjpnfodbaaa.A
end
section
namespace Go.Proofs.Ytcggfjpnfodbaaa.A
open Go.RowKit Go.Proofs.YtcggfjpnfodbaaaW.PrintWords Go.Proofs.YtcggfjpnfodbaaaW.PrintLast Go.Proofs.YtcggfjpnfodbaaaW.PrintMore
attribute [local go_sem] max2_int min2_int max_two min_two max_three min_three max_four min_four
set_option linter.unusedVariables false
set_option linter.unusedSimpArgs false
def laws_heldIntS.l0 : Nat → List Int → Int → Int → Option (Int)
  | 0, _, _, _ => none
  | k + 1, x0, x1, x5 => if x5 < (x0.length : Int) then (if 0 ≤ x5 then (if (rd x0 x5) = x1 then (laws_heldIntS.l0 k x0 (wrap64 (x1 + 1)) (wrap64 (x5 + 1))) else (some (-1))) else (none)) else (some x1)
def laws_heldIntS.f (k : Nat) (l0 : List Int) (a1 : Int) : Option (Int) := laws_heldIntS.l0 k l0 a1 0
theorem laws_heldIntS.mono_l : ∀ k, (∀ y0 y1 y2, LeO (laws_heldIntS.l0 k y0 y1 y2) (laws_heldIntS.l0 (k + 1) y0 y1 y2))
  | 0 => fun _ _ _ r h => by simp [laws_heldIntS.l0] at h
  | k + 1 => by
    have ih0 := laws_heldIntS.mono_l k
    · intro y0 y1 y2
      unfold laws_heldIntS.l0
      repeat' first|exact ih0 _ _ _|exact lo_|refine LeO.ite ?_ ?_|refine LeO.bind ?_ (fun _ => ?_)
theorem laws_heldIntS.mono : ∀ a0 a1 k, LeO (laws_heldIntS.f k a0 a1) (laws_heldIntS.f (k + 1) a0 a1) := by
  intro a0 a1 k
  have ih0 := laws_heldIntS.mono_l k
  unfold laws_heldIntS.f
  repeat' first|exact ih0 _ _ _|exact lo_|refine LeO.ite ?_ ?_|refine LeO.bind ?_ (fun _ => ?_)
set_option maxHeartbeats 8000000 in
set_option maxRecDepth 100000 in
theorem laws_heldIntS.calls (k : Nat) (A0 : Option Addr) (c0 : Nat) (l0 : List Int) (a1 : Int) (r : Int) (w : World) (hr0 : Kd.C (Kd.int .i64) w A0 l0.length l0) (hc0 : l0.length ≤ c0) (h : laws_heldIntS.f k l0 a1 = some r) :
    Calls Try.prog 56 #[.slice A0 l0.length c0, .int .i64 a1] w fun e w' => e = .returned (.int .i64 r) ∧ Drawn0 w w' := by
  have HR0 := Aside0.mk hr0
  have HC0 := Aside0.mk hc0
  clear hr0 hc0
  have H := h
  unfold laws_heldIntS.f at H
  clear h
  have H' := Aside0.mk H
  clear H
  go_enter Try.func56, Try.ntmps56
  go_wp2
  go_loopg [1, 5] k (fun kq v1 v5 w' => ∃ (x1_1 : Int) (x5_1 : Int), v1 = .int .i64 x1_1 ∧ v5 = .int .i64 x5_1 ∧ Aside0 (laws_heldIntS.l0 kq l0 x1_1 x5_1 = some r) ∧ Aside0 (kq ≤ k) ∧ Drawn0 w w')
  case atStart => exact ⟨(a1), (0), qc_, qc_, H', ⟨Nat.le_refl _⟩, by repeat (first | exact Drawn0.refl _ | apply Drawn0.step)⟩
  case round =>
    clear H'
    obtain ⟨x1_1, x5_1, rfl, rfl, HA, HK1, ⟨m1, rfl⟩⟩ := hrel
    cases gk with
    | zero => exact absurd HA.out (by simp [laws_heldIntS.l0])
    | succ k1 =>
      have H := HA.out
      clear HA
      simp only [laws_heldIntS.l0] at H
      by_cases c3 : x5_1 < (l0.length : Int)
      · rw [if_pos c3] at H
        have c3b0 := decide_eq_true c3
        clear c3
        have c4 := cp_ H
        replace H := ca_ H
        have c4b0 := decide_eq_true c4
        clear c4
        by_cases c5 : (rd l0 x5_1) = x1_1
        · rw [if_pos c5] at H
          have c5b0 : ((rd l0 x5_1) == x1_1) = true := beq_iff_eq.mpr c5
          have c5b1 : ((rd l0 x5_1) != x1_1) = false := bne_eq_false_iff_eq.mpr c5
          clear c5
          have H' := Aside0.mk H
          clear H
          have p1134 : 0 ≤ (x5_1 : Int) := of_decide_eq_true qe_
          have q1134 : x5_1 < (l0.length : Int) := of_decide_eq_true qe_
          obtain ⟨ad1134, e1134, hx1134_0⟩ := Kd.at_int HR0.out x5_1 p1134 q1134
          cases e1134
          replace p1134 := eq_true p1134
          replace q1134 := eq_true q1134
          go_wp2
          go_roundg k1
          case measure => have := HK1.out; omega
          case rel => exact ⟨(wrap64 (x1_1 + 1)), (wrap64 (x5_1 + 1)), qc_, qc_, H', ⟨by have := HK1.out; omega⟩, by repeat (first | exact Drawn0.refl _ | apply Drawn0.step)⟩
        · rw [if_neg c5] at H
          have c5b0 : ((rd l0 x5_1) == x1_1) = false := beq_eq_false_iff_ne.mpr c5
          have c5b1 : ((rd l0 x5_1) != x1_1) = true := bne_iff_ne.mpr c5
          obtain rfl := Option.some.inj H
          have p1134 : 0 ≤ (x5_1 : Int) := of_decide_eq_true qe_
          have q1134 : x5_1 < (l0.length : Int) := of_decide_eq_true qe_
          obtain ⟨ad1134, e1134, hx1134_0⟩ := Kd.at_int HR0.out x5_1 p1134 q1134
          cases e1134
          replace p1134 := eq_true p1134
          replace q1134 := eq_true q1134
          go_wp2
          go_ret
          exact ⟨qc_, by repeat (first | exact Drawn0.refl _ | apply Drawn0.step)⟩
      · rw [if_neg c3] at H
        have c3b0 := decide_eq_false c3
        clear c3
        obtain rfl := Option.some.inj H
        go_wp2
        go_ret
        exact ⟨qc_, by repeat (first | exact Drawn0.refl _ | apply Drawn0.step)⟩
end Go.Proofs.Ytcggfjpnfodbaaa.A
end
section
namespace Go.Proofs.Ytcggfjpnfodbaaa.A
open Go.RowKit Go.Proofs.YtcggfjpnfodbaaaW.PrintWords Go.Proofs.YtcggfjpnfodbaaaW.PrintLast Go.Proofs.YtcggfjpnfodbaaaW.PrintMore Go.Proofs.Ytcggfjpnfodbaaa.M
set_option linter.unusedVariables false
set_option linter.unusedSimpArgs false
def laws_FnExactCuspsOf.F (k : Nat) (l0_0 : List Int) (l0_1 : List Int) : Prop := ∃ s0 : Int, laws_szSurface.f l0_0 l0_1 1048576 = some s0 ∧ (s0 < 0 ∨ (¬ s0 < 0 ∧ (∃ (r0 : List Int) (r1 : Bool) (km0 : Int) (ya0 yb0 : List Int) (m0 : Int) (z0 : List Int), laws_toSurface.f k l0_0 l0_1 = some (l0_0, l0_1) ∧ laws_eqSurface.f k l0_0 l0_1 l0_0 l0_1 = some true ∧ spec_CuspsOf.f k l0_0 l0_1 = some (r0, r1) ∧ impl_CuspsOf.f k l0_0 l0_1 = some (r0, r1) ∧ laws_eqIntS.f k r0 r0 = some true ∧ laws_markSurface.f k l0_0 l0_1 1 = some (km0, ya0, yb0) ∧ decide (km0 < 0) = false ∧ laws_markIntS.f k r0 1 = some (m0, z0) ∧ laws_heldIntS.f k z0 1 = some m0 ∧ decide (m0 < 0) = false)))
set_option maxHeartbeats 8000000 in
set_option maxRecDepth 100000 in
theorem laws_FnExactCuspsOf.calls (k : Nat) (A0_0 : Option Addr) (c0_0 : Nat) (l0_0 : List Int) (A0_1 : Option Addr) (c0_1 : Nat) (l0_1 : List Int) (w : World) (hr0_0 : Kd.C (Kd.int .i64) w A0_0 l0_0.length l0_0) (hc0_0 : l0_0.length ≤ c0_0) (hr0_1 : Kd.C (Kd.int .i64) w A0_1 l0_1.length l0_1) (hc0_1 : l0_1.length ≤ c0_1) (h : laws_FnExactCuspsOf.F k l0_0 l0_1) :
    Calls Try.prog 13 #[.agg #[.slice A0_0 l0_0.length c0_0, .slice A0_1 l0_1.length c0_1]] w fun e w' => e = .returned (.bool true) ∧ Below w.heap.size w w' := by
  have hu25 := Try.underlying25
  have hu44 := Try.underlying44
  have HR0_0 := Aside0.mk hr0_0; have HC0_0 := Aside0.mk hc0_0; clear hr0_0 hc0_0
  have HR0_1 := Aside0.mk hr0_1; have HC0_1 := Aside0.mk hc0_1; clear hr0_1 hc0_1
  have HB := Aside0.mk (Below.refl w.heap.size w)
  unfold laws_FnExactCuspsOf.F at h
  obtain ⟨s0, FZ0, h⟩ := h
  replace FZ0 := Aside0.mk FZ0
  rcases h with hneg | ⟨hneg, h⟩
  · have hq0 : decide (s0 < 0) = true := decide_eq_true hneg
    go_enter Try.func13, Try.ntmps13
    go_upto_region 2 with (first | ((with_reducible refine gate_dst (N := 1) rfl ?_); refine bx_ 1 #[.slice A0_0 l0_0.length c0_0, .slice A0_1 l0_1.length c0_1] 44 ?_; intro gbp0 hg w1 hbox hb; have HBo := HB.out; have n_ := Aside0.mk (below_then HBo HBo.size hb); clear HB; have HB := n_; clear n_; have HSw1 := Aside0.mk hb.size; have BKp0 := Aside0.mk hbox; have GIp0 := Aside0.mk (show w.heap.size ≤ gbp0 ∧ gbp0 < w1.heap.size from ⟨by omega, blk_lt hbox⟩); have GEp0 := Aside0.mk (show w.heap.size ≤ gbp0 from by have := HBo.size; omega); clear hb hbox hg HBo; obtain ⟨hczp0_0, hczp0_1, hfzp0_0, hfzp0_1⟩ := c2_ BKp0))
    go_wp2_with (first | ((with_reducible refine gate_callee (f := 31) rfl ?_); refine goesL_ _ rfl rfl Try.func31 (by kernel_rfl) rfl #[.agg #[.slice A0_0 l0_0.length c0_0, .slice A0_1 l0_1.length c0_1], .int .i64 1048576] rfl (by (try simp only [List.map_toArray, List.map_cons, List.map_nil]); first | done | rfl) ?_; have HBo := HB.out; refine (laws_szSurface.calls A0_0 c0_0 l0_0 A0_1 c0_1 l0_1 1048576 s0 _ (Kd.C_below HR0_0.out HB.out) HC0_0.out (Kd.C_below HR0_1.out HB.out) HC0_1.out FZ0.out).mono ?_; rintro e w2 ⟨rfl, hb0⟩; refine ⟨_, rfl, ?_⟩; clear hczp0_0 hfzp0_0 hczp0_1 hfzp0_1; have n_ := Aside0.mk (blk_below BKp0.out hb0); clear BKp0; have BKp0 := n_; clear n_; have n_ := Aside0.mk (below_then HBo HBo.size hb0); clear HB; have HB := n_; clear n_; have HSw2 := Aside0.mk hb0.size; clear hb0 HBo; obtain ⟨hczp0_0, hczp0_1, hfzp0_0, hfzp0_1⟩ := c2_ BKp0))
    go_ret
    exact ⟨rfl, HB.out⟩
  have hq0 : decide (s0 < 0) = false := decide_eq_false hneg
  clear hneg
  obtain ⟨r0, r1, km0, ya0, yb0, m0, z0, FS0, FE0, FW, FG, FQ0, FK0, FKK, FM0, FH0, FMM0⟩ := h
  replace FS0 := Aside0.mk FS0
  replace FE0 := Aside0.mk FE0
  replace FW := Aside0.mk FW
  replace FG := Aside0.mk FG
  replace FQ0 := Aside0.mk FQ0
  replace FK0 := Aside0.mk FK0
  replace FM0 := Aside0.mk FM0
  replace FH0 := Aside0.mk FH0
  go_enter Try.func13, Try.ntmps13
  go_upto_region 2 with (first | ((with_reducible refine gate_dst (N := 1) rfl ?_); refine bx_ 1 #[.slice A0_0 l0_0.length c0_0, .slice A0_1 l0_1.length c0_1] 44 ?_; intro gbp0 hg w1 hbox hb; have HBo := HB.out; have n_ := Aside0.mk (below_then HBo HBo.size hb); clear HB; have HB := n_; clear n_; have HSw1 := Aside0.mk hb.size; have BKp0 := Aside0.mk hbox; have GIp0 := Aside0.mk (show w.heap.size ≤ gbp0 ∧ gbp0 < w1.heap.size from ⟨by omega, blk_lt hbox⟩); have GEp0 := Aside0.mk (show w.heap.size ≤ gbp0 from by have := HBo.size; omega); clear hb hbox hg HBo; obtain ⟨hczp0_0, hczp0_1, hfzp0_0, hfzp0_1⟩ := c2_ BKp0))
  go_upto_region 5 with (first | ((with_reducible refine gate_callee (f := 31) rfl ?_); refine goesL_ _ rfl rfl Try.func31 (by kernel_rfl) rfl #[.agg #[.slice A0_0 l0_0.length c0_0, .slice A0_1 l0_1.length c0_1], .int .i64 1048576] rfl (by (try simp only [List.map_toArray, List.map_cons, List.map_nil]); first | done | rfl) ?_; have HBo := HB.out; refine (laws_szSurface.calls A0_0 c0_0 l0_0 A0_1 c0_1 l0_1 1048576 s0 _ (Kd.C_below HR0_0.out HB.out) HC0_0.out (Kd.C_below HR0_1.out HB.out) HC0_1.out FZ0.out).mono ?_; rintro e w2 ⟨rfl, hb0⟩; refine ⟨_, rfl, ?_⟩; clear hczp0_0 hfzp0_0 hczp0_1 hfzp0_1; have n_ := Aside0.mk (blk_below BKp0.out hb0); clear BKp0; have BKp0 := n_; clear n_; have n_ := Aside0.mk (below_then HBo HBo.size hb0); clear HB; have HB := n_; clear n_; have HSw2 := Aside0.mk hb0.size; clear hb0 HBo; obtain ⟨hczp0_0, hczp0_1, hfzp0_0, hfzp0_1⟩ := c2_ BKp0))
  go_upto_region 6 with (first | ((with_reducible refine gate_callee (f := 33) rfl ?_); refine goesL_ _ rfl rfl Try.func33 (by kernel_rfl) rfl #[.agg #[.slice A0_0 l0_0.length c0_0, .slice A0_1 l0_1.length c0_1]] rfl (by (try simp only [List.map_toArray, List.map_cons, List.map_nil]); first | done | rfl) ?_; have HBo := HB.out; refine (laws_toSurface.calls k A0_0 c0_0 l0_0 A0_1 c0_1 l0_1 l0_0 l0_1 _ (Kd.C_below HR0_0.out HB.out) HC0_0.out (Kd.C_below HR0_1.out HB.out) HC0_1.out FS0.out).mono ?_; rintro e w3 ⟨v0_, v1_, rfl, h0_, h1_, hb0⟩; refine ⟨_, rfl, ?_⟩; clear hczp0_0 hfzp0_0 hczp0_1 hfzp0_1; have n_ := Aside0.mk (blk_below BKp0.out hb0); clear BKp0; have BKp0 := n_; clear n_; have n_ := Aside0.mk (below_then HBo HBo.size hb0); clear HB; have HB := n_; clear n_; have HSw3 := Aside0.mk hb0.size; have NE1 := Aside0.mk h0_.1; have Hx1a := Aside0.mk (fresh_R (b0 := w.heap.size) h0_ HBo.size); clear h0_; obtain ⟨Ax1a, cx1a, ex1a⟩ := Kd.R_slice Hx1a.out; subst ex1a; have Hx1b := Aside0.mk (fresh_R (b0 := w.heap.size) h1_ HBo.size); clear h1_; obtain ⟨Ax1b, cx1b, ex1b⟩ := Kd.R_slice Hx1b.out; subst ex1b; clear hb0 HBo; obtain ⟨hczp0_0, hczp0_1, hfzp0_0, hfzp0_1⟩ := c2_ BKp0) | ((with_reducible refine gate_callee (f := 53) rfl ?_); refine goesL_ _ rfl rfl Try.func53 (by kernel_rfl) rfl #[.agg #[.slice Ax1a l0_0.length cx1a, .slice Ax1b l0_1.length cx1b]] rfl (by (try simp only [List.map_toArray, List.map_cons, List.map_nil]); first | done | rfl) ?_; have HBo := HB.out; refine (spec_CuspsOf.calls k Ax1a cx1a l0_0 Ax1b cx1b l0_1 r0 r1 _ (Kd.R_reads' Hx1a.out).2.2 (Kd.R_reads' Hx1a.out).2.1 (Kd.R_reads' Hx1b.out).2.2 (Kd.R_reads' Hx1b.out).2.1 FW.out).mono ?_; rintro e w4 ⟨v0_, rfl, h0_, hb0⟩; refine ⟨_, rfl, ?_⟩; clear hczp0_0 hfzp0_0 hczp0_1 hfzp0_1; have n_ := Aside0.mk (blk_below BKp0.out hb0); clear BKp0; have BKp0 := n_; clear n_; have n_ := Aside0.mk (Kd.R_below Hx1a.out hb0); clear Hx1a; have Hx1a := n_; clear n_; have n_ := Aside0.mk (Kd.R_below Hx1b.out hb0); clear Hx1b; have Hx1b := n_; clear n_; have n_ := Aside0.mk (below_then HBo HBo.size hb0); clear HB; have HB := n_; clear n_; have HSw4 := Aside0.mk hb0.size; have Hw0 := Aside0.mk (fresh_R (b0 := w.heap.size) h0_ HBo.size); clear h0_; obtain ⟨Aw0, cw0, ew0⟩ := Kd.R_slice Hw0.out; subst ew0; clear hb0 HBo; obtain ⟨hczp0_0, hczp0_1, hfzp0_0, hfzp0_1⟩ := c2_ BKp0; clear Hx1a Hx1b))
  go_upto_region 7 with (first | ((with_reducible refine gate_callee (f := 33) rfl ?_); refine goesL_ _ rfl rfl Try.func33 (by kernel_rfl) rfl #[.agg #[.slice A0_0 l0_0.length c0_0, .slice A0_1 l0_1.length c0_1]] rfl (by (try simp only [List.map_toArray, List.map_cons, List.map_nil]); first | done | rfl) ?_; have HBo := HB.out; refine (laws_toSurface.calls k A0_0 c0_0 l0_0 A0_1 c0_1 l0_1 l0_0 l0_1 _ (Kd.C_below HR0_0.out HB.out) HC0_0.out (Kd.C_below HR0_1.out HB.out) HC0_1.out FS0.out).mono ?_; rintro e w5 ⟨v0_, v1_, rfl, h0_, h1_, hb0⟩; refine ⟨_, rfl, ?_⟩; clear hczp0_0 hfzp0_0 hczp0_1 hfzp0_1; have n_ := Aside0.mk (blk_below BKp0.out hb0); clear BKp0; have BKp0 := n_; clear n_; have n_ := Aside0.mk (Kd.R_below Hw0.out hb0); clear Hw0; have Hw0 := n_; clear n_; have n_ := Aside0.mk (below_then HBo HBo.size hb0); clear HB; have HB := n_; clear n_; have HSw5 := Aside0.mk hb0.size; have NE2 := Aside0.mk h0_.1; have Hx2a := Aside0.mk (fresh_R (b0 := w.heap.size) h0_ HBo.size); clear h0_; obtain ⟨Ax2a, cx2a, ex2a⟩ := Kd.R_slice Hx2a.out; subst ex2a; have Hx2b := Aside0.mk (fresh_R (b0 := w.heap.size) h1_ HBo.size); clear h1_; obtain ⟨Ax2b, cx2b, ex2b⟩ := Kd.R_slice Hx2b.out; subst ex2b; clear hb0 HBo; obtain ⟨hczp0_0, hczp0_1, hfzp0_0, hfzp0_1⟩ := c2_ BKp0) | ((with_reducible refine gate_dst (N := 6) rfl ?_); refine bx_ 6 #[.slice none 0 0, .slice none 0 0] 25 ?_; intro gbx0 hg w6 hbox hb; clear hczp0_0 hfzp0_0 hczp0_1 hfzp0_1; have HBo := HB.out; have n_ := Aside0.mk (blk_below BKp0.out hb); clear BKp0; have BKp0 := n_; clear n_; have n_ := Aside0.mk (Kd.R_below Hw0.out hb); clear Hw0; have Hw0 := n_; clear n_; have n_ := Aside0.mk (Kd.R_below Hx2a.out hb); clear Hx2a; have Hx2a := n_; clear n_; have n_ := Aside0.mk (Kd.R_below Hx2b.out hb); clear Hx2b; have Hx2b := n_; clear n_; have n_ := Aside0.mk (below_then HBo HBo.size hb); clear HB; have HB := n_; clear n_; have HSw6 := Aside0.mk hb.size; have BKx0 := Aside0.mk hbox; have GIx0 := Aside0.mk (show w5.heap.size ≤ gbx0 ∧ gbx0 < w6.heap.size from ⟨by omega, blk_lt hbox⟩); have GEx0 := Aside0.mk (show w.heap.size ≤ gbx0 from by have := HBo.size; omega); clear hb hbox hg HBo; obtain ⟨hczp0_0, hczp0_1, hfzp0_0, hfzp0_1⟩ := c2_ BKp0; obtain ⟨hczx0_0, hczx0_1, hfzx0_0, hfzx0_1⟩ := c2_ BKx0) | ((with_reducible refine gate_store (t := 25) (p := 6) rfl ?_); refine store_event (t := 25) (p := 6) (v := ?vo6) (w1 := ((w6.setCell ⟨gbx0, 0, none⟩ (.slice Ax2a l0_0.length cx2a)).setCell ⟨gbx0, 1, none⟩ (.slice Ax2b l0_1.length cx2b))) ?hg ?ho ?hn ?hr ?_; (case ho => rfl); (case hg => rfl); (case hn => rfl); (case hr => first | (go_simp; done) | (go_simp; rfl)); intro wq hw; subst hw; obtain ⟨hbox, hkp, hB2⟩ := box_store BKx0.out (.slice Ax2a l0_0.length cx2a) (.slice Ax2b l0_1.length cx2b) HB.out GEx0.out; generalize hw : ((w6.setCell ⟨gbx0, 0, none⟩ (.slice Ax2a l0_0.length cx2a)).setCell ⟨gbx0, 1, none⟩ (.slice Ax2b l0_1.length cx2b)) = w7 at hbox hkp hB2 ⊢; clear hw; clear hczp0_0 hfzp0_0 hczp0_1 hfzp0_1 hczx0_0 hfzx0_0 hczx0_1 hfzx0_1; have n_ := Aside0.mk (blk_kept (g := gbp0) BKp0.out hkp (fun hs => by have hk := GIp0.out; have := hk.1; have := hk.2; have := GIx0.out; have := HSw1.out; have := HSw2.out; have := HSw3.out; have := HSw4.out; have := HSw5.out; have := HSw6.out; omega)); clear BKp0; have BKp0 := n_; clear n_; have n_ := Aside0.mk (Kd.R_kept Hw0.out hkp (fun k_ hk hs => by have := hk.1; have := hk.2; have := GIx0.out; have := HSw1.out; have := HSw2.out; have := HSw3.out; have := HSw4.out; have := HSw5.out; have := HSw6.out; omega)); clear Hw0; have Hw0 := n_; clear n_; have n_ := Aside0.mk (Kd.R_kept Hx2a.out hkp (fun k_ hk hs => by have := hk.1; have := hk.2; have := GIx0.out; have := HSw1.out; have := HSw2.out; have := HSw3.out; have := HSw4.out; have := HSw5.out; have := HSw6.out; omega)); clear Hx2a; have Hx2a := n_; clear n_; have n_ := Aside0.mk (Kd.R_kept Hx2b.out hkp (fun k_ hk hs => by have := hk.1; have := hk.2; have := GIx0.out; have := HSw1.out; have := HSw2.out; have := HSw3.out; have := HSw4.out; have := HSw5.out; have := HSw6.out; omega)); clear Hx2b; have Hx2b := n_; clear n_; have n_ := Aside0.mk (hB2); clear HB; have HB := n_; clear n_; have HSw7 := Aside0.mk hkp.1; clear BKx0; have BKx0 := Aside0.mk (show w7.heap[gbx0]? = some (.cells #[.slice Ax2a l0_0.length cx2a, .slice Ax2b l0_1.length cx2b] 25 (0, 0)) from hbox); clear hbox hkp hB2; obtain ⟨hczp0_0, hczp0_1, hfzp0_0, hfzp0_1⟩ := c2_ BKp0; obtain ⟨hczx0_0, hczx0_1, hfzx0_0, hfzx0_1⟩ := c2_ BKx0))
  go_upto_region 8 with (first | ((with_reducible refine gate_callee (f := 15) rfl ?_); refine goesL_ _ rfl rfl Try.func15 (by kernel_rfl) rfl #[.agg #[.slice Ax2a l0_0.length cx2a, .slice Ax2b l0_1.length cx2b]] rfl (by (try simp only [List.map_toArray, List.map_cons, List.map_nil]); first | done | rfl) ?_; have HBo := HB.out; refine (impl_CuspsOf.calls k Ax2a cx2a l0_0 Ax2b cx2b l0_1 r0 r1 _ (Kd.R_reads' Hx2a.out).2.2 (Kd.R_reads' Hx2a.out).2.1 (Kd.R_reads' Hx2b.out).2.2 (Kd.R_reads' Hx2b.out).2.1 FG.out).mono ?_; rintro e w8 ⟨v0_, rfl, h0_, hb0⟩; refine ⟨_, rfl, ?_⟩; clear hczp0_0 hfzp0_0 hczp0_1 hfzp0_1 hczx0_0 hfzx0_0 hczx0_1 hfzx0_1; have n_ := Aside0.mk (blk_below BKp0.out hb0); clear BKp0; have BKp0 := n_; clear n_; have n_ := Aside0.mk (Kd.R_below Hw0.out hb0); clear Hw0; have Hw0 := n_; clear n_; have n_ := Aside0.mk (Kd.R_below Hx2a.out hb0); clear Hx2a; have Hx2a := n_; clear n_; have n_ := Aside0.mk (Kd.R_below Hx2b.out hb0); clear Hx2b; have Hx2b := n_; clear n_; have n_ := Aside0.mk (blk_below BKx0.out hb0); clear BKx0; have BKx0 := n_; clear n_; have n_ := Aside0.mk (below_then HBo HBo.size hb0); clear HB; have HB := n_; clear n_; have HSw8 := Aside0.mk hb0.size; have Hg0 := Aside0.mk (fresh_R (b0 := w.heap.size) h0_ HBo.size); clear h0_; obtain ⟨Ag0, cg0, eg0⟩ := Kd.R_slice Hg0.out; subst eg0; clear hb0 HBo; obtain ⟨hczp0_0, hczp0_1, hfzp0_0, hfzp0_1⟩ := c2_ BKp0; obtain ⟨hczx0_0, hczx0_1, hfzx0_0, hfzx0_1⟩ := c2_ BKx0))
  go_upto_region 10 with (first | ((with_reducible refine gate_callee (f := 54) rfl ?_); refine goesL_ _ rfl rfl Try.func54 (by kernel_rfl) rfl #[.slice Ag0 r0.length cg0, .slice Aw0 r0.length cw0] rfl (by (try simp only [List.map_toArray, List.map_cons, List.map_nil]); first | done | rfl) ?_; have HBo := HB.out; refine (laws_eqIntS.calls k Ag0 cg0 r0 Aw0 cw0 r0 true _ (Kd.R_reads' Hg0.out).2.2 (Kd.R_reads' Hg0.out).2.1 (Kd.R_reads' Hw0.out).2.2 (Kd.R_reads' Hw0.out).2.1 FQ0.out).mono ?_; rintro e w9 ⟨rfl, hd⟩; refine ⟨_, rfl, ?_⟩; clear hczp0_0 hfzp0_0 hczp0_1 hfzp0_1 hczx0_0 hfzx0_0 hczx0_1 hfzx0_1; replace hd := Drawn0.below hd; have n_ := Aside0.mk (blk_below BKp0.out hd); clear BKp0; have BKp0 := n_; clear n_; have n_ := Aside0.mk (Kd.R_below Hw0.out hd); clear Hw0; have Hw0 := n_; clear n_; have n_ := Aside0.mk (Kd.R_below Hx2a.out hd); clear Hx2a; have Hx2a := n_; clear n_; have n_ := Aside0.mk (Kd.R_below Hx2b.out hd); clear Hx2b; have Hx2b := n_; clear n_; have n_ := Aside0.mk (blk_below BKx0.out hd); clear BKx0; have BKx0 := n_; clear n_; have n_ := Aside0.mk (Kd.R_below Hg0.out hd); clear Hg0; have Hg0 := n_; clear n_; have n_ := Aside0.mk (below_then HBo HBo.size hd); clear HB; have HB := n_; clear n_; have HSw9 := Aside0.mk hd.size; clear hd HBo; obtain ⟨hczp0_0, hczp0_1, hfzp0_0, hfzp0_1⟩ := c2_ BKp0; obtain ⟨hczx0_0, hczx0_1, hfzx0_0, hfzx0_1⟩ := c2_ BKx0))
  clear hczp0_0 hfzp0_0 hczp0_1 hfzp0_1 hczx0_0 hfzx0_0 hczx0_1 hfzx0_1
  have n_ := Aside0.mk (blk_drew BKp0.out)
  clear BKp0
  have BKp0 := n_
  clear n_
  have n_ := Aside0.mk (Kd.R_drew Hw0.out)
  clear Hw0
  have Hw0 := n_
  clear n_
  have n_ := Aside0.mk (Kd.R_drew Hx2a.out)
  clear Hx2a
  have Hx2a := n_
  clear n_
  have n_ := Aside0.mk (Kd.R_drew Hx2b.out)
  clear Hx2b
  have Hx2b := n_
  clear n_
  have n_ := Aside0.mk (blk_drew BKx0.out)
  clear BKx0
  have BKx0 := n_
  clear n_
  have n_ := Aside0.mk (Kd.R_drew Hg0.out)
  clear Hg0
  have Hg0 := n_
  clear n_
  have n_ := Aside0.mk (below_drew1 HB.out)
  clear HB
  have HB := n_
  clear n_
  have HSw11 := Aside0.mk (show w9.heap.size ≤ w9.drew.heap.size from Nat.le_refl _)
  refine start_ (n := 5) (S := fun w' => w'.cell? ⟨gbp0, 0, none⟩ = some (.slice A0_0 l0_0.length c0_0) ∧ w'.cell? ⟨gbp0, 1, none⟩ = some (.slice A0_1 l0_1.length c0_1) ∧ w'.cell? ⟨gbx0, 0, none⟩ = some (.slice Ax2a l0_0.length cx2a) ∧ w'.cell? ⟨gbx0, 1, none⟩ = some (.slice Ax2b l0_1.length cx2b)) (ds := []) (bl_ 5 0) (by kernel_rfl) rfl (by kernel_rfl) ⟨cz0_ BKp0, cz1_ BKp0, cz0_ BKx0, cz1_ BKx0⟩ (fun hHeld => ?_)
  generalize hwd : w9.drew = w11 at BKp0 Hw0 Hx2a Hx2b BKx0 Hg0 HB HSw11 hHeld ⊢
  clear hwd
  refine take_ (i := 0) (N := some 41) (v := ?_) (a' := ?_) (bl_ 5 1) rfl rfl (by kernel_rfl) (fun _ _ _ h => h) (Or.inl ⟨by rfl, ?_⟩) hHeld ?_ ?_
  rotate_left
  · rintro w' ⟨s0, s1, s2, s3⟩
    go_simp
    with_reducible rfl
  rotate_left
  · simp only [Act.put, List.setIfInBounds_toArray, List.set_cons_zero, List.set_cons_succ, i64_w, i32_w]
    rfl
  refine take_ (i := 1) (N := some 42) (v := ?_) (a' := ?_) (bl_ 5 3) rfl rfl (by kernel_rfl) (fun _ _ _ h => h) (Or.inl ⟨by rfl, ?_⟩) hHeld ?_ ?_
  rotate_left
  · rintro w' ⟨s0, s1, s2, s3⟩
    go_simp
    with_reducible rfl
  rotate_left
  · simp only [Act.put, List.setIfInBounds_toArray, List.set_cons_zero, List.set_cons_succ, i64_w, i32_w]
    rfl
  refine one_ (i := 2) (N := some 43) (bl_ 5 7) rfl rfl (by kernel_rfl) (by decide) (fun K hK => ?_)
  replace hK := Aside0.mk hK
  refine gO_ Try.func33 #[.agg #[.slice A0_0 l0_0.length c0_0, .slice A0_1 l0_1.length c0_1]] (by rfl) rfl rfl (by (try simp only [List.map_toArray, List.map_cons, List.map_nil]); first | done | rfl) ?_
  have HBo := HB.out
  refine (laws_toSurface.calls k A0_0 c0_0 l0_0 A0_1 c0_1 l0_1 l0_0 l0_1 _ (Kd.C_below HR0_0.out HB.out) HC0_0.out (Kd.C_below HR0_1.out HB.out) HC0_1.out FS0.out).mono ?_
  rintro e w12 ⟨v0_, v1_, rfl, h0_, h1_, hb0⟩
  refine ⟨_, rfl, ?_⟩
  clear hHeld
  have n_ := Aside0.mk (blk_below BKp0.out hb0)
  clear BKp0
  have BKp0 := n_
  clear n_
  have n_ := Aside0.mk (Kd.R_below Hw0.out hb0)
  clear Hw0
  have Hw0 := n_
  clear n_
  have n_ := Aside0.mk (Kd.R_below Hx2a.out hb0)
  clear Hx2a
  have Hx2a := n_
  clear n_
  have n_ := Aside0.mk (Kd.R_below Hx2b.out hb0)
  clear Hx2b
  have Hx2b := n_
  clear n_
  have n_ := Aside0.mk (blk_below BKx0.out hb0)
  clear BKx0
  have BKx0 := n_
  clear n_
  have n_ := Aside0.mk (Kd.R_below Hg0.out hb0)
  clear Hg0
  have Hg0 := n_
  clear n_
  have n_ := Aside0.mk (below_then HBo HBo.size hb0)
  clear HB
  have HB := n_
  clear n_
  have HSw12 := Aside0.mk hb0.size
  have NE3 := Aside0.mk h0_.1
  have Hx3a := Aside0.mk (fresh_R (b0 := w.heap.size) h0_ HBo.size)
  clear h0_
  obtain ⟨Ax3a, cx3a, ex3a⟩ := Kd.R_slice Hx3a.out
  subst ex3a
  have Hx3b := Aside0.mk (fresh_R (b0 := w.heap.size) h1_ HBo.size)
  clear h1_
  obtain ⟨Ax3b, cx3b, ex3b⟩ := Kd.R_slice Hx3b.out
  subst ex3b
  clear hb0 HBo
  refine hK.out _ _ ⟨cz0_ BKp0, cz1_ BKp0, cz0_ BKx0, cz1_ BKx0⟩ (fun hHeld => ?_)
  clear hK K
  refine no_ (some 43) ?_
  refine one_ (i := 3) (N := some 44) (bl_ 5 15) rfl rfl (by kernel_rfl) (by decide) (fun K hK => ?_)
  replace hK := Aside0.mk hK
  refine gO_ Try.func34 #[.agg #[.slice Ax2a l0_0.length cx2a, .slice Ax2b l0_1.length cx2b], .agg #[.slice Ax3a l0_0.length cx3a, .slice Ax3b l0_1.length cx3b]] (by rfl) rfl rfl (by (try simp only [List.map_toArray, List.map_cons, List.map_nil]); first | done | rfl) ?_
  have HBo := HB.out
  refine (laws_eqSurface.calls k Ax2a cx2a l0_0 Ax2b cx2b l0_1 Ax3a cx3a l0_0 Ax3b cx3b l0_1 true _ (Kd.R_reads' Hx2a.out).2.2 (Kd.R_reads' Hx2a.out).2.1 (Kd.R_reads' Hx2b.out).2.2 (Kd.R_reads' Hx2b.out).2.1 (Kd.R_reads' Hx3a.out).2.2 (Kd.R_reads' Hx3a.out).2.1 (Kd.R_reads' Hx3b.out).2.2 (Kd.R_reads' Hx3b.out).2.1 FE0.out).mono ?_
  rintro e w13 ⟨rfl, hb0⟩
  refine ⟨_, rfl, ?_⟩
  clear hHeld
  have n_ := Aside0.mk (blk_below BKp0.out hb0)
  clear BKp0
  have BKp0 := n_
  clear n_
  have n_ := Aside0.mk (Kd.R_below Hw0.out hb0)
  clear Hw0
  have Hw0 := n_
  clear n_
  have n_ := Aside0.mk (Kd.R_below Hx2a.out hb0)
  clear Hx2a
  have Hx2a := n_
  clear n_
  have n_ := Aside0.mk (Kd.R_below Hx2b.out hb0)
  clear Hx2b
  have Hx2b := n_
  clear n_
  have n_ := Aside0.mk (blk_below BKx0.out hb0)
  clear BKx0
  have BKx0 := n_
  clear n_
  have n_ := Aside0.mk (Kd.R_below Hg0.out hb0)
  clear Hg0
  have Hg0 := n_
  clear n_
  have n_ := Aside0.mk (Kd.R_below Hx3a.out hb0)
  clear Hx3a
  have Hx3a := n_
  clear n_
  have n_ := Aside0.mk (Kd.R_below Hx3b.out hb0)
  clear Hx3b
  have Hx3b := n_
  clear n_
  have n_ := Aside0.mk (below_then HBo HBo.size hb0)
  clear HB
  have HB := n_
  clear n_
  have HSw13 := Aside0.mk hb0.size
  clear hb0 HBo
  refine hK.out _ _ ⟨cz0_ BKp0, cz1_ BKp0, cz0_ BKx0, cz1_ BKx0⟩ (fun hHeld => ?_)
  clear hK K
  refine no_ (some 44) ?_
  refine pure_ (i := 4) (N := some 45) (v := ?_) (a' := ?_) (bl_ 5 31) rfl rfl (by kernel_rfl) (fun _ _ _ h => h) (Or.inl ⟨by rfl, ?_⟩) ?_ ?_
  rotate_left
  · intro w'
    go_simp
    with_reducible rfl
  rotate_left
  · simp only [Act.put, List.setIfInBounds_toArray, List.set_cons_zero, List.set_cons_succ, i64_w, i32_w]
    rfl
  refine done_ (by kernel_rfl) ?_
  clear hHeld
  obtain ⟨hczp0_0, hczp0_1, hfzp0_0, hfzp0_1⟩ := c2_ BKp0
  obtain ⟨hczx0_0, hczx0_1, hfzx0_0, hfzx0_1⟩ := c2_ BKx0
  clear Hx3a Hx3b
  go_upto_region 13 with (fail)
  go_upto_region 14 with (first | ((with_reducible refine gate_callee (f := 41) rfl ?_); refine goesL_ _ rfl rfl Try.func41 (by kernel_rfl) rfl #[.agg #[.slice Ax2a l0_0.length cx2a, .slice Ax2b l0_1.length cx2b], .int .i64 1] rfl (by (try simp only [List.map_toArray, List.map_cons, List.map_nil]); first | done | rfl) ?_; have HBo := HB.out; refine (laws_markSurface.calls k (fun k_ => some k_ = (.slice Ax2a l0_0.length cx2a : Value).ownBlock) _ l0_0 (fun k_ => some k_ = (.slice Ax2b l0_1.length cx2b : Value).ownBlock) _ l0_1 1 km0 ya0 yb0 w _ HB.out (Kd.R_tight rfl Hx2a.out) (fun k_ e_ => fun e2_ => NE2.out k_ e_.symm e2_) (Kd.R_tight rfl Hx2b.out) (fun k_ e_ => fun e2_ => NE2.out k_ e2_.symm e_) FK0.out).mono ?_; rintro e w14 ⟨rfl, hy0_, hy1_, hb0, hkp⟩; refine ⟨_, rfl, ?_⟩; clear hczp0_0 hfzp0_0 hczp0_1 hfzp0_1 hczx0_0 hfzx0_0 hczx0_1 hfzx0_1; have n_ := Aside0.mk (blk_kept (g := gbp0) BKp0.out hkp (fun hs => by have hk := GIp0.out; have := hk.1; have := hk.2; exact Or.elim hs (fun hs => by have h1 := (Hx2a.out.1 _ hs.symm).1; have h2 := (Hx2a.out.1 _ hs.symm).2; have := HSw1.out; have := HSw2.out; have := HSw3.out; have := HSw4.out; have := HSw5.out; have := HSw6.out; have := HSw7.out; have := HSw8.out; have := HSw9.out; have := HSw11.out; have := HSw12.out; have := HSw13.out; omega) (fun hs => by have h1 := (Hx2b.out.1 _ hs.symm).1; have h2 := (Hx2b.out.1 _ hs.symm).2; have := HSw1.out; have := HSw2.out; have := HSw3.out; have := HSw4.out; have := HSw5.out; have := HSw6.out; have := HSw7.out; have := HSw8.out; have := HSw9.out; have := HSw11.out; have := HSw12.out; have := HSw13.out; omega))); clear BKp0; have BKp0 := n_; clear n_; have n_ := Aside0.mk (Kd.R_kept Hw0.out hkp (fun k_ hk hs => by have := hk.1; have := hk.2; exact Or.elim hs (fun hs => by have h1 := (Hx2a.out.1 _ hs.symm).1; have h2 := (Hx2a.out.1 _ hs.symm).2; have := HSw1.out; have := HSw2.out; have := HSw3.out; have := HSw4.out; have := HSw5.out; have := HSw6.out; have := HSw7.out; have := HSw8.out; have := HSw9.out; have := HSw11.out; have := HSw12.out; have := HSw13.out; omega) (fun hs => by have h1 := (Hx2b.out.1 _ hs.symm).1; have h2 := (Hx2b.out.1 _ hs.symm).2; have := HSw1.out; have := HSw2.out; have := HSw3.out; have := HSw4.out; have := HSw5.out; have := HSw6.out; have := HSw7.out; have := HSw8.out; have := HSw9.out; have := HSw11.out; have := HSw12.out; have := HSw13.out; omega))); clear Hw0; have Hw0 := n_; clear n_; have n_ := Aside0.mk (blk_kept (g := gbx0) BKx0.out hkp (fun hs => by have hk := GIx0.out; have := hk.1; have := hk.2; exact Or.elim hs (fun hs => by have h1 := (Hx2a.out.1 _ hs.symm).1; have h2 := (Hx2a.out.1 _ hs.symm).2; have := HSw1.out; have := HSw2.out; have := HSw3.out; have := HSw4.out; have := HSw5.out; have := HSw6.out; have := HSw7.out; have := HSw8.out; have := HSw9.out; have := HSw11.out; have := HSw12.out; have := HSw13.out; omega) (fun hs => by have h1 := (Hx2b.out.1 _ hs.symm).1; have h2 := (Hx2b.out.1 _ hs.symm).2; have := HSw1.out; have := HSw2.out; have := HSw3.out; have := HSw4.out; have := HSw5.out; have := HSw6.out; have := HSw7.out; have := HSw8.out; have := HSw9.out; have := HSw11.out; have := HSw12.out; have := HSw13.out; omega))); clear BKx0; have BKx0 := n_; clear n_; have n_ := Aside0.mk (Kd.R_kept Hg0.out hkp (fun k_ hk hs => by have := hk.1; have := hk.2; exact Or.elim hs (fun hs => by have h1 := (Hx2a.out.1 _ hs.symm).1; have h2 := (Hx2a.out.1 _ hs.symm).2; have := HSw1.out; have := HSw2.out; have := HSw3.out; have := HSw4.out; have := HSw5.out; have := HSw6.out; have := HSw7.out; have := HSw8.out; have := HSw9.out; have := HSw11.out; have := HSw12.out; have := HSw13.out; omega) (fun hs => by have h1 := (Hx2b.out.1 _ hs.symm).1; have h2 := (Hx2b.out.1 _ hs.symm).2; have := HSw1.out; have := HSw2.out; have := HSw3.out; have := HSw4.out; have := HSw5.out; have := HSw6.out; have := HSw7.out; have := HSw8.out; have := HSw9.out; have := HSw11.out; have := HSw12.out; have := HSw13.out; omega))); clear Hg0; have Hg0 := n_; clear n_; have n_ := Aside0.mk (hb0); clear HB; have HB := n_; clear n_; have HSw14 := Aside0.mk hkp.1; clear Hx2a; clear Hx2b; clear hb0 hkp HBo; obtain ⟨hczp0_0, hczp0_1, hfzp0_0, hfzp0_1⟩ := c2_ BKp0; obtain ⟨hczx0_0, hczx0_1, hfzx0_0, hfzx0_1⟩ := c2_ BKx0))
  go_upto_region 17 with (first | (go_at_call 54; have HBo := HB.out; refine (laws_eqIntS.calls k Ag0 cg0 r0 Aw0 cw0 r0 true _ (Kd.R_reads' Hg0.out).2.2 (Kd.R_reads' Hg0.out).2.1 (Kd.R_reads' Hw0.out).2.2 (Kd.R_reads' Hw0.out).2.1 FQ0.out).mono ?_; rintro e w15 ⟨rfl, hd⟩; clear hczp0_0 hfzp0_0 hczp0_1 hfzp0_1 hczx0_0 hfzx0_0 hczx0_1 hfzx0_1; replace hd := Drawn0.below hd; have n_ := Aside0.mk (blk_below BKp0.out hd); clear BKp0; have BKp0 := n_; clear n_; have n_ := Aside0.mk (Kd.R_below Hw0.out hd); clear Hw0; have Hw0 := n_; clear n_; have n_ := Aside0.mk (blk_below BKx0.out hd); clear BKx0; have BKx0 := n_; clear n_; have n_ := Aside0.mk (Kd.R_below Hg0.out hd); clear Hg0; have Hg0 := n_; clear n_; have n_ := Aside0.mk (below_then HBo HBo.size hd); clear HB; have HB := n_; clear n_; have HSw15 := Aside0.mk hd.size; clear hd HBo; obtain ⟨hczp0_0, hczp0_1, hfzp0_0, hfzp0_1⟩ := c2_ BKp0; obtain ⟨hczx0_0, hczx0_1, hfzx0_0, hfzx0_1⟩ := c2_ BKx0))
  go_upto_region 19 with (first | ((with_reducible refine gate_callee (f := 55) rfl ?_); refine goesL_ _ rfl rfl Try.func55 (by kernel_rfl) rfl #[.slice Ag0 r0.length cg0, .int .i64 1] rfl (by (try simp only [List.map_toArray, List.map_cons, List.map_nil]); first | done | rfl) ?_; have HBo := HB.out; refine (laws_markIntS.calls k (fun k_ => w7.heap.size ≤ k_ ∧ k_ < w8.heap.size) _ r0 1 m0 z0 w _ HB.out Hg0.out FM0.out).mono ?_; rintro e w16 ⟨rfl, hy0_, hb0, hkp⟩; refine ⟨_, rfl, ?_⟩; clear hczp0_0 hfzp0_0 hczp0_1 hfzp0_1 hczx0_0 hfzx0_0 hczx0_1 hfzx0_1; have Xy := Aside0.mk (hy0_); have n_ := Aside0.mk (blk_kept (g := gbp0) BKp0.out hkp (fun hs => by have hk := GIp0.out; have := hk.1; have := hk.2; have := hs.1; have := hs.2; have := HSw1.out; have := HSw2.out; have := HSw3.out; have := HSw4.out; have := HSw5.out; have := HSw6.out; have := HSw7.out; have := HSw8.out; have := HSw9.out; have := HSw11.out; have := HSw12.out; have := HSw13.out; have := HSw14.out; have := HSw15.out; omega)); clear BKp0; have BKp0 := n_; clear n_; have n_ := Aside0.mk (Kd.R_kept Hw0.out hkp (fun k_ hk hs => by have := hk.1; have := hk.2; have := hs.1; have := hs.2; have := HSw1.out; have := HSw2.out; have := HSw3.out; have := HSw4.out; have := HSw5.out; have := HSw6.out; have := HSw7.out; have := HSw8.out; have := HSw9.out; have := HSw11.out; have := HSw12.out; have := HSw13.out; have := HSw14.out; have := HSw15.out; omega)); clear Hw0; have Hw0 := n_; clear n_; have n_ := Aside0.mk (blk_kept (g := gbx0) BKx0.out hkp (fun hs => by have hk := GIx0.out; have := hk.1; have := hk.2; have := hs.1; have := hs.2; have := HSw1.out; have := HSw2.out; have := HSw3.out; have := HSw4.out; have := HSw5.out; have := HSw6.out; have := HSw7.out; have := HSw8.out; have := HSw9.out; have := HSw11.out; have := HSw12.out; have := HSw13.out; have := HSw14.out; have := HSw15.out; omega)); clear BKx0; have BKx0 := n_; clear n_; have n_ := Aside0.mk (hb0); clear HB; have HB := n_; clear n_; have HSw16 := Aside0.mk hkp.1; clear Hg0; have Hy := Xy; clear Xy; clear hb0 hkp HBo; obtain ⟨hczp0_0, hczp0_1, hfzp0_0, hfzp0_1⟩ := c2_ BKp0; obtain ⟨hczx0_0, hczx0_1, hfzx0_0, hfzx0_1⟩ := c2_ BKx0; have Hg0 := Hy; clear Hy; have EL0 := Aside0.mk (show r0.length = z0.length from (Kd.R_reads' Hg0.out).1)))
  go_upto_region 24 with (first | ((with_reducible refine gate_callee (f := 56) rfl ?_); refine goesL_ _ rfl rfl Try.func56 (by kernel_rfl) rfl #[.slice Ag0 z0.length cg0, .int .i64 1] rfl (by (try simp only [List.map_toArray, List.map_cons, List.map_nil]); first | done | rfl | (rw [← EL0.out]; rfl)) ?_; have HBo := HB.out; refine (laws_heldIntS.calls k Ag0 cg0 z0 1 m0 _ (Kd.R_reads' Hg0.out).2.2 (Nat.le_trans (Nat.le_of_eq EL0.out.symm) (Kd.R_reads' Hg0.out).2.1) FH0.out).mono ?_; rintro e w17 ⟨rfl, hd⟩; refine ⟨_, rfl, ?_⟩; clear hczp0_0 hfzp0_0 hczp0_1 hfzp0_1 hczx0_0 hfzx0_0 hczx0_1 hfzx0_1; replace hd := Drawn0.below hd; have n_ := Aside0.mk (blk_below BKp0.out hd); clear BKp0; have BKp0 := n_; clear n_; have n_ := Aside0.mk (Kd.R_below Hw0.out hd); clear Hw0; have Hw0 := n_; clear n_; have n_ := Aside0.mk (blk_below BKx0.out hd); clear BKx0; have BKx0 := n_; clear n_; have n_ := Aside0.mk (Kd.R_below Hg0.out hd); clear Hg0; have Hg0 := n_; clear n_; have n_ := Aside0.mk (below_then HBo HBo.size hd); clear HB; have HB := n_; clear n_; have HSw17 := Aside0.mk hd.size; clear hd HBo; obtain ⟨hczp0_0, hczp0_1, hfzp0_0, hfzp0_1⟩ := c2_ BKp0; obtain ⟨hczx0_0, hczx0_1, hfzx0_0, hfzx0_1⟩ := c2_ BKx0))
  go_upto_region 25 with (first | ((with_reducible refine gate_callee (f := 33) rfl ?_); refine goesL_ _ rfl rfl Try.func33 (by kernel_rfl) rfl #[.agg #[.slice A0_0 l0_0.length c0_0, .slice A0_1 l0_1.length c0_1]] rfl (by (try simp only [List.map_toArray, List.map_cons, List.map_nil]); first | done | rfl | (rw [← EL0.out]; rfl)) ?_; have HBo := HB.out; refine (laws_toSurface.calls k A0_0 c0_0 l0_0 A0_1 c0_1 l0_1 l0_0 l0_1 _ (Kd.C_below HR0_0.out HB.out) HC0_0.out (Kd.C_below HR0_1.out HB.out) HC0_1.out FS0.out).mono ?_; rintro e w18 ⟨v0_, v1_, rfl, h0_, h1_, hb0⟩; refine ⟨_, rfl, ?_⟩; clear hczp0_0 hfzp0_0 hczp0_1 hfzp0_1 hczx0_0 hfzx0_0 hczx0_1 hfzx0_1; have n_ := Aside0.mk (blk_below BKp0.out hb0); clear BKp0; have BKp0 := n_; clear n_; have n_ := Aside0.mk (Kd.R_below Hw0.out hb0); clear Hw0; have Hw0 := n_; clear n_; have n_ := Aside0.mk (blk_below BKx0.out hb0); clear BKx0; have BKx0 := n_; clear n_; have n_ := Aside0.mk (Kd.R_below Hg0.out hb0); clear Hg0; have Hg0 := n_; clear n_; have n_ := Aside0.mk (below_then HBo HBo.size hb0); clear HB; have HB := n_; clear n_; have HSw18 := Aside0.mk hb0.size; have NE4 := Aside0.mk h0_.1; have Hx4a := Aside0.mk (fresh_R (b0 := w.heap.size) h0_ HBo.size); clear h0_; obtain ⟨Ax4a, cx4a, ex4a⟩ := Kd.R_slice Hx4a.out; subst ex4a; have Hx4b := Aside0.mk (fresh_R (b0 := w.heap.size) h1_ HBo.size); clear h1_; obtain ⟨Ax4b, cx4b, ex4b⟩ := Kd.R_slice Hx4b.out; subst ex4b; clear hb0 HBo; obtain ⟨hczp0_0, hczp0_1, hfzp0_0, hfzp0_1⟩ := c2_ BKp0; obtain ⟨hczx0_0, hczx0_1, hfzx0_0, hfzx0_1⟩ := c2_ BKx0) | ((with_reducible refine gate_callee (f := 15) rfl ?_); refine goesL_ _ rfl rfl Try.func15 (by kernel_rfl) rfl #[.agg #[.slice Ax4a l0_0.length cx4a, .slice Ax4b l0_1.length cx4b]] rfl (by (try simp only [List.map_toArray, List.map_cons, List.map_nil]); first | done | rfl | (rw [← EL0.out]; rfl)) ?_; have HBo := HB.out; refine (impl_CuspsOf.calls k Ax4a cx4a l0_0 Ax4b cx4b l0_1 r0 r1 _ (Kd.R_reads' Hx4a.out).2.2 (Kd.R_reads' Hx4a.out).2.1 (Kd.R_reads' Hx4b.out).2.2 (Kd.R_reads' Hx4b.out).2.1 FG.out).mono ?_; rintro e w19 ⟨v0_, rfl, h0_, hb0⟩; refine ⟨_, rfl, ?_⟩; clear hczp0_0 hfzp0_0 hczp0_1 hfzp0_1 hczx0_0 hfzx0_0 hczx0_1 hfzx0_1; have n_ := Aside0.mk (blk_below BKp0.out hb0); clear BKp0; have BKp0 := n_; clear n_; have n_ := Aside0.mk (Kd.R_below Hw0.out hb0); clear Hw0; have Hw0 := n_; clear n_; have n_ := Aside0.mk (blk_below BKx0.out hb0); clear BKx0; have BKx0 := n_; clear n_; have n_ := Aside0.mk (Kd.R_below Hg0.out hb0); clear Hg0; have Hg0 := n_; clear n_; have n_ := Aside0.mk (Kd.R_below Hx4a.out hb0); clear Hx4a; have Hx4a := n_; clear n_; have n_ := Aside0.mk (Kd.R_below Hx4b.out hb0); clear Hx4b; have Hx4b := n_; clear n_; have n_ := Aside0.mk (below_then HBo HBo.size hb0); clear HB; have HB := n_; clear n_; have HSw19 := Aside0.mk hb0.size; have Hh0 := Aside0.mk (fresh_R (b0 := w.heap.size) h0_ HBo.size); clear h0_; obtain ⟨Ah0, ch0, eh0⟩ := Kd.R_slice Hh0.out; subst eh0; clear hb0 HBo; obtain ⟨hczp0_0, hczp0_1, hfzp0_0, hfzp0_1⟩ := c2_ BKp0; obtain ⟨hczx0_0, hczx0_1, hfzx0_0, hfzx0_1⟩ := c2_ BKx0))
  go_upto_region 28 with (first | ((with_reducible refine gate_callee (f := 54) rfl ?_); refine goesL_ _ rfl rfl Try.func54 (by kernel_rfl) rfl #[.slice Ah0 r0.length ch0, .slice Aw0 r0.length cw0] rfl (by (try simp only [List.map_toArray, List.map_cons, List.map_nil]); first | done | rfl | (rw [← EL0.out]; rfl)) ?_; have HBo := HB.out; refine (laws_eqIntS.calls k Ah0 ch0 r0 Aw0 cw0 r0 true _ (Kd.R_reads' Hh0.out).2.2 (Kd.R_reads' Hh0.out).2.1 (Kd.R_reads' Hw0.out).2.2 (Kd.R_reads' Hw0.out).2.1 FQ0.out).mono ?_; rintro e w20 ⟨rfl, hd⟩; refine ⟨_, rfl, ?_⟩; clear hczp0_0 hfzp0_0 hczp0_1 hfzp0_1 hczx0_0 hfzx0_0 hczx0_1 hfzx0_1; replace hd := Drawn0.below hd; have n_ := Aside0.mk (blk_below BKp0.out hd); clear BKp0; have BKp0 := n_; clear n_; have n_ := Aside0.mk (Kd.R_below Hw0.out hd); clear Hw0; have Hw0 := n_; clear n_; have n_ := Aside0.mk (blk_below BKx0.out hd); clear BKx0; have BKx0 := n_; clear n_; have n_ := Aside0.mk (Kd.R_below Hg0.out hd); clear Hg0; have Hg0 := n_; clear n_; have n_ := Aside0.mk (Kd.R_below Hx4a.out hd); clear Hx4a; have Hx4a := n_; clear n_; have n_ := Aside0.mk (Kd.R_below Hx4b.out hd); clear Hx4b; have Hx4b := n_; clear n_; have n_ := Aside0.mk (Kd.R_below Hh0.out hd); clear Hh0; have Hh0 := n_; clear n_; have n_ := Aside0.mk (below_then HBo HBo.size hd); clear HB; have HB := n_; clear n_; have HSw20 := Aside0.mk hd.size; clear hd HBo; obtain ⟨hczp0_0, hczp0_1, hfzp0_0, hfzp0_1⟩ := c2_ BKp0; obtain ⟨hczx0_0, hczx0_1, hfzx0_0, hfzx0_1⟩ := c2_ BKx0))
  go_wp2_with (first | ((with_reducible refine gate_callee (f := 56) rfl ?_); refine goesL_ _ rfl rfl Try.func56 (by kernel_rfl) rfl #[.slice Ag0 z0.length cg0, .int .i64 1] rfl (by (try simp only [List.map_toArray, List.map_cons, List.map_nil]); first | done | rfl | (rw [← EL0.out]; rfl)) ?_; have HBo := HB.out; refine (laws_heldIntS.calls k Ag0 cg0 z0 1 m0 _ (Kd.R_reads' Hg0.out).2.2 (Nat.le_trans (Nat.le_of_eq EL0.out.symm) (Kd.R_reads' Hg0.out).2.1) FH0.out).mono ?_; rintro e w21 ⟨rfl, hd⟩; refine ⟨_, rfl, ?_⟩; clear hczp0_0 hfzp0_0 hczp0_1 hfzp0_1 hczx0_0 hfzx0_0 hczx0_1 hfzx0_1; replace hd := Drawn0.below hd; have n_ := Aside0.mk (blk_below BKp0.out hd); clear BKp0; have BKp0 := n_; clear n_; have n_ := Aside0.mk (Kd.R_below Hw0.out hd); clear Hw0; have Hw0 := n_; clear n_; have n_ := Aside0.mk (blk_below BKx0.out hd); clear BKx0; have BKx0 := n_; clear n_; have n_ := Aside0.mk (Kd.R_below Hg0.out hd); clear Hg0; have Hg0 := n_; clear n_; have n_ := Aside0.mk (Kd.R_below Hx4a.out hd); clear Hx4a; have Hx4a := n_; clear n_; have n_ := Aside0.mk (Kd.R_below Hx4b.out hd); clear Hx4b; have Hx4b := n_; clear n_; have n_ := Aside0.mk (Kd.R_below Hh0.out hd); clear Hh0; have Hh0 := n_; clear n_; have n_ := Aside0.mk (below_then HBo HBo.size hd); clear HB; have HB := n_; clear n_; have HSw21 := Aside0.mk hd.size; clear hd HBo; obtain ⟨hczp0_0, hczp0_1, hfzp0_0, hfzp0_1⟩ := c2_ BKp0; obtain ⟨hczx0_0, hczx0_1, hfzx0_0, hfzx0_1⟩ := c2_ BKx0))
  go_ret
  exact ⟨rfl, HB.out⟩
end Go.Proofs.Ytcggfjpnfodbaaa.A
end
section
/- Plain mathematics: permutations of whole numbers, and what is reached by two of them. No conditions. -/
namespace Go.Proofs.Ytcggfjpnfodbaaa.M
set_option linter.unusedVariables false
set_option linter.unusedSimpArgs false
open Go.RowKit Go.Proofs.YtcggfjpnfodbaaaW.PrintWords Go.Proofs.YtcggfjpnfodbaaaW.PrintLast Go.Proofs.YtcggfjpnfodbaaaW.PrintMore
theorem w64 {x : Int} (h0 : -9223372036854775808 ≤ x) (h1 : x ≤ 9223372036854775807) : wrap64 x = x := by unfold wrap64; omega
theorem w64s (i : Nat) (h : i ≤ 9000000000000000000) : wrap64 ((i : Int) + 1) = ((i + 1 : Nat) : Int) := by rw [w64 (by omega) (by omega)]; omega
theorem ev_succ {α : Type} {f : Nat → Option α} {r : α} (h : Ev (fun k => f (k + 1)) r) : Ev f r := Ev.step (fun _ => rfl) h
theorem rdI (p : List Nat) (i : Nat) : rd (I p) (i : Int) = ((g p i : Nat) : Int) := by
  unfold rd g I
  simp only [Int.toNat_natCast, List.getD_eq_getElem?_getD, List.getElem?_map]
  cases p[i]? <;> rfl
theorem rd_get (l : List Int) (i : Nat) (h : i < l.length) : rd l (i : Int) = l[i] := by
  unfold rd
  simp [List.getD_eq_getElem?_getD, h]
theorem mem_I {p : List Nat} {x : Nat} : (x : Int) ∈ I p ↔ x ∈ p := by
  unfold I
  constructor
  · intro h
    obtain ⟨y, hy, e⟩ := List.mem_map.mp h
    have : y = x := Int.ofNat.inj e
    exact this ▸ hy
  · intro h
    exact List.mem_map.mpr ⟨x, h, rfl⟩
def PI (l : List Int) : Prop := l.length ≤ 24 ∧ (∀ x ∈ l, 0 ≤ x ∧ x < (l.length : Int)) ∧ l.Nodup
instance : DecidablePred PI := fun l => by unfold PI; infer_instance
def permB (l : List Int) : Bool := decide (PI l)
def N (l : List Int) : List Nat := l.map Int.toNat
theorem N_I (p : List Nat) : N (I p) = p := by
  unfold N I
  rw [List.map_map]
  exact List.map_id'' (fun x => rfl) p
theorem N_len (l : List Int) : (N l).length = l.length := by simp [N]
theorem I_N {l : List Int} (h : ∀ x ∈ l, 0 ≤ x) : I (N l) = l := by
  unfold N I
  rw [List.map_map]
  conv => rhs; rw [← List.map_id l]
  apply List.map_congr_left
  intro x hx
  have := h x hx
  simp only [Function.comp, id]
  show ((x.toNat : Nat) : Int) = x
  omega
theorem PI_nat {l : List Int} (h : PI l) : ∃ p, l = I p ∧ IsP p ∧ p.length ≤ 24 := by
  obtain ⟨h1, h2, h3⟩ := h
  refine ⟨N l, (I_N (fun x hx => (h2 x hx).1)).symm, ?_, by rw [N_len]; exact h1⟩
  have e := I_N (fun x hx => (h2 x hx).1)
  refine ⟨fun x hx => ?_, ?_⟩
  · have := (h2 (x : Int) (by rw [← e]; exact mem_I.mpr hx)).2
    rw [N_len]
    omega
  · rw [← e] at h3
    unfold I at h3
    exact (List.pairwise_map.mp h3).imp (fun {a b} hab hh => hab (by rw [hh]))
theorem PI_I {p : List Nat} : PI (I p) ↔ IsP p ∧ p.length ≤ 24 := by
  constructor
  · intro h
    obtain ⟨q, e, h1, h2⟩ := PI_nat h
    have := I_inj e
    subst this
    exact ⟨h1, h2⟩
  · intro ⟨h1, h2⟩
    refine ⟨by rw [I_len]; exact h2, fun x hx => ?_, ?_⟩
    · unfold I at hx
      obtain ⟨y, hy, rfl⟩ := List.mem_map.mp hx
      have := h1.lt y hy
      rw [I_len]
      exact ⟨Int.natCast_nonneg y, Int.ofNat_lt.mpr this⟩
    · unfold I
      exact List.pairwise_map.mpr (h1.nd.imp (fun {a b} hab hh => hab (Int.ofNat.inj hh)))
theorem permB_I {p : List Nat} : permB (I p) = true ↔ IsP p ∧ p.length ≤ 24 := by
  unfold permB
  rw [decide_eq_true_iff]
  exact PI_I
def okFrom (l : List Int) (i : Nat) : Prop := ∀ j : Nat, i ≤ j → j < l.length → 0 ≤ rd l (j : Int) ∧ rd l (j : Int) < (l.length : Int) ∧ rd l (j : Int) ∉ l.take j
theorem okFrom_end (l : List Int) (i : Nat) (h : l.length ≤ i) : okFrom l i := fun j h1 h2 => by omega
theorem okFrom_step {l : List Int} {i : Nat} (h : 0 ≤ rd l (i : Int) ∧ rd l (i : Int) < (l.length : Int) ∧ rd l (i : Int) ∉ l.take i) : okFrom l i ↔ okFrom l (i + 1) := by
  constructor
  · intro k j h1 h2
    exact k j (by omega) h2
  · intro k j h1 h2
    by_cases e : j = i
    · subst e
      exact h
    · exact k j (by omega) h2
theorem okFrom_not {l : List Int} {i : Nat} (hi : i < l.length) (h : ¬ (0 ≤ rd l (i : Int) ∧ rd l (i : Int) < (l.length : Int) ∧ rd l (i : Int) ∉ l.take i)) : ¬ okFrom l i := fun k => h (k i (Nat.le_refl _) hi)
theorem okFrom_PI {l : List Int} (h : l.length ≤ 24) : okFrom l 0 ↔ PI l := by
  constructor
  · intro k
    refine ⟨h, fun x hx => ?_, ?_⟩
    · obtain ⟨i, hi, rfl⟩ := List.mem_iff_getElem.mp hx
      have := k i (Nat.zero_le _) hi
      rw [rd_get l i hi] at this
      exact ⟨this.1, this.2.1⟩
    · refine List.pairwise_iff_getElem.mpr ?_
      intro i j hi hj hij e
      have := (k j (Nat.zero_le _) hj).2.2
      rw [rd_get l j hj, ← e] at this
      exact this (List.mem_take_iff_getElem.mpr ⟨i, by omega, rfl⟩)
  · intro ⟨_, h2, h3⟩ j _ hj
    rw [rd_get l j hj]
    refine ⟨(h2 _ (List.getElem_mem hj)).1, (h2 _ (List.getElem_mem hj)).2, fun hm => ?_⟩
    obtain ⟨i, hi, e⟩ := List.mem_take_iff_getElem.mp hm
    exact List.pairwise_iff_getElem.mp h3 i j (by omega) hj (by omega) e
theorem permB_of {l : List Int} {b : Bool} (h : l.length ≤ 24) (hb : b = true ↔ okFrom l 0) : b = permB l := by
  rw [Bool.eq_iff_iff, hb, okFrom_PI h]
  unfold permB
  rw [decide_eq_true_iff]
theorem take_succ (l : List Int) (i : Nat) (h : i < l.length) : l.take (i + 1) = l.take i ++ [rd l (i : Int)] := by
  rw [rd_get l i h, List.take_append_getElem h]
def st1 (out : List Nat) (x : Nat) : List Nat := if x ∈ out then out else out ++ [x]
def bfs (p q : List Nat) : Nat → Nat → List Nat → List Nat
  | 0, _, out => out
  | f + 1, a, out => if a < out.length then bfs p q f (a + 1) (st1 (st1 out (g p (g out a))) (g q (g out a))) else out
def reach (p q : List Nat) (s : Nat) : List Nat := bfs p q (p.length + 1) 0 [s]
structure RInv (n : Nat) (out : List Nat) : Prop where
  nd : out.Nodup
  lt : ∀ x ∈ out, x < n
theorem RInv.le {n : Nat} {out : List Nat} (h : RInv n out) : out.length ≤ n := nodup_le n out h.nd h.lt
theorem RInv.st {n : Nat} {out : List Nat} {x : Nat} (h : RInv n out) (hx : x < n) : RInv n (st1 out x) := by
  unfold st1
  split
  · exact h
  · rename_i hn
    refine ⟨List.nodup_append.mpr ⟨h.nd, by simp, fun a ha b hb e => ?_⟩, fun y hy => ?_⟩
    · have : b = x := by simpa using hb
      subst this
      exact hn (e ▸ ha)
    · rcases List.mem_append.mp hy with hy | hy
      · exact h.lt y hy
      · have : y = x := by simpa using hy
        omega
theorem st1_len (out : List Nat) (x : Nat) : out.length ≤ (st1 out x).length := by
  unfold st1
  split <;> simp
theorem RInv.g {n : Nat} {out : List Nat} {a : Nat} (h : RInv n out) (ha : a < out.length) : M.g out a < n := h.lt _ (g_mem ha)
structure Sf (r u : List Nat) : Prop where
  pr : IsP r
  pu : IsP u
  le : r.length ≤ 24
  eq : u.length = r.length
  pos : 0 < r.length
  all : (reach r u 0).length = r.length
def surfB (r u : List Int) : Bool := permB r && permB u && decide (r.length = u.length) && decide (0 < r.length) && ((reach (N r) (N u) 0).length == r.length)
theorem surf_nat {r u : List Int} (h : surfB r u = true) : ∃ r' u', r = I r' ∧ u = I u' ∧ Sf r' u' := by
  unfold surfB at h
  simp only [Bool.and_eq_true, decide_eq_true_eq, beq_iff_eq] at h
  obtain ⟨⟨⟨⟨h1, h2⟩, h3⟩, h4⟩, h5⟩ := h
  obtain ⟨r', rfl, a1, a2⟩ := PI_nat (of_decide_eq_true h1)
  obtain ⟨u', rfl, b1, b2⟩ := PI_nat (of_decide_eq_true h2)
  rw [N_I, N_I, I_len] at h5
  rw [I_len, I_len] at h3
  rw [I_len] at h4
  exact ⟨r', u', rfl, rfl, a1, b1, a2, h3.symm, h4, h5⟩
theorem surfB_I {r u : List Nat} : surfB (I r) (I u) = true ↔ Sf r u := by
  constructor
  · intro h
    obtain ⟨r', u', e1, e2, hs⟩ := surf_nat h
    have := I_inj e1
    have := I_inj e2
    subst_vars
    exact hs
  · intro h
    unfold surfB
    simp only [Bool.and_eq_true, decide_eq_true_eq, beq_iff_eq]
    rw [N_I, N_I, I_len, I_len]
    exact ⟨⟨⟨⟨permB_I.mpr ⟨h.pr, h.le⟩, permB_I.mpr ⟨h.pu, by have := h.le; have := h.eq; omega⟩⟩, h.eq.symm⟩, h.pos⟩, h.all⟩
end Go.Proofs.Ytcggfjpnfodbaaa.M
end
section
/- Plain mathematics: surfaces, and what the four letters make of them. No conditions. -/
namespace Go.Proofs.Ytcggfjpnfodbaaa.M
set_option linter.unusedVariables false
set_option linter.unusedSimpArgs false
theorem st1_mem {out : List Nat} {x y : Nat} : y ∈ st1 out x ↔ y ∈ out ∨ y = x := by
  unfold st1
  split
  · rename_i h
    constructor
    · exact Or.inl
    · rintro (h' | rfl)
      · exact h'
      · exact h
  · simp
theorem st1_g {out : List Nat} {x i : Nat} (h : i < out.length) : g (st1 out x) i = g out i := by
  unfold st1
  split
  · rfl
  · unfold g
    rw [List.getD_eq_getElem?_getD, List.getD_eq_getElem?_getD, List.getElem?_append_left h]
theorem st1_le (out : List Nat) (x : Nat) : out.length ≤ (st1 out x).length := by
  unfold st1
  split
  · exact Nat.le_refl _
  · simp
theorem bfs_ind {r u : List Nat} {n : Nat} (S : Nat → Prop) (h1 : ∀ x, x < n → S x → S (g r x) ∧ g r x < n) (h2 : ∀ x, x < n → S x → S (g u x) ∧ g u x < n) : ∀ (F a : Nat) (out : List Nat), (∀ x ∈ out, S x ∧ x < n) → ∀ x ∈ bfs r u F a out, S x ∧ x < n := by
  intro F
  induction F with
  | zero => intro a out h; exact h
  | succ F ih =>
    intro a out h
    unfold bfs
    split
    · rename_i ha
      obtain ⟨s, l⟩ := h _ (g_mem ha)
      refine ih _ _ (fun x hx => ?_)
      rcases st1_mem.mp hx with hx | rfl
      · rcases st1_mem.mp hx with hx | rfl
        · exact h x hx
        · exact h1 _ l s
      · exact h2 _ l s
    · exact h
theorem bfs_sub {r u : List Nat} : ∀ (F a : Nat) (out : List Nat), ∀ x ∈ out, x ∈ bfs r u F a out := by
  intro F
  induction F with
  | zero => intro a out x h; exact h
  | succ F ih =>
    intro a out x h
    unfold bfs
    split
    · exact ih _ _ x (st1_mem.mpr (.inl (st1_mem.mpr (.inl h))))
    · exact h
theorem bfs_rinv {r u : List Nat} {n : Nat} (h1 : ∀ x, x < n → g r x < n) (h2 : ∀ x, x < n → g u x < n) : ∀ (F a : Nat) (out : List Nat), RInv n out → RInv n (bfs r u F a out) := by
  intro F
  induction F with
  | zero => intro a out h; exact h
  | succ F ih =>
    intro a out h
    unfold bfs
    split
    · rename_i ha
      have hx := h.g ha
      exact ih _ _ ((h.st (h1 _ hx)).st (h2 _ hx))
    · exact h
theorem bfs_shut {r u : List Nat} {n : Nat} (h1 : ∀ x, x < n → g r x < n) (h2 : ∀ x, x < n → g u x < n) : ∀ (F a : Nat) (out : List Nat), RInv n out → a ≤ out.length → n < F + a → (∀ i, i < a → g r (g out i) ∈ out ∧ g u (g out i) ∈ out) → ∀ x ∈ bfs r u F a out, g r x ∈ bfs r u F a out ∧ g u x ∈ bfs r u F a out := by
  intro F
  induction F with
  | zero =>
    intro a out h ha hF
    have := h.le
    omega
  | succ F ih =>
    intro a out h ha hF hc
    unfold bfs
    split
    · rename_i ha'
      have hx := h.g ha'
      have r1 := h.st (h1 _ hx)
      have l1 := st1_le out (g r (g out a))
      have l2 := st1_le (st1 out (g r (g out a))) (g u (g out a))
      refine ih _ _ (r1.st (h2 _ hx)) (by omega) (by omega) (fun i hi => ?_)
      have e : g (st1 (st1 out (g r (g out a))) (g u (g out a))) i = g out i := by
        rw [st1_g (by omega), st1_g (by omega)]
      rw [e]
      by_cases hia : i < a
      · exact ⟨st1_mem.mpr (.inl (st1_mem.mpr (.inl (hc i hia).1))), st1_mem.mpr (.inl (st1_mem.mpr (.inl (hc i hia).2)))⟩
      · obtain rfl : i = a := by omega
        exact ⟨st1_mem.mpr (.inl (st1_mem.mpr (.inr rfl))), st1_mem.mpr (.inr rfl)⟩
    · intro x hx
      obtain ⟨i, hi, rfl⟩ := mem_g hx
      exact hc i (by omega)
theorem nodup_sub_len5 : ∀ (a b : List Nat), a.Nodup → (∀ x ∈ a, x ∈ b) → a.length ≤ b.length := by
  intro a
  induction a with
  | nil => intro b _ _; simp
  | cons x a ih =>
    intro b hn h
    obtain ⟨h1, h2⟩ := List.nodup_cons.mp hn
    have hx : x ∈ b := h x (by simp)
    have := ih (b.erase x) h2 (fun y hy => (List.mem_erase_of_ne (fun e => h1 (by rw [← e]; exact hy))).mpr (h y (by simp [hy])))
    rw [List.length_erase_of_mem hx] at this
    have hp := List.length_pos_of_mem hx
    simp
    omega
def Tr (r u : List Nat) : Prop := ∀ S : Nat → Prop, S 0 → (∀ x, x < r.length → S x → S (g r x)) → (∀ x, x < r.length → S x → S (g u x)) → ∀ x, x < r.length → S x
theorem sf_of_tr {r u : List Nat} (pr : IsP r) (pu : IsP u) (le : r.length ≤ 24) (eq : u.length = r.length) (pos : 0 < r.length) (h : Tr r u) : Sf r u := by
  have b1 : ∀ x, x < r.length → g r x < r.length := fun x hx => g_lt pr hx
  have b2 : ∀ x, x < r.length → g u x < r.length := fun x hx => by have := g_lt pu (i := x) (by omega); omega
  have hri : RInv r.length (reach r u 0) := bfs_rinv b1 b2 _ _ _ ⟨by simp, by simpa using pos⟩
  have hsh := bfs_shut b1 b2 (r.length + 1) 0 [0] ⟨by simp, by simpa using pos⟩ (by simp) (by omega) (fun i hi => by omega)
  have hall : ∀ x, x < r.length → x ∈ reach r u 0 := h (fun x => x ∈ reach r u 0) (bfs_sub _ _ _ 0 (by simp)) (fun x _ hx => (hsh x hx).1) (fun x _ hx => (hsh x hx).2)
  refine ⟨pr, pu, le, eq, pos, ?_⟩
  have l1 := hri.le
  have l2 := nodup_sub_len5 (List.range r.length) (reach r u 0) List.nodup_range (fun x hx => hall x (List.mem_range.mp hx))
  rw [List.length_range] at l2
  omega
theorem Sf.tr {r u : List Nat} (hs : Sf r u) : Tr r u := by
  intro S s0 h1 h2 x hx
  have b1 : ∀ x, x < r.length → g r x < r.length := fun x hx => g_lt hs.pr hx
  have b2 : ∀ x, x < r.length → g u x < r.length := fun x hx => by have := g_lt hs.pu (i := x) (by rw [hs.eq]; exact hx); rw [hs.eq] at this; exact this
  have hri : RInv r.length (reach r u 0) := bfs_rinv b1 b2 _ _ _ ⟨by simp, by simpa using hs.pos⟩
  have hp : IsP (reach r u 0) := ⟨fun x hx => by rw [hs.all]; exact hri.lt x hx, hri.nd⟩
  have hm := mem_all hp (x := x) (by rw [hs.all]; exact hx)
  have h0 : ∀ y ∈ [0], S y ∧ y < r.length := by
    intro y hy
    obtain rfl : y = 0 := by simpa using hy
    exact ⟨s0, hs.pos⟩
  exact (bfs_ind S (fun x hx h => ⟨h1 x hx h, b1 x hx⟩) (fun x hx h => ⟨h2 x hx h, b2 x hx⟩) _ _ [0] h0 x hm).1
theorem closed_back {p : List Nat} (hp : IsP p) {S : Nat → Prop} (hS : ∀ x, x < p.length → S x → S (g p x)) {x : Nat} (hx : x < p.length) (h : S (g p x)) : S x := by
  obtain ⟨m, h1, _, h3⟩ := period hp hx
  have H : ∀ k, S (itr p k (g p x)) := by
    intro k
    induction k with
    | zero => exact h
    | succ k ih => exact hS _ (itr_lt hp k (g_lt hp hx)) ih
  have e : itr p (m - 1) (g p x) = itr p m x := by
    have := itr_add p (m - 1) 1 x
    rw [show m - 1 + 1 = m by omega] at this
    exact this.symm
  have := H (m - 1)
  rw [e, h3] at this
  exact this
theorem reach_full {r u : List Nat} (hs : Sf r u) {s : Nat} (hb : s < r.length) : RInv r.length (reach r u s) ∧ ∀ x, x < r.length → x ∈ reach r u s := by
  have b1 : ∀ x, x < r.length → g r x < r.length := fun x hx => g_lt hs.pr hx
  have b2 : ∀ x, x < r.length → g u x < r.length := fun x hx => by have := g_lt hs.pu (i := x) (by rw [hs.eq]; exact hx); rw [hs.eq] at this; exact this
  have h0 : RInv r.length [s] := ⟨by simp, by simpa using hb⟩
  have hsh := bfs_shut b1 b2 (r.length + 1) 0 [s] h0 (by simp) (by omega) (fun i hi => by omega)
  have hmem : s ∈ reach r u s := bfs_sub _ _ _ s (by simp)
  refine ⟨bfs_rinv b1 b2 _ _ _ h0, ?_⟩
  have z : (0 : Nat) ∈ reach r u s := by
    apply Classical.byContradiction
    intro hz
    refine hs.tr (fun x => x ∉ reach r u s) hz (fun x hx hn hm => ?_) (fun x hx hn hm => ?_) s hb hmem
    · exact hn (closed_back hs.pr (S := fun x => x ∈ reach r u s) (fun y _ hy => (hsh y hy).1) hx hm)
    · exact hn (closed_back hs.pu (S := fun x => x ∈ reach r u s) (fun y _ hy => (hsh y hy).2) (by rw [hs.eq]; exact hx) hm)
  exact hs.tr (fun x => x ∈ reach r u s) z (fun x _ hx => (hsh x hx).1) (fun x _ hx => (hsh x hx).2)
theorem sf_T {r u : List Nat} (hs : Sf r u) : Sf r (thn (inv r) u) := by
  have h1 : (inv r).length = u.length := by rw [inv_len, hs.eq]
  refine sf_of_tr hs.pr (isP_thn (isP_inv hs.pr) hs.pu h1) hs.le (by rw [thn_len, inv_len]) hs.pos (fun S s0 k1 k2 => hs.tr S s0 k1 (fun x hx hsx => ?_))
  have := k2 (g r x) (g_lt hs.pr hx) (k1 x hx hsx)
  rw [g_thn (by rw [inv_len]; exact g_lt hs.pr hx), g_inv (g_lt hs.pr hx), ix_g hs.pr hx] at this
  exact this
theorem sf_t {r u : List Nat} (hs : Sf r u) : Sf r (thn r u) := by
  have h1 : r.length = u.length := hs.eq.symm
  refine sf_of_tr hs.pr (isP_thn hs.pr hs.pu h1) hs.le (by rw [thn_len]) hs.pos (fun S s0 k1 k2 => hs.tr S s0 k1 (fun y hy hsy => ?_))
  have hx : ix r y < r.length := ix_lt hs.pr hy
  have e : g r (ix r y) = y := g_ix hs.pr hy
  have hsx : S (ix r y) := closed_back hs.pr (S := S) k1 hx (by rw [e]; exact hsy)
  have := k2 _ hx hsx
  rw [g_thn hx, e] at this
  exact this
theorem sf_S {r u : List Nat} (hs : Sf r u) : Sf (inv u) r := by
  have hl : (inv u).length = r.length := by rw [inv_len, hs.eq]
  refine sf_of_tr (isP_inv hs.pu) hs.pr (by rw [hl]; exact hs.le) hl.symm (by rw [hl]; exact hs.pos) (fun S s0 k1 k2 => ?_)
  rw [hl] at k1 k2 ⊢
  refine hs.tr S s0 k2 (fun x hx hsx => ?_)
  have hx' : g u x < u.length := g_lt hs.pu (by rw [hs.eq]; exact hx)
  refine closed_back (isP_inv hs.pu) (S := S) (fun y hy => k1 y (by rw [← hl]; exact hy)) (x := g u x) (by rw [inv_len]; exact hx') ?_
  rw [g_inv hx', ix_g hs.pu (by rw [hs.eq]; exact hx)]
  exact hsx
theorem sf_s {r u : List Nat} (hs : Sf r u) : Sf u (inv r) := by
  refine sf_of_tr hs.pu (isP_inv hs.pr) (by rw [hs.eq]; exact hs.le) (by rw [inv_len, hs.eq]) (by rw [hs.eq]; exact hs.pos) (fun S s0 k1 k2 => ?_)
  rw [hs.eq] at k1 k2 ⊢
  refine hs.tr S s0 (fun x hx hsx => ?_) k1
  have hx' : g r x < r.length := g_lt hs.pr hx
  refine closed_back (isP_inv hs.pr) (S := S) (fun y hy => k2 y (by rw [inv_len] at hy; exact hy)) (x := g r x) (by rw [inv_len]; exact hx') ?_
  rw [g_inv hx', ix_g hs.pr hx]
  exact hsx
end Go.Proofs.Ytcggfjpnfodbaaa.M
end
section
/- Plain mathematics: surfaces that are alike by renaming. No conditions. -/
namespace Go.Proofs.Ytcggfjpnfodbaaa.M
set_option linter.unusedVariables false
set_option linter.unusedSimpArgs false
structure Is (s t : List Nat × List Nat) (f : Nat → Nat) : Prop where
  len : t.1.length = s.1.length
  lt : ∀ x, x < s.1.length → f x < s.1.length
  inj : ∀ x y, x < s.1.length → y < s.1.length → f x = f y → x = y
  r : ∀ x, x < s.1.length → f (g s.1 x) = g t.1 (f x)
  u : ∀ x, x < s.1.length → f (g s.2 x) = g t.2 (f x)
theorem Sf.gr {r u : List Nat} (hs : Sf r u) {x : Nat} (h : x < r.length) : g r x < r.length := g_lt hs.pr h
theorem Sf.gu {r u : List Nat} (hs : Sf r u) {x : Nat} (h : x < r.length) : g u x < r.length := by
  have := g_lt hs.pu (i := x) (by rw [hs.eq]; exact h)
  rw [hs.eq] at this
  exact this
theorem Sf.ir {r u : List Nat} (hs : Sf r u) {x : Nat} (h : x < r.length) : ix r x < r.length := ix_lt hs.pr h
theorem Sf.iu {r u : List Nat} (hs : Sf r u) {x : Nat} (h : x < r.length) : ix u x < r.length := by
  have := ix_lt hs.pu (x := x) (by rw [hs.eq]; exact h)
  rw [hs.eq] at this
  exact this
theorem Is.refl (s : List Nat × List Nat) : Is s s (fun x => x) := ⟨rfl, fun _ h => h, fun _ _ _ _ h => h, fun _ _ => rfl, fun _ _ => rfl⟩
theorem Is.trans {s t v : List Nat × List Nat} {f h : Nat → Nat} (a : Is s t f) (b : Is t v h) : Is s v (fun x => h (f x)) where
  len := b.len.trans a.len
  lt x hx := by have := b.lt (f x) (by rw [a.len]; exact a.lt x hx); rw [a.len] at this; exact this
  inj x y hx hy e := a.inj x y hx hy (b.inj _ _ (by rw [a.len]; exact a.lt x hx) (by rw [a.len]; exact a.lt y hy) e)
  r x hx := by show h (f (g s.1 x)) = _; rw [a.r x hx, b.r _ (by rw [a.len]; exact a.lt x hx)]
  u x hx := by show h (f (g s.2 x)) = _; rw [a.u x hx, b.u _ (by rw [a.len]; exact a.lt x hx)]
def bk (n : Nat) (f : Nat → Nat) (y : Nat) : Nat := ix (tab n f) y
theorem bk_lt {n : Nat} {f : Nat → Nat} (h1 : ∀ x, x < n → f x < n) (h2 : ∀ x y, x < n → y < n → f x = f y → x = y) {y : Nat} (hy : y < n) : bk n f y < n := by
  have := ix_lt (isP_tab h1 h2) (x := y) (by rw [tab_len]; exact hy)
  rw [tab_len] at this
  exact this
theorem f_bk {n : Nat} {f : Nat → Nat} (h1 : ∀ x, x < n → f x < n) (h2 : ∀ x y, x < n → y < n → f x = f y → x = y) {y : Nat} (hy : y < n) : f (bk n f y) = y := by
  have h := g_ix (isP_tab h1 h2) (x := y) (by rw [tab_len]; exact hy)
  have hb : ix (tab n f) y < n := bk_lt h1 h2 hy
  rw [g_tab hb] at h
  exact h
theorem bk_f {n : Nat} {f : Nat → Nat} (h1 : ∀ x, x < n → f x < n) (h2 : ∀ x y, x < n → y < n → f x = f y → x = y) {x : Nat} (hx : x < n) : bk n f (f x) = x :=
  h2 _ _ (bk_lt h1 h2 (h1 x hx)) hx (f_bk h1 h2 (h1 x hx))
theorem Is.symm {s t : List Nat × List Nat} {f : Nat → Nat} (hs : Sf s.1 s.2) (a : Is s t f) : Is t s (bk s.1.length f) where
  len := a.len.symm
  lt y hy := by rw [a.len] at hy ⊢; exact bk_lt a.lt a.inj hy
  inj y z hy hz e := by
    rw [a.len] at hy hz
    rw [← f_bk a.lt a.inj hy, ← f_bk a.lt a.inj hz, e]
  r y hy := by
    rw [a.len] at hy
    have hb := bk_lt a.lt a.inj hy
    have e : g t.1 y = f (g s.1 (bk s.1.length f y)) := by rw [a.r _ hb, f_bk a.lt a.inj hy]
    rw [e, bk_f a.lt a.inj (hs.gr hb)]
  u y hy := by
    rw [a.len] at hy
    have hb := bk_lt a.lt a.inj hy
    have e : g t.2 y = f (g s.2 (bk s.1.length f y)) := by rw [a.u _ hb, f_bk a.lt a.inj hy]
    rw [e, bk_f a.lt a.inj (hs.gu hb)]
theorem Sf.of_is {s t : List Nat × List Nat} {f : Nat → Nat} (hs : Sf s.1 s.2) (a : Is s t f) (p1 : IsP t.1) (p2 : IsP t.2) (hl : t.2.length = t.1.length) : Sf t.1 t.2 := by
  refine sf_of_tr p1 p2 (by rw [a.len]; exact hs.le) hl (by rw [a.len]; exact hs.pos) (fun S s0 k1 k2 y hy => ?_)
  rw [a.len] at k1 k2 hy
  have i0 := bk_lt a.lt a.inj hs.pos
  have h0 : S (f (bk s.1.length f 0)) := by rw [f_bk a.lt a.inj hs.pos]; exact s0
  have hm := (reach_full hs i0).2 (bk s.1.length f y) (bk_lt a.lt a.inj hy)
  have := (bfs_ind (fun x => S (f x)) (n := s.1.length) (fun x hx h => ⟨by rw [a.r x hx]; exact k1 _ (a.lt x hx) h, hs.gr hx⟩) (fun x hx h => ⟨by rw [a.u x hx]; exact k2 _ (a.lt x hx) h, hs.gu hx⟩) _ _ [bk s.1.length f 0] (by intro x hx; obtain rfl : x = bk s.1.length f 0 := (by simpa using hx); exact ⟨h0, i0⟩) _ hm).1
  rw [f_bk a.lt a.inj hy] at this
  exact this
theorem Sf.all_of {r u : List Nat} (hs : Sf r u) {S : Nat → Prop} {i : Nat} (hi : i < r.length) (h0 : S i) (h1 : ∀ x, x < r.length → S x → S (g r x)) (h2 : ∀ x, x < r.length → S x → S (g u x)) : ∀ y, y < r.length → S y := by
  intro y hy
  have hm := (reach_full hs hi).2 y hy
  exact (bfs_ind S (n := r.length) (fun x hx h => ⟨h1 x hx h, hs.gr hx⟩) (fun x hx h => ⟨h2 x hx h, hs.gu hx⟩) _ _ [i] (by intro x hx; obtain rfl : x = i := (by simpa using hx); exact ⟨h0, hi⟩) _ hm).1
theorem Is.ir {s t : List Nat × List Nat} {f : Nat → Nat} (hs : Sf s.1 s.2) (ht : Sf t.1 t.2) (a : Is s t f) {x : Nat} (hx : x < s.1.length) : f (ix s.1 x) = ix t.1 (f x) := by
  have h1 := hs.ir hx
  refine (ix_eq ht.pr (by rw [a.len]; exact a.lt _ h1) ?_).symm
  rw [← a.r _ h1, g_ix hs.pr hx]
theorem Is.iu {s t : List Nat × List Nat} {f : Nat → Nat} (hs : Sf s.1 s.2) (ht : Sf t.1 t.2) (a : Is s t f) {x : Nat} (hx : x < s.1.length) : f (ix s.2 x) = ix t.2 (f x) := by
  have h1 := hs.iu hx
  refine (ix_eq ht.pu (by rw [ht.eq, a.len]; exact a.lt _ h1) ?_).symm
  rw [← a.u _ h1, g_ix hs.pu (by rw [hs.eq]; exact hx)]
end Go.Proofs.Ytcggfjpnfodbaaa.M
end
section
/- The tests of permutations, program and reference, come to one plain test. No conditions. -/
namespace Go.Proofs.Ytcggfjpnfodbaaa.M
set_option linter.unusedVariables false
set_option linter.unusedSimpArgs false
open Go.RowKit Go.Proofs.YtcggfjpnfodbaaaW.PrintWords Go.Proofs.YtcggfjpnfodbaaaW.PrintLast Go.Proofs.YtcggfjpnfodbaaaW.PrintMore Go.Proofs.Ytcggfjpnfodbaaa.A
theorem has_ev (l : List Int) (a : Int) (hl : l.length ≤ 1000000000) : Ev (fun k => spec_l02Has.f k l a) (decide (a ∈ l)) := by
  have H : ∀ d i : Nat, i + d = l.length → Ev (fun k => spec_l02Has.l0 k a l (l.length : Int) (i : Int)) (decide (a ∈ l.drop i)) := by
    intro d
    induction d with
    | zero =>
      intro i h
      refine ev_succ ?_
      have h1 : ¬ ((i : Int) < (l.length : Int)) := by omega
      have e : decide (a ∈ l.drop i) = false := by
        rw [List.drop_of_length_le (by omega)]
        simp
      simp only [spec_l02Has.l0, h1, if_false]
      rw [e]
      exact Ev.now _
    | succ d ih =>
      intro i h
      refine ev_succ ?_
      have hi : i < l.length := by omega
      have h1 : (i : Int) < (l.length : Int) := by omega
      have h2 : (0 : Int) ≤ (i : Int) := by omega
      have h3 := w64s i (by omega)
      have e := List.drop_eq_getElem_cons hi
      rw [← rd_get l i hi] at e
      by_cases hr : rd l (i : Int) = a
      · have e2 : decide (a ∈ l.drop i) = true := by rw [e, hr]; simp
        simp only [spec_l02Has.l0, h1, h2, hr, if_true]
        rw [e2]
        exact Ev.now _
      · have e2 : decide (a ∈ l.drop i) = decide (a ∈ l.drop (i + 1)) := by
          rw [e]
          have : ¬ a = rd l (i : Int) := fun h => hr h.symm
          simp [this]
        simp only [spec_l02Has.l0, h1, h2, h3, hr, if_true, if_false]
        rw [e2]
        exact ih (i + 1) (by omega)
  have := H l.length 0 (by omega)
  simpa [spec_l02Has.f] using this
theorem in_f (x : Int) (n : Nat) (hn : n ≤ 24) : spec_l01In.f x 0 (wrap64 ((n : Int) - 1)) = some (decide (0 ≤ x ∧ x < (n : Int))) := by
  unfold spec_l01In.f
  rw [w64 (by omega) (by omega)]
  by_cases h : x ≥ 0
  · rw [if_pos h]
    congr 1
    rw [Bool.eq_iff_iff, decide_eq_true_iff, decide_eq_true_iff]
    omega
  · rw [if_neg h]
    congr 1
    symm
    rw [decide_eq_false_iff_not]
    omega
theorem spec_permOk (l : List Int) : Ev (fun k => spec_PermOk.f k l) (permB l) := by
  unfold spec_PermOk.f
  by_cases h24 : (l.length : Int) > 24
  · simp only [h24, if_true]
    have : permB l = false := by
      unfold permB
      rw [decide_eq_false_iff_not]
      intro h
      have := h.1
      omega
    rw [this]
    exact Ev.now _
  · simp only [h24, if_false]
    have H : ∀ d i : Nat, i + d = l.length → ∃ b, Ev (fun k => spec_PermOk.l0 k l l (l.length : Int) (i : Int)) b ∧ (b = true ↔ okFrom l i) := by
      intro d
      induction d with
      | zero =>
        intro i h
        refine ⟨true, ev_succ ?_, by simp [okFrom_end l i (by omega)]⟩
        have h1 : ¬ ((i : Int) < (l.length : Int)) := by omega
        simp only [spec_PermOk.l0, h1, if_false]
        exact Ev.now _
      | succ d ih =>
        intro i h
        have hi : i < l.length := by omega
        have h1 : (i : Int) < (l.length : Int) := by omega
        have h1' : (i : Int) ≤ (l.length : Int) := by omega
        have h2 : (0 : Int) ≤ (i : Int) := by omega
        have h3 := w64s i (by omega)
        have hin := in_f (rd l (i : Int)) l.length (by omega)
        by_cases c1 : 0 ≤ rd l (i : Int) ∧ rd l (i : Int) < (l.length : Int)
        · have hh := has_ev (l.take i) (rd l (i : Int)) (by rw [List.length_take]; omega)
          by_cases c2 : rd l (i : Int) ∈ l.take i
          · refine ⟨false, ev_succ ?_, by simpa using okFrom_not hi (fun h => h.2.2 c2)⟩
            simp only [spec_PermOk.l0, h1, h1', h2, hin, c1, if_true, Option.bind_some, decide_true, Int.toNat_natCast, and_self]
            refine Ev.bind hh ?_
            simp only [c2, decide_true, if_true]
            exact Ev.now _
          · obtain ⟨b, i1, i2⟩ := ih (i + 1) (by omega)
            refine ⟨b, ev_succ ?_, by rw [i2]; exact (okFrom_step ⟨c1.1, c1.2, c2⟩).symm⟩
            simp only [spec_PermOk.l0, h1, h1', h2, h3, hin, c1, if_true, Option.bind_some, decide_true, Int.toNat_natCast, and_self]
            refine Ev.bind hh ?_
            simp only [c2, decide_false, Bool.false_eq_true, if_false]
            exact i1
        · refine ⟨false, ev_succ ?_, by simpa using okFrom_not hi (fun h => c1 ⟨h.1, h.2.1⟩)⟩
          simp only [spec_PermOk.l0, h1, h2, hin, c1, if_true, if_false, Option.bind_some, decide_false, Bool.false_eq_true]
          exact Ev.now _
    obtain ⟨b, i1, i2⟩ := H l.length 0 (by omega)
    rw [← permB_of (by omega) i2]
    exact i1
theorem rdOf_nat (s : List Bool) (x : Nat) : rdOf false s (x : Int) = s.getD x false := rfl
theorem getD_set (s : List Bool) (x y : Nat) (h : x < s.length) : (s.set x true).getD y false = if x = y then true else s.getD y false := by
  rw [List.getD_eq_getElem?_getD, List.getD_eq_getElem?_getD, List.getElem?_set]
  by_cases e : x = y
  · subst e
    simp [h]
  · simp [e]
theorem impl_permOk (l : List Int) : Ev (fun k => impl_PermOk.f k l) (permB l) := by
  unfold impl_PermOk.f
  by_cases h24 : (l.length : Int) > 24
  · simp only [h24, if_true]
    have : permB l = false := by
      unfold permB
      rw [decide_eq_false_iff_not]
      intro h
      have := h.1
      omega
    rw [this]
    exact Ev.now _
  · simp only [h24, if_false]
    have H : ∀ (d i : Nat) (s : List Bool), i + d = l.length → s.length = 24 → (∀ x : Nat, x < 24 → (s.getD x false = true ↔ (x : Int) ∈ l.take i)) → ∃ b, Ev (fun k => impl_PermOk.l0 k l s (i : Int)) b ∧ (b = true ↔ okFrom l i) := by
      intro d
      induction d with
      | zero =>
        intro i s h hs hx
        refine ⟨true, ev_succ ?_, by simp [okFrom_end l i (by omega)]⟩
        have h1 : ¬ ((i : Int) < (l.length : Int)) := by omega
        simp only [impl_PermOk.l0, h1, if_false]
        exact Ev.now _
      | succ d ih =>
        intro i s h hs hx
        have hi : i < l.length := by omega
        have h1 : (i : Int) < (l.length : Int) := by omega
        have h2 : (0 : Int) ≤ (i : Int) := by omega
        have h3 := w64s i (by omega)
        by_cases c1 : rd l (i : Int) < 0
        · refine ⟨false, ev_succ ?_, by simpa using okFrom_not hi (fun h => by omega)⟩
          simp only [impl_PermOk.l0, h1, h2, c1, if_true]
          exact Ev.now _
        · by_cases c2 : rd l (i : Int) ≥ (l.length : Int)
          · refine ⟨false, ev_succ ?_, by simpa using okFrom_not hi (fun h => by omega)⟩
            simp only [impl_PermOk.l0, h1, h2, c1, c2, if_true, if_false]
            exact Ev.now _
          · obtain ⟨x, ex⟩ : ∃ x : Nat, rd l (i : Int) = (x : Int) := ⟨(rd l (i : Int)).toNat, by omega⟩
            have hx24 : x < 24 := by omega
            by_cases c3 : s.getD x false = true
            · have hm := (hx x hx24).mp c3
              refine ⟨false, ev_succ ?_, by simpa using okFrom_not hi (fun h => h.2.2 (by rw [ex]; exact hm))⟩
              rw [ex] at c1 c2
              simp only [impl_PermOk.l0, h1, h2, ex, c1, c2, rdOf_nat, c3, if_true, if_false]
              exact Ev.now _
            · have hm : (x : Int) ∉ l.take i := fun h => c3 ((hx x hx24).mpr h)
              obtain ⟨b, i1, i2⟩ := ih (i + 1) (s.set x true) (by omega) (by rw [List.length_set]; exact hs) (fun y hy => by
                rw [getD_set s x y (by omega), take_succ l i hi, ex]
                by_cases e : x = y
                · subst e
                  simp
                · rw [if_neg e, hx y hy]
                  have : ¬ (y : Int) = (x : Int) := by omega
                  simp [this])
              refine ⟨b, ev_succ ?_, by rw [i2]; exact (okFrom_step ⟨by omega, by omega, by rw [ex]; exact hm⟩).symm⟩
              rw [ex] at c1 c2
              simp only [impl_PermOk.l0, h1, h2, h3, ex, c1, c2, rdOf_nat, c3, if_true, if_false, Int.toNat_natCast]
              exact i1
    obtain ⟨b, i1, i2⟩ := H l.length 0 (List.replicate 24 false) (by omega) rfl (fun x hx => by
      have : (List.replicate 24 false).getD x false = false := by
        rw [List.getD_eq_getElem?_getD, List.getElem?_replicate]
        simp [hx]
      rw [this]
      simp)
    rw [← permB_of (by omega) i2]
    exact i1
end Go.Proofs.Ytcggfjpnfodbaaa.M
end
section
/- The tests of surfaces, program and reference, come to one plain test. No conditions. -/
namespace Go.Proofs.Ytcggfjpnfodbaaa.M
set_option linter.unusedVariables false
set_option linter.unusedSimpArgs false
open Go.RowKit Go.Proofs.YtcggfjpnfodbaaaW.PrintWords Go.Proofs.YtcggfjpnfodbaaaW.PrintLast Go.Proofs.YtcggfjpnfodbaaaW.PrintMore Go.Proofs.Ytcggfjpnfodbaaa.A
theorem I_pair (a b : Nat) : ([(a : Int), (b : Int)] : List Int) = I [a, b] := rfl
theorem I_len' (l : List Nat) : ((I l).length : Int) = (l.length : Int) := by rw [I_len]
theorem st1_I (out : List Nat) (x : Nat) : I (st1 out x) = if (x : Int) ∈ I out then I out else I out ++ [(x : Int)] := by
  unfold st1
  by_cases h : x ∈ out
  · rw [if_pos h, if_pos (mem_I.mpr h)]
  · rw [if_neg h, if_neg (fun k => h (mem_I.mp k)), I_snoc]
theorem reach_one (p q out pr : List Nat) (a : Nat) (j : Nat) (hj : j < pr.length) (hp : pr.length ≤ 2) (hl : out.length ≤ 1000) (r : List Int)
    (H : Ev (fun k => spec_l02Reach.l1 k (I p) (I q) (I (st1 out (g pr j))) (a : Int) (I pr) (pr.length : Int) ((j + 1 : Nat) : Int)) r) :
    Ev (fun k => spec_l02Reach.l1 k (I p) (I q) (I out) (a : Int) (I pr) (pr.length : Int) (j : Int)) r := by
  refine ev_succ ?_
  have h1 : (j : Int) < (pr.length : Int) := by omega
  have h2 : (0 : Int) ≤ (j : Int) := by omega
  have h3 := w64s j (by omega)
  have h4 : (I out).length < 17592186044416 := by rw [I_len]; omega
  have hh := has_ev (I out) ((g pr j : Nat) : Int) (by rw [I_len]; omega)
  simp only [spec_l02Reach.l1, h1, h2, h3, h4, rdI, I_len', if_true]
  refine Ev.bind hh ?_
  rw [st1_I] at H
  by_cases hm : ((g pr j : Nat) : Int) ∈ I out
  · rw [if_pos hm] at H
    simp only [hm, decide_true, if_true]
    exact H
  · rw [if_neg hm] at H
    simp only [hm, decide_false, Bool.false_eq_true, if_false]
    exact H
theorem reach_loop {p q : List Nat} (hp : IsP p) (hq : IsP q) (hl : q.length = p.length) (h24 : p.length ≤ 24) (f : Nat) : ∀ (a : Nat) (out : List Nat), RInv p.length out → a ≤ out.length → p.length < f + a →
    Ev (fun k => spec_l02Reach.l0 k (I p) (I q) (I out) (a : Int)) (I (bfs p q f a out)) := by
  induction f with
  | zero =>
    intro a out hr ha hf
    have := hr.le
    omega
  | succ f ih =>
    intro a out hr ha hf
    have hle := hr.le
    refine ev_succ ?_
    by_cases h : a < out.length
    · have h1 : (a : Int) < (out.length : Int) := by omega
      have h2 : (0 : Int) ≤ (a : Int) := by omega
      have hx := hr.g h
      have h3 : ((g out a : Nat) : Int) < (p.length : Int) := by omega
      have h4 : (0 : Int) ≤ ((g out a : Nat) : Int) := by omega
      have h5 : ((g out a : Nat) : Int) < (q.length : Int) := by omega
      have h6 := w64s a (by omega)
      simp only [spec_l02Reach.l0, h1, h2, h3, h4, h5, rdI, I_len', if_true, Option.bind_some, I_pair]
      have r1 := hr.st (g_lt hp hx)
      have r2 := r1.st (x := g q (g out a)) (by have := g_lt hq (i := g out a) (by omega); omega)
      have hb : bfs p q (f + 1) a out = bfs p q f (a + 1) (st1 (st1 out (g p (g out a))) (g q (g out a))) := by
        rw [bfs, if_pos h]
      rw [hb]
      have i1 := ih (a + 1) _ r2 (by have := st1_len out (g p (g out a)); have := st1_len (st1 out (g p (g out a))) (g q (g out a)); omega) (by omega)
      refine reach_one p q out [g p (g out a), g q (g out a)] a 0 (by simp) (by simp) (by omega) _ ?_
      refine reach_one p q _ [g p (g out a), g q (g out a)] a 1 (by simp) (by simp) (by have := r1.le; simp only [g, List.getD_cons_zero] at this ⊢; omega) _ ?_
      refine ev_succ ?_
      have h7 : ¬ (((1 + 1 : Nat) : Int) < (([g p (g out a), g q (g out a)] : List Nat).length : Int)) := by simp
      simp only [spec_l02Reach.l1, h7, h6, if_false]
      exact i1
    · have h1 : ¬ ((a : Int) < (out.length : Int)) := by omega
      have hb : bfs p q (f + 1) a out = out := by rw [bfs, if_neg h]
      rw [hb]
      simp only [spec_l02Reach.l0, h1, I_len', if_false]
      exact Ev.now _
theorem reach_ev {p q : List Nat} (hp : IsP p) (hq : IsP q) (hl : q.length = p.length) (h24 : p.length ≤ 24) (s : Nat) (hs : s < p.length) : Ev (fun k => spec_l02Reach.f k (I p) (I q) (s : Int)) (I (reach p q s)) := by
  unfold spec_l02Reach.f reach
  exact reach_loop hp hq hl h24 (p.length + 1) 0 [s] ⟨by simp, by simpa using hs⟩ (by simp) (by omega)
theorem len_ne_false {r u : List Int} (h : r.length ≠ u.length) : surfB r u = false := by
  unfold surfB
  simp [h]
theorem surfB_mk {r u : List Int} (h1 : permB r = true) (h2 : permB u = true) (h3 : r.length = u.length) (h4 : 0 < r.length) : surfB r u = ((reach (N r) (N u) 0).length == r.length) := by
  unfold surfB
  simp [h1, h2, h3, h4]
  intro _
  omega
theorem spec_trans (r u : List Int) : Ev (fun k => spec_IsTransitive.f k r u) (surfB r u) := by
  unfold spec_IsTransitive.f
  refine Ev.bind (spec_permOk r) ?_
  by_cases h1 : permB r = true
  · simp only [h1, if_true]
    refine Ev.bind (spec_permOk u) ?_
    by_cases h2 : permB u = true
    · simp only [h2, if_true]
      by_cases h3 : (r.length : Int) = (u.length : Int)
      · have h3' : r.length = u.length := by omega
        by_cases h4 : (r.length : Int) > 0
        · have h4' : 0 < r.length := by omega
          rw [surfB_mk h1 h2 h3' h4']
          obtain ⟨p, rfl, a1, a2⟩ := PI_nat (of_decide_eq_true h1)
          obtain ⟨q, rfl, b1, b2⟩ := PI_nat (of_decide_eq_true h2)
          rw [I_len, I_len] at h3'
          rw [I_len] at h4'
          have := reach_ev a1 b1 h3'.symm a2 0 h4'
          simp only [h3, h4, if_true]
          rw [h3] at h4
          simp only [h4, if_true]
          refine Ev.bind this ?_
          rw [N_I, N_I]
          have e : (((I (reach p q 0)).length : Int) == ((I q).length : Int)) = ((reach p q 0).length == (I p).length) := by
            rw [I_len, I_len, I_len, Bool.eq_iff_iff, beq_iff_eq, beq_iff_eq]
            omega
          rw [← h3] at e
          simp only [h3] at e
          rw [← e]
          exact Ev.now _
        · simp only [h3, if_true]
          rw [h3] at h4
          simp only [h4, if_false]
          have : surfB r u = false := by
            unfold surfB
            have : ¬ 0 < r.length := by omega
            simp [this]
          rw [this]
          exact Ev.now _
      · simp only [h3, if_false]
        rw [len_ne_false (by omega)]
        exact Ev.now _
    · have h2' := Bool.eq_false_iff.mpr h2
      simp only [h2', Bool.false_eq_true, if_false]
      have : surfB r u = false := by unfold surfB; simp [h2']
      rw [this]
      exact Ev.now _
  · have h1' := Bool.eq_false_iff.mpr h1
    simp only [h1', Bool.false_eq_true, if_false]
    have : surfB r u = false := by unfold surfB; simp [h1']
    rw [this]
    exact Ev.now _
theorem spec_surf (r u : List Int) : Ev (fun k => spec_SurfaceOk.f k r u) (surfB r u) := by
  unfold spec_SurfaceOk.f
  exact Ev.bind (spec_trans r u) (Ev.now _)
def Marks (n : Nat) (s : List Bool) (out : List Nat) : Prop := s.length = n ∧ ∀ x, x < n → (s.getD x false = true ↔ x ∈ out)
theorem Marks.add {n : Nat} {s : List Bool} {out : List Nat} {x : Nat} (h : Marks n s out) (hx : x < n) : Marks n (s.set x true) (out ++ [x]) := by
  refine ⟨by rw [List.length_set]; exact h.1, fun y hy => ?_⟩
  rw [getD_set s x y (by rw [h.1]; exact hx)]
  by_cases e : x = y
  · subst e
    simp
  · rw [if_neg e, h.2 y hy]
    have : ¬ y = x := fun k => e k.symm
    simp [this]
theorem trans_one (p q out pr : List Nat) (s : List Bool) (a : Nat) (j : Nat) (hj : j < pr.length) (hp : pr.length ≤ 2) (hl : out.length ≤ 1000) (hm : Marks p.length s out) (hx : g pr j < p.length) (r : Bool)
    (H : ∀ s', Marks p.length s' (st1 out (g pr j)) → Ev (fun k => impl_IsTransitive.l1 k (I p) (I q) s' (I (st1 out (g pr j))) (a : Int) (I pr) (pr.length : Int) ((j + 1 : Nat) : Int)) r) :
    Ev (fun k => impl_IsTransitive.l1 k (I p) (I q) s (I out) (a : Int) (I pr) (pr.length : Int) (j : Int)) r := by
  refine ev_succ ?_
  have h1 : (j : Int) < (pr.length : Int) := by omega
  have h2 : (0 : Int) ≤ (j : Int) := by omega
  have h3 := w64s j (by omega)
  have h4 : (I out).length < 17592186044416 := by rw [I_len]; omega
  have h5 : (0 : Int) ≤ ((g pr j : Nat) : Int) := by omega
  have h6 : ((g pr j : Nat) : Int) < (s.length : Int) := by rw [hm.1]; omega
  simp only [impl_IsTransitive.l1, h1, h2, h3, h4, h5, h6, rdI, I_len', rdOf_nat, if_true, Int.toNat_natCast]
  by_cases hin : g pr j ∈ out
  · have hs := (hm.2 _ hx).mpr hin
    have e : st1 out (g pr j) = out := by unfold st1; rw [if_pos hin]
    have := H s (by rw [e]; exact hm)
    rw [e] at this
    simp only [hs, if_true]
    exact this
  · have hs : s.getD (g pr j) false = false := Bool.eq_false_iff.mpr (fun h => hin ((hm.2 _ hx).mp h))
    have e : st1 out (g pr j) = out ++ [g pr j] := by unfold st1; rw [if_neg hin]
    have := H (s.set (g pr j) true) (by rw [e]; exact hm.add hx)
    rw [e, ← I_snoc] at this
    simp only [hs, Bool.false_eq_true, if_false]
    exact this
theorem trans_loop {p q : List Nat} (hp : IsP p) (hq : IsP q) (hl : q.length = p.length) (h24 : p.length ≤ 24) (f : Nat) : ∀ (a : Nat) (out : List Nat) (s : List Bool), RInv p.length out → Marks p.length s out → a ≤ out.length → p.length < f + a →
    Ev (fun k => impl_IsTransitive.l0 k (I p) (I q) s (I out) (a : Int)) ((bfs p q f a out).length == p.length) := by
  induction f with
  | zero =>
    intro a out s hr hm ha hf
    have := hr.le
    omega
  | succ f ih =>
    intro a out s hr hm ha hf
    have hle := hr.le
    refine ev_succ ?_
    by_cases h : a < out.length
    · have h1 : (a : Int) < (out.length : Int) := by omega
      have h2 : (0 : Int) ≤ (a : Int) := by omega
      have hx := hr.g h
      have h3 : ((g out a : Nat) : Int) < (p.length : Int) := by omega
      have h4 : (0 : Int) ≤ ((g out a : Nat) : Int) := by omega
      have h5 : ((g out a : Nat) : Int) < (q.length : Int) := by omega
      have h6 := w64s a (by omega)
      simp only [impl_IsTransitive.l0, h1, h2, h3, h4, h5, rdI, I_len', if_true, Option.bind_some, I_pair]
      have hg1 := g_lt hp hx
      have hg2 : g q (g out a) < p.length := by have := g_lt hq (i := g out a) (by omega); omega
      have r1 := hr.st hg1
      have r2 := r1.st hg2
      have hb : bfs p q (f + 1) a out = bfs p q f (a + 1) (st1 (st1 out (g p (g out a))) (g q (g out a))) := by
        rw [bfs, if_pos h]
      rw [hb]
      refine trans_one p q out [g p (g out a), g q (g out a)] s a 0 (by simp) (by simp) (by omega) hm hg1 _ (fun s1 hm1 => ?_)
      refine trans_one p q _ [g p (g out a), g q (g out a)] s1 a 1 (by simp) (by simp) (by have := r1.le; simp only [g, List.getD_cons_zero] at this ⊢; omega) hm1 hg2 _ (fun s2 hm2 => ?_)
      refine ev_succ ?_
      have h7 : ¬ (((1 + 1 : Nat) : Int) < (([g p (g out a), g q (g out a)] : List Nat).length : Int)) := by simp
      simp only [impl_IsTransitive.l1, h7, h6, if_false]
      exact ih (a + 1) _ s2 r2 hm2 (Nat.le_trans (by omega : a + 1 ≤ out.length) (Nat.le_trans (st1_len _ _) (st1_len _ _))) (by omega)
    · have h1 : ¬ ((a : Int) < (out.length : Int)) := by omega
      have hb : bfs p q (f + 1) a out = out := by rw [bfs, if_neg h]
      rw [hb]
      simp only [impl_IsTransitive.l0, h1, I_len', if_false]
      have e : ((out.length : Int) == (p.length : Int)) = (out.length == p.length) := by
        rw [Bool.eq_iff_iff, beq_iff_eq, beq_iff_eq]
        omega
      rw [e]
      exact Ev.now _
theorem j0_true (r u : List Int) : Ev (fun k => impl_IsTransitive.j0 k r u true) false := by
  refine ev_succ ?_
  simp only [impl_IsTransitive.j0, if_true]
  exact Ev.now _
theorem impl_trans (r u : List Int) : Ev (fun k => impl_IsTransitive.f k r u) (surfB r u) := by
  unfold impl_IsTransitive.f
  refine Ev.bind (impl_permOk r) ?_
  by_cases h1 : permB r = true
  · simp only [h1, if_true]
    refine Ev.bind (impl_permOk u) ?_
    by_cases h2 : permB u = true
    · simp only [h2, if_true]
      by_cases h3 : (r.length : Int) = (u.length : Int)
      · have h3' : r.length = u.length := by omega
        simp only [h3, if_true]
        by_cases h4 : 0 < r.length
        · rw [surfB_mk h1 h2 h3' h4]
          obtain ⟨p, rfl, a1, a2⟩ := PI_nat (of_decide_eq_true h1)
          obtain ⟨q, rfl, b1, b2⟩ := PI_nat (of_decide_eq_true h2)
          rw [I_len, I_len] at h3'
          rw [I_len] at h4
          refine ev_succ ?_
          have e0 : ((q.length : Int) == 0) = false := by rw [beq_eq_false_iff_ne]; omega
          have e1 : (0 : Int) ≤ (p.length : Int) := by omega
          have e2 : ((p.length : Int)).toNat ≤ 281474976710656 := by omega
          have e3 : (0 : Int) < ((List.replicate p.length false).length : Int) := by rw [List.length_replicate]; omega
          simp only [impl_IsTransitive.j0, e0, I_len', e1, e2, Bool.false_eq_true, if_true, if_false, Option.bind_some, Int.toNat_natCast, e3]
          simp only [Int.toNat_natCast] at e2
          simp only [e2, if_true]
          rw [N_I, N_I, I_len]
          refine trans_loop a1 b1 h3'.symm a2 (p.length + 1) 0 [0] _ ⟨by simp, by simpa using h4⟩ ?_ (by simp) (by omega)
          refine ⟨by simp, fun x hx => ?_⟩
          have : (0 : Int).toNat = 0 := rfl
          rw [this, getD_set _ 0 x (by simp; omega)]
          by_cases e : 0 = x
          · subst e
            simp
          · rw [if_neg e]
            have h0 : ¬ x = 0 := fun h => e h.symm
            have : (List.replicate p.length false).getD x false = false := by
              rw [List.getD_eq_getElem?_getD, List.getElem?_replicate]
              simp [hx]
            rw [this]
            simp [h0]
        · have e0 : ((u.length : Int) == 0) = true := by rw [beq_iff_eq]; omega
          have : surfB r u = false := by unfold surfB; simp [h4]
          rw [this]
          simp only [e0]
          exact j0_true r u
      · simp only [h3, if_false]
        rw [len_ne_false (by omega)]
        exact j0_true r u
    · have h2' := Bool.eq_false_iff.mpr h2
      simp only [h2', Bool.false_eq_true, if_false]
      have : surfB r u = false := by unfold surfB; simp [h2']
      rw [this]
      exact j0_true r u
  · have h1' := Bool.eq_false_iff.mpr h1
    simp only [h1', Bool.false_eq_true, if_false]
    have : surfB r u = false := by unfold surfB; simp [h1']
    rw [this]
    exact j0_true r u
theorem impl_surf (r u : List Int) : Ev (fun k => impl_SurfaceOk.f k r u) (surfB r u) := by
  unfold impl_SurfaceOk.f
  exact Ev.bind (impl_trans r u) (Ev.now _)
end Go.Proofs.Ytcggfjpnfodbaaa.M
end
