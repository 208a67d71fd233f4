/- Lemmas for the row FnExactIsFullGroup: the program's functions told as plain functions, and plain mathematics. No conditions. -/
import Derived.MapKept
import Derived.Test.YtcggfjpnfodbaaaQFnExactIsFullGroup1
section
namespace Go.Proofs.Ytcggfjpnfodbaaa.A
open Go.RowKit Go.Proofs.YtcggfjpnfodbaaaW.PrintWords Go.Proofs.YtcggfjpnfodbaaaW.PrintLast Go.Proofs.YtcggfjpnfodbaaaW.PrintMore
attribute [local go_sem] max2_int min2_int max_two min_two max_three min_three max_four min_four
set_option linter.unusedVariables false
set_option linter.unusedSimpArgs false
def spec_l05Unshear.f (k : Nat) (l0_0 : List Int) (l0_1 : List Int) : Option (List Int × List Int) := (some (([] : List Int) : List Int)).bind fun y793 => (if y793.length + l0_0.length < 17592186044416 then ((spec_l02Then.f k l0_0 l0_1).bind fun t799 => (some ((y793 ++ l0_0), t799))) else (none))
theorem spec_l05Unshear.mono : ∀ a0 a1 k, LeO (spec_l05Unshear.f k a0 a1) (spec_l05Unshear.f (k + 1) a0 a1) := by
  intro a0 a1 k
  unfold spec_l05Unshear.f
  repeat' first|exact spec_l02Then.mono _ _ _|exact lo_|refine LeO.ite ?_ ?_|refine LeO.bind ?_ (fun _ => ?_)
def spec_l05Unshear.T1 : Bool × List (List Nat × List Nat) := (true, [([], []), ([], []), ([1], [1]), ([0, 2], [0, 2]), ([], []), ([4], [4]), ([], []), ([6], [6]), ([5, 7, 3], [5, 7]), ([3, 8], [3, 8]), ([9, 8, 0, 1, 2, 3, 4, 5, 6, 7, 8, 9], [9])])
def spec_l05Unshear.B1 : List Nat := [0, 0, 2, 7, 0, 16, 0, 64, 255, 511, 1023]
theorem spec_l05Unshear.tab1 : rtab .any (opsOf Try.f125 1) = spec_l05Unshear.T1 := by kernel_rfl
theorem spec_l05Unshear.bits1 : waitsOk spec_l05Unshear.T1.2 spec_l05Unshear.B1 = true := by kernel_rfl
set_option maxHeartbeats 8000000 in
set_option maxRecDepth 100000 in
theorem spec_l05Unshear.calls (k : Nat) (A0_0 : Option Addr) (c0_0 : Nat) (l0_0 : List Int) (A0_1 : Option Addr) (c0_1 : Nat) (l0_1 : List Int) (r1 : List Int) (r2 : List Int) (w : World) (hr0_0 : Kd.C (Kd.int .i64) w A0_0 l0_0.length l0_0) (hc0_0 : l0_0.length ≤ c0_0) (hr0_1 : Kd.C (Kd.int .i64) w A0_1 l0_1.length l0_1) (hc0_1 : l0_1.length ≤ c0_1) (h : spec_l05Unshear.f k l0_0 l0_1 = some (r1, r2)) :
    Calls Try.prog 125 #[.agg #[.slice A0_0 l0_0.length c0_0, .slice A0_1 l0_1.length c0_1]] w fun e w' => ∃ v0_ v1_ : Value, e = .returned (.agg #[v0_, v1_]) ∧ Kd.R (Kd.int .i64) 3 w' w.heap.size (fun k_ => some k_ ≠ (v1_ : Value).ownBlock) v0_ r1 ∧ Kd.R (Kd.int .i64) 3 w' w.heap.size (fun k_ => some k_ ≠ (v0_ : Value).ownBlock) v1_ r2 ∧ Below w.heap.size w w' := by
  have hu25 := Try.underlying25
  have HR0_0 := Aside0.mk hr0_0
  have HC0_0 := Aside0.mk hc0_0
  clear hr0_0 hc0_0
  have HR0_1 := Aside0.mk hr0_1
  have HC0_1 := Aside0.mk hc0_1
  clear hr0_1 hc0_1
  have HB := Aside0.mk (Below.refl w.heap.size w)
  have H := h
  unfold spec_l05Unshear.f at H
  clear h
  obtain ⟨y793, hy793⟩ : ∃ y_ : List Int, y_ = (([] : List Int)) := ⟨_, rfl⟩
  replace H : (if y793.length + l0_0.length < 17592186044416 then ((spec_l02Then.f k l0_0 l0_1).bind fun t799 => (some ((y793 ++ l0_0), t799))) else (none)) = some (r1, r2) := by first | (rw [hy793]; exact H) | exact H
  have Ny793 := Aside0.mk hy793
  clear hy793
  have c2 := cp_ H
  replace H := ca_ H
  have LMc2 := Aside0.mk c2
  clear c2
  obtain ⟨y796, hy796⟩ : ∃ y_ : List Int, y_ = (y793 ++ l0_0) := ⟨_, rfl⟩
  replace H : ((spec_l02Then.f k l0_0 l0_1).bind fun t799 => (some (y796, t799))) = some (r1, r2) := by first | (rw [hy796]; exact H) | exact H
  have Ny796 := Aside0.mk hy796
  clear hy796
  obtain ⟨t799, A3, H⟩ := bi_ H
  simp only [Option.some.injEq, Prod.mk.injEq] at H
  obtain ⟨rfl, rfl⟩ := H
  go_enter Try.func125, Try.ntmps125
  try go_wp2_with (first | ((with_reducible refine gate_dst (N := 1) rfl ?_); refine bx_ 1 #[.slice A0_0 l0_0.length c0_0, .slice A0_1 l0_1.length c0_1] 25 ?_; intro gb791 hg w4 hbox hb; have BK791 := Aside0.mk hbox; have GW791 := gw_ w hg; have GE791 := GW791; replace HB := b1_ hb; clear hb hbox hg) | ((with_reducible refine gate_dst (N := 2) rfl ?_); refine bx_ 2 #[.slice none 0 0, .slice none 0 0] 25 ?_; intro gb792 hg w5 hbox hb; have BK792 := Aside0.mk hbox; have GW792 := gw_ w hg; have GE792 := GW792; replace HB := b1_ hb; have NB791_792 := gN_ BK791 hg; have NB792_791 := gP_ BK791 hg; replace BK791 := bb_ BK791 hb; clear hb hbox hg))
  replace BK791 := Aside0.mk (blk_drew BK791.out)
  replace BK792 := Aside0.mk (blk_drew BK792.out)
  replace HB := Aside0.mk (below_drew1 HB.out)
  refine start_ (n := 11) (S := fun w' => w'.cell? ⟨gb791, 0, none⟩ = some (.slice A0_0 l0_0.length c0_0) ∧ w'.cell? ⟨gb791, 1, none⟩ = some (.slice A0_1 l0_1.length c0_1)) (ds := []) (bl_ 11 0) (by kernel_rfl) rfl (by kernel_rfl) ⟨cz0_ BK791, cz1_ BK791⟩ (fun hHeld => ?_); refine with_tabW spec_l05Unshear.tab1 spec_l05Unshear.bits1 (fun HT_ HW_ => ?_)
  generalize w5.drew = w6 at BK791 BK792 HB hHeld ⊢
  refine pu_ 1 (some 4) (bl_ 11 2) HT_ ?_
  refine pu_ 4 (some 7) (bl_ 11 18) HT_ ?_
  refine pu_ 6 (some 9) (bl_ 11 82) HT_ ?_
  refine ta_ 2 (some 5) (bl_ 11 86) HT_ HW_ hHeld ?_
  refine ta_ 5 (some 8) (bl_ 11 118) HT_ HW_ hHeld ?_
  refine ta_ 7 (some 10) (bl_ 11 246) HT_ HW_ hHeld ?_
  refine on_ 0 (some 3) (bl_ 11 247) HT_ (fun K hK => ?_)
  refine Kd.R_lit_step (Kd.int .i64) _ 3 ?hg (N := 3) ?hd (xs := ([] : List Int)) (inner := []) (ok := fun _ => True) (okp := fun _ => True) ?hr ?hp (fun _ hk => hk) trivial (Below.refl _ _) (Nat.le_refl _) (by simp) ?_; (case hd => rfl); (case hg => rfl); (case hr => first | (go_simp; done) | (go_simp; rfl)); (case hp => exact (Reps.none _ _))
  intro v794 w7 ho8 hb hg_ hnew_
  clear hg_ hnew_
  (first | rw [← Ny793.out] at ho8 | (simp only [Int.reduceToNat] at ho8; rw [← Ny793.out] at ho8))
  have HO795 := rl_ w ho8
  replace BK791 := bb_ BK791 hb
  replace BK792 := bb_ BK792 hb
  replace HB := b1_ hb
  clear hb ho8
  refine hK.out _ _ ⟨cz0_ BK791, cz1_ BK791⟩ (fun hHeld => ?_)
  clear hK K
  refine no_ (some 3) ?_
  refine on_ 3 (some 6) (bl_ 11 255) HT_ (fun K hK => ?_)
  refine Kd.R_append_rows_step (Kd.int .i64) (w0 := w) w.heap.size (by rfl) (.tmp 3) (.tmp 5) 23 3 (.int .i64 0) 8 rfl Try.underlying23 info3 rfl (by decide) (by omega) v794 y793 l0_0 _ _ _ (fun _ => True) (fun _ => False) rfl rfl ?aO ?aR (fun _ _ h => h) (fun _ h => h.elim) ?aF ?aB ?aS ?aL ?_
  (case aR => exact cb_ HR0_0)
  (case aB => exact hB_)
  (case aF => exact (fun _ _ => trivial))
  (case aO => exact (rr_ HO795))
  (case aS => exact (below_size hB_))
  (case aL => have := LMc2.out; omega)
  intro v797 w9 ho hb hg hat
  rw [← Ny796.out] at ho
  replace BK791 := Aside0.mk (blk_grown (kk_ BK791) hg (Kd.R_ne HO795.out BK791.out (by decide)))
  replace BK792 := Aside0.mk (blk_grown (kk_ BK792) hg (Kd.R_ne HO795.out BK792.out (by decide)))
  replace HB := Aside0.mk hb
  have HO798 := Aside0.mk ho
  clear HO795
  clear ho hb hg hat
  refine hK.out _ _ ⟨cz0_ BK791, cz1_ BK791⟩ (fun hHeld => ?_)
  clear hK K
  refine no_ (some 6) ?_
  refine on_ 8 (some 11) (bl_ 11 511) HT_ (fun K hK => ?_)
  refine gO_ Try.func154 #[.slice A0_0 l0_0.length c0_0, .slice A0_1 l0_1.length c0_1] (by rfl) rfl rfl qa_ ?_
  with_reducible refine (spec_l02Then.calls k _ _ l0_0 _ _ l0_1 t799 _ (cb_ HR0_0) HC0_0.out (cb_ HR0_1) HC0_1.out A3.out).mono ?_
  rintro e w10 ⟨v800, rfl, ho0, hb⟩
  refine ⟨_, rfl, ?_⟩
  have HO801 := Aside0.mk (Kd.R_lower (Kd.R_new' ho0 (Kd.R_lt (rr_ HO798))) (below_size hB_))
  replace HO798 := Aside0.mk (Kd.R_elder' (rr_ HO798) (Kd.R_base ho0) hb)
  replace BK791 := bb_ BK791 hb
  replace BK792 := bb_ BK792 hb
  replace HB := b1_ hb
  clear hb ho0
  obtain ⟨Ao11, co11, eo11⟩ := Kd.R_slice HO801.out
  (first | subst eo11 | (injection eo11 with f1_ f2_ f3_; have f4_ := f1_.symm; have f5_ := f3_.symm; clear f1_ f2_ f3_; subst f4_; subst f5_))
  obtain ⟨Ao12, co12, eo12⟩ := Kd.R_slice HO798.out
  (first | subst eo12 | (injection eo12 with f1_ f2_ f3_; have f4_ := f1_.symm; have f5_ := f3_.symm; clear f1_ f2_ f3_; subst f4_; subst f5_))
  refine hK.out _ _ ⟨cz0_ BK791, cz1_ BK791⟩ (fun hHeld => ?_)
  clear hK K
  refine no_ (some 11) ?_
  refine pu_ 9 (some 12) (bl_ 11 1023) HT_ ?_
  refine on_ 10 (none) (bl_ 11 2047) HT_ (fun K hK => ?_)
  have hs13 : w10.cell? ⟨gb792, 0, none⟩ = some (.slice none 0 0) := cz0_ BK792
  have hfs13 := blk_frozen BK792.out 0
  have hns13_0 := NB791_792.out
  have hms13_0 := NB792_791.out
  have hs14 : w10.cell? ⟨gb792, 1, none⟩ = some (.slice none 0 0) := cz1_ BK792
  have hfs14 := blk_frozen BK792.out 1
  have hns14_0 := NB791_792.out
  have hms14_0 := NB792_791.out
  refine skip_ (w1 := ?_) (by rfl) rfl ?_ ?_
  rotate_left
  · go_simp
    rfl
  refine hK.out _ _ ⟨((cell_far (p := ⟨gb792, _, none⟩) NB791_792.out _).trans (((cell_far (p := ⟨gb792, _, none⟩) NB791_792.out _).trans (hHeld.1)))), ((cell_far (p := ⟨gb792, _, none⟩) NB791_792.out _).trans (((cell_far (p := ⟨gb792, _, none⟩) NB791_792.out _).trans (hHeld.2))))⟩ (fun hHeld => ?_)
  clear hK K
  refine done_ (done_of HT_.out (by kernel_rfl)) ?_
  try go_wp2
  refine bodyPost_ret (results_cell_row rfl _ _ gb792 25 #[.slice Ao12 y796.length co12, .slice Ao11 t799.length co11] (0, 0) _ rfl qp_ Try.underlying25 rfl (by kernel_rfl)) rfl ?_
  exact ⟨_, _, qb_, (rw_ (Kd.R_mono (fa_ HO798 BK792) (fun _ hk => hk.2))), (rw_ (Kd.R_mono (fa_ HO801 BK792) (fun _ hk => hk.2))), hB_⟩
end Go.Proofs.Ytcggfjpnfodbaaa.A
end
section
namespace Go.Proofs.Ytcggfjpnfodbaaa.A
open Go.RowKit Go.Proofs.YtcggfjpnfodbaaaW.PrintWords Go.Proofs.YtcggfjpnfodbaaaW.PrintLast Go.Proofs.YtcggfjpnfodbaaaW.PrintMore
attribute [local go_sem] max2_int min2_int max_two min_two max_three min_three max_four min_four
set_option linter.unusedVariables false
set_option linter.unusedSimpArgs false
def spec_l05Turn.f (k : Nat) (l0_0 : List Int) (l0_1 : List Int) : Option (List Int × List Int) := (spec_l02Inverse.f k l0_1).bind fun t804 => ((some (([] : List Int) : List Int)).bind fun y807 => (if y807.length + l0_0.length < 17592186044416 then (some (t804, (y807 ++ l0_0))) else (none)))
theorem spec_l05Turn.mono : ∀ a0 a1 k, LeO (spec_l05Turn.f k a0 a1) (spec_l05Turn.f (k + 1) a0 a1) := by
  intro a0 a1 k
  unfold spec_l05Turn.f
  repeat' first|exact spec_l02Inverse.mono _ _|exact lo_|refine LeO.ite ?_ ?_|refine LeO.bind ?_ (fun _ => ?_)
def spec_l05Turn.T1 : Bool × List (List Nat × List Nat) := (true, [([], []), ([0], [0]), ([1], [1]), ([], []), ([], []), ([4], [4]), ([3, 5, 2], [3, 5]), ([2, 6], [2, 6]), ([7, 6, 0, 1, 2, 3, 4, 5, 6, 7], [7])])
def spec_l05Turn.B1 : List Nat := [0, 1, 3, 0, 0, 16, 63, 127, 255]
theorem spec_l05Turn.tab1 : rtab .any (opsOf Try.f126 1) = spec_l05Turn.T1 := by kernel_rfl
theorem spec_l05Turn.bits1 : waitsOk spec_l05Turn.T1.2 spec_l05Turn.B1 = true := by kernel_rfl
set_option maxHeartbeats 8000000 in
set_option maxRecDepth 100000 in
theorem spec_l05Turn.calls (k : Nat) (A0_0 : Option Addr) (c0_0 : Nat) (l0_0 : List Int) (A0_1 : Option Addr) (c0_1 : Nat) (l0_1 : List Int) (r1 : List Int) (r2 : List Int) (w : World) (hr0_0 : Kd.C (Kd.int .i64) w A0_0 l0_0.length l0_0) (hc0_0 : l0_0.length ≤ c0_0) (hr0_1 : Kd.C (Kd.int .i64) w A0_1 l0_1.length l0_1) (hc0_1 : l0_1.length ≤ c0_1) (h : spec_l05Turn.f k l0_0 l0_1 = some (r1, r2)) :
    Calls Try.prog 126 #[.agg #[.slice A0_0 l0_0.length c0_0, .slice A0_1 l0_1.length c0_1]] w fun e w' => ∃ v0_ v1_ : Value, e = .returned (.agg #[v0_, v1_]) ∧ Kd.R (Kd.int .i64) 3 w' w.heap.size (fun k_ => some k_ ≠ (v1_ : Value).ownBlock) v0_ r1 ∧ Kd.R (Kd.int .i64) 3 w' w.heap.size (fun k_ => some k_ ≠ (v0_ : Value).ownBlock) v1_ r2 ∧ Below w.heap.size w w' := by
  have hu25 := Try.underlying25
  have HR0_0 := Aside0.mk hr0_0
  have HC0_0 := Aside0.mk hc0_0
  clear hr0_0 hc0_0
  have HR0_1 := Aside0.mk hr0_1
  have HC0_1 := Aside0.mk hc0_1
  clear hr0_1 hc0_1
  have HB := Aside0.mk (Below.refl w.heap.size w)
  have H := h
  unfold spec_l05Turn.f at H
  clear h
  obtain ⟨t804, A2, H⟩ := bi_ H
  obtain ⟨y807, hy807⟩ : ∃ y_ : List Int, y_ = (([] : List Int)) := ⟨_, rfl⟩
  replace H : (if y807.length + l0_0.length < 17592186044416 then (some (t804, (y807 ++ l0_0))) else (none)) = some (r1, r2) := by first | (rw [hy807]; exact H) | exact H
  have Ny807 := Aside0.mk hy807
  clear hy807
  have c3 := cp_ H
  replace H := ca_ H
  have LMc3 := Aside0.mk c3
  clear c3
  obtain ⟨y810, hy810⟩ : ∃ y_ : List Int, y_ = (y807 ++ l0_0) := ⟨_, rfl⟩
  replace H : (some (t804, y810)) = some (r1, r2) := by first | (rw [hy810]; exact H) | exact H
  have Ny810 := Aside0.mk hy810
  clear hy810
  simp only [Option.some.injEq, Prod.mk.injEq] at H
  obtain ⟨rfl, rfl⟩ := H
  go_enter Try.func126, Try.ntmps126
  try go_wp2_with (first | ((with_reducible refine gate_dst (N := 1) rfl ?_); refine bx_ 1 #[.slice A0_0 l0_0.length c0_0, .slice A0_1 l0_1.length c0_1] 25 ?_; intro gb802 hg w4 hbox hb; have BK802 := Aside0.mk hbox; have GW802 := gw_ w hg; have GE802 := GW802; replace HB := b1_ hb; clear hb hbox hg) | ((with_reducible refine gate_dst (N := 2) rfl ?_); refine bx_ 2 #[.slice none 0 0, .slice none 0 0] 25 ?_; intro gb803 hg w5 hbox hb; have BK803 := Aside0.mk hbox; have GW803 := gw_ w hg; have GE803 := GW803; replace HB := b1_ hb; have NB802_803 := gN_ BK802 hg; have NB803_802 := gP_ BK802 hg; replace BK802 := bb_ BK802 hb; clear hb hbox hg))
  replace BK802 := Aside0.mk (blk_drew BK802.out)
  replace BK803 := Aside0.mk (blk_drew BK803.out)
  replace HB := Aside0.mk (below_drew1 HB.out)
  refine start_ (n := 9) (S := fun w' => w'.cell? ⟨gb802, 0, none⟩ = some (.slice A0_0 l0_0.length c0_0) ∧ w'.cell? ⟨gb802, 1, none⟩ = some (.slice A0_1 l0_1.length c0_1)) (ds := []) (bl_ 9 0) (by kernel_rfl) rfl (by kernel_rfl) ⟨cz0_ BK802, cz1_ BK802⟩ (fun hHeld => ?_); refine with_tabW spec_l05Turn.tab1 spec_l05Turn.bits1 (fun HT_ HW_ => ?_)
  generalize w5.drew = w6 at BK802 BK803 HB hHeld ⊢
  refine pu_ 0 (some 3) (bl_ 9 1) HT_ ?_
  refine pu_ 4 (some 7) (bl_ 9 17) HT_ ?_
  refine ta_ 1 (some 4) (bl_ 9 19) HT_ HW_ hHeld ?_
  refine ta_ 5 (some 8) (bl_ 9 51) HT_ HW_ hHeld ?_
  refine join_ (σ := Value × Value) 3 (bl_ 9 63) (fun s_ => [(5, s_.1), (6, s_.2)]) (fun s_ w' => (w'.cell? ⟨gb802, 0, none⟩ = some (.slice A0_0 l0_0.length c0_0) ∧ w'.cell? ⟨gb802, 1, none⟩ = some (.slice A0_1 l0_1.length c0_1)) ∧ (Kd.R (Kd.int .i64) 3 w' w.heap.size (fun k_ => some k_ ≠ (s_.2 : Value).ownBlock) s_.1 t804) ∧ (Kd.R (Kd.int .i64) 3 w' w.heap.size (fun k_ => some k_ ≠ (s_.1 : Value).ownBlock) s_.2 y807) ∧ (w'.heap[gb802]? = some (.cells #[.slice A0_0 l0_0.length c0_0, .slice A0_1 l0_1.length c0_1] 25 (0, 0))) ∧ (w'.heap[gb803]? = some (.cells #[.slice none 0 0, .slice none 0 0] 25 (0, 0))) ∧ (Below w.heap.size w w')) ?_ ?_
  rotate_left
  · intro hCont
    refine two_ (i := 2) (j := 3) (Ni := some 5) (Nj := some 6) (bl_ 9 55) (bl_ 9 59) rfl rfl rfl rfl (two_of HT_.out (by kernel_rfl)) (by decide) (by decide) (fun K hK => ?_) (fun K hK => ?_)
    · skip
      refine gO_ Try.func150 #[.slice A0_1 l0_1.length c0_1] (by rfl) rfl rfl qa_ ?_
      with_reducible refine (spec_l02Inverse.calls k _ _ l0_1 t804 _ (cb_ HR0_1) HC0_1.out A2.out).mono ?_
      rintro e w7 ⟨v805, rfl, ho0, hb⟩
      refine ⟨_, rfl, ?_⟩
      have HO806 := rl_ w ho0
      replace BK802 := bb_ BK802 hb
      replace BK803 := bb_ BK803 hb
      replace HB := b1_ hb
      clear hb ho0
      refine hK.out _ _ ⟨cz0_ BK802, cz1_ BK802⟩ (fun hHeld => ?_)
      clear hK K
      refine no_ (some 5) ?_
      refine on_ 3 (some 6) (bl_ 9 63) HT_ (fun K hK => ?_)
      refine Kd.R_lit_step (Kd.int .i64) _ 3 ?hg (N := 6) ?hd (xs := ([] : List Int)) (inner := []) (ok := fun _ => True) (okp := fun _ => True) ?hr ?hp (fun _ hk => hk) trivial (Below.refl _ _) (Nat.le_refl _) (by simp) ?_; (case hd => rfl); (case hg => rfl); (case hr => first | (go_simp; done) | (go_simp; rfl)); (case hp => exact (Reps.none _ _))
      intro v808 w8 ho9 hb hg_ hnew_
      clear hg_ hnew_
      (first | rw [← Ny807.out] at ho9 | (simp only [Int.reduceToNat] at ho9; rw [← Ny807.out] at ho9))
      have HO809 := Aside0.mk (Kd.R_lower (Kd.R_new' ho9 (Kd.R_lt (rr_ HO806))) (below_size hB_))
      replace HO806 := Aside0.mk (Kd.R_elder' (rr_ HO806) (Kd.R_base ho9) hb)
      replace BK802 := bb_ BK802 hb
      replace BK803 := bb_ BK803 hb
      replace HB := b1_ hb
      clear hb ho9
      refine hK.out _ _ ⟨cz0_ BK802, cz1_ BK802⟩ (fun hHeld => ?_)
      clear hK K
      refine no_ (some 6) ?_
      exact norm_ (by simp only [putAll, Act.put, List.setIfInBounds_toArray, List.set_cons_zero, List.set_cons_succ]) (hCont (v805, v808) _ ⟨hHeld, (rw_ (Kd.R_mono HO806.out (fun _ hk => hk.2))), (rw_ (Kd.R_mono HO809.out (fun _ hk => hk.2))), (kk_ BK802), (kk_ BK803), hB_⟩)
    · skip
      refine Kd.R_lit_step (Kd.int .i64) _ 3 ?hg (N := 6) ?hd (xs := ([] : List Int)) (inner := []) (ok := fun _ => True) (okp := fun _ => True) ?hr ?hp (fun _ hk => hk) trivial (Below.refl _ _) (Nat.le_refl _) (by simp) ?_; (case hd => rfl); (case hg => rfl); (case hr => first | (go_simp; done) | (go_simp; rfl)); (case hp => exact (Reps.none _ _))
      intro v808 w7 ho8 hb hg_ hnew_
      clear hg_ hnew_
      (first | rw [← Ny807.out] at ho8 | (simp only [Int.reduceToNat] at ho8; rw [← Ny807.out] at ho8))
      have HO809 := rl_ w ho8
      replace BK802 := bb_ BK802 hb
      replace BK803 := bb_ BK803 hb
      replace HB := b1_ hb
      clear hb ho8
      refine hK.out _ _ ⟨cz0_ BK802, cz1_ BK802⟩ (fun hHeld => ?_)
      clear hK K
      refine no_ (some 6) ?_
      refine on_ 2 (some 5) (bl_ 9 63) HT_ (fun K hK => ?_)
      refine gO_ Try.func150 #[.slice A0_1 l0_1.length c0_1] (by rfl) rfl rfl qa_ ?_
      with_reducible refine (spec_l02Inverse.calls k _ _ l0_1 t804 _ (cb_ HR0_1) HC0_1.out A2.out).mono ?_
      rintro e w9 ⟨v805, rfl, ho0, hb⟩
      refine ⟨_, rfl, ?_⟩
      have HO806 := Aside0.mk (Kd.R_lower (Kd.R_new' ho0 (Kd.R_lt (rr_ HO809))) (below_size hB_))
      replace HO809 := Aside0.mk (Kd.R_elder' (rr_ HO809) (Kd.R_base ho0) hb)
      replace BK802 := bb_ BK802 hb
      replace BK803 := bb_ BK803 hb
      replace HB := b1_ hb
      clear hb ho0
      refine hK.out _ _ ⟨cz0_ BK802, cz1_ BK802⟩ (fun hHeld => ?_)
      clear hK K
      refine no_ (some 5) ?_
      exact norm_ (by simp only [putAll, Act.put, List.setIfInBounds_toArray, List.set_cons_zero, List.set_cons_succ]) (hCont (v805, v808) _ ⟨hHeld, (rw_ (Kd.R_mono HO806.out (fun _ hk => hk.2))), (rw_ (Kd.R_mono HO809.out (fun _ hk => hk.2))), (kk_ BK802), (kk_ BK803), hB_⟩)
  rintro ⟨v805, v808⟩ w10 ⟨hS_, h0_, h1_, h2_, h3_, h4_⟩
  have n0_ : Aside0 (Kd.R (Kd.int .i64) 3 w10 w.heap.size (fun k_ => some k_ ≠ (v808 : Value).ownBlock) v805 t804) := ⟨h0_⟩
  have n1_ : Aside0 (Kd.R (Kd.int .i64) 3 w10 w.heap.size (fun k_ => some k_ ≠ (v805 : Value).ownBlock) v808 y807) := ⟨h1_⟩
  have n2_ : Aside0 (w10.heap[gb802]? = some (.cells #[.slice A0_0 l0_0.length c0_0, .slice A0_1 l0_1.length c0_1] 25 (0, 0))) := ⟨h2_⟩
  have n3_ : Aside0 (w10.heap[gb803]? = some (.cells #[.slice none 0 0, .slice none 0 0] 25 (0, 0))) := ⟨h3_⟩
  have n4_ : Aside0 (Below w.heap.size w w10) := ⟨h4_⟩
  clear BK802
  clear BK803
  clear HB
  clear h0_ h1_ h2_ h3_ h4_
  have HO806 := n0_
  have HO809 := n1_
  have BK802 := n2_
  have BK803 := n3_
  have HB := n4_
  clear n0_ n1_ n2_ n3_ n4_
  have hHeld : w10.cell? ⟨gb802, 0, none⟩ = some (.slice A0_0 l0_0.length c0_0) ∧ w10.cell? ⟨gb802, 1, none⟩ = some (.slice A0_1 l0_1.length c0_1) := hS_
  refine norm_ (a' := ?_) ?_ ?_
  rotate_left
  · simp only [putAll, Act.put, List.setIfInBounds_toArray, List.set_cons_zero, List.set_cons_succ]
    rfl
  refine on_ 6 (some 9) (bl_ 9 127) HT_ (fun K hK => ?_)
  refine Kd.R_append_rows_step (Kd.int .i64) (w0 := w) w.heap.size (by rfl) (.tmp 6) (.tmp 8) 23 3 (.int .i64 0) 8 rfl Try.underlying23 info3 rfl (by decide) (by omega) v808 y807 l0_0 _ _ _ (fun k_ => some k_ ≠ (v805 : Value).ownBlock) (fun _ => False) rfl rfl ?aO ?aR (fun _ _ h => h) (fun _ h => h.elim) ?aF ?aB ?aS ?aL ?_
  (case aR => exact cb_ HR0_0)
  (case aB => exact hB_)
  (case aF => exact (fun k_ hk => Kd.fresh' (Kd.R_lt (rr_ HO806)) k_ hk))
  (case aO => exact (rr_ HO809))
  (case aS => exact (below_size hB_))
  (case aL => have := LMc3.out; omega)
  intro v811 w11 ho hb hg hat
  rw [← Ny810.out] at ho
  replace BK802 := Aside0.mk (blk_grown (kk_ BK802) hg (Kd.R_ne HO809.out BK802.out (by decide)))
  replace BK803 := Aside0.mk (blk_grown (kk_ BK803) hg (Kd.R_ne HO809.out BK803.out (by decide)))
  replace HO806 := Aside0.mk (Kd.R_after (ok := (fun _ => True)) (rw_ (Kd.R_mono HO806.out (fun _ hk => ⟨trivial, hk⟩))) hg hat)
  replace HB := Aside0.mk hb
  have HO812 := Aside0.mk ho
  clear HO809
  clear ho hb hg hat
  obtain ⟨Ao12, co12, eo12⟩ := Kd.R_slice HO812.out
  (first | subst eo12 | (injection eo12 with f1_ f2_ f3_; have f4_ := f1_.symm; have f5_ := f3_.symm; clear f1_ f2_ f3_; subst f4_; subst f5_))
  obtain ⟨Ao13, co13, eo13⟩ := Kd.R_slice HO806.out
  (first | subst eo13 | (injection eo13 with f1_ f2_ f3_; have f4_ := f1_.symm; have f5_ := f3_.symm; clear f1_ f2_ f3_; subst f4_; subst f5_))
  refine hK.out _ _ ⟨cz0_ BK802, cz1_ BK802⟩ (fun hHeld => ?_)
  clear hK K
  refine no_ (some 9) ?_
  refine pu_ 7 (some 10) (bl_ 9 255) HT_ ?_
  refine on_ 8 (none) (bl_ 9 511) HT_ (fun K hK => ?_)
  have hs14 : w11.cell? ⟨gb803, 0, none⟩ = some (.slice none 0 0) := cz0_ BK803
  have hfs14 := blk_frozen BK803.out 0
  have hns14_0 := NB802_803.out
  have hms14_0 := NB803_802.out
  have hs15 : w11.cell? ⟨gb803, 1, none⟩ = some (.slice none 0 0) := cz1_ BK803
  have hfs15 := blk_frozen BK803.out 1
  have hns15_0 := NB802_803.out
  have hms15_0 := NB803_802.out
  refine skip_ (w1 := ?_) (by rfl) rfl ?_ ?_
  rotate_left
  · go_simp
    rfl
  refine hK.out _ _ ⟨((cell_far (p := ⟨gb803, _, none⟩) NB802_803.out _).trans (((cell_far (p := ⟨gb803, _, none⟩) NB802_803.out _).trans (hHeld.1)))), ((cell_far (p := ⟨gb803, _, none⟩) NB802_803.out _).trans (((cell_far (p := ⟨gb803, _, none⟩) NB802_803.out _).trans (hHeld.2))))⟩ (fun hHeld => ?_)
  clear hK K
  refine done_ (done_of HT_.out (by kernel_rfl)) ?_
  try go_wp2
  refine bodyPost_ret (results_cell_row rfl _ _ gb803 25 #[.slice Ao13 t804.length co13, .slice Ao12 y810.length co12] (0, 0) _ rfl qp_ Try.underlying25 rfl (by kernel_rfl)) rfl ?_
  exact ⟨_, _, qb_, (rw_ (Kd.R_mono (fa_ HO806 BK803) (fun _ hk => hk.2))), (rw_ (fa_ HO812 BK803)), hB_⟩
end Go.Proofs.Ytcggfjpnfodbaaa.A
end
section
namespace Go.Proofs.Ytcggfjpnfodbaaa.A
open Go.RowKit Go.Proofs.YtcggfjpnfodbaaaW.PrintWords Go.Proofs.YtcggfjpnfodbaaaW.PrintLast Go.Proofs.YtcggfjpnfodbaaaW.PrintMore
attribute [local go_sem] max2_int min2_int max_two min_two max_three min_three max_four min_four
set_option linter.unusedVariables false
set_option linter.unusedSimpArgs false
def spec_l05Unturn.f (k : Nat) (l0_0 : List Int) (l0_1 : List Int) : Option (List Int × List Int) := (some (([] : List Int) : List Int)).bind fun y815 => (if y815.length + l0_1.length < 17592186044416 then ((spec_l02Inverse.f k l0_0).bind fun t821 => (some ((y815 ++ l0_1), t821))) else (none))
theorem spec_l05Unturn.mono : ∀ a0 a1 k, LeO (spec_l05Unturn.f k a0 a1) (spec_l05Unturn.f (k + 1) a0 a1) := by
  intro a0 a1 k
  unfold spec_l05Unturn.f
  repeat' first|exact spec_l02Inverse.mono _ _|exact lo_|refine LeO.ite ?_ ?_|refine LeO.bind ?_ (fun _ => ?_)
def spec_l05Unturn.T1 : Bool × List (List Nat × List Nat) := (true, [([], []), ([], []), ([1], [1]), ([0, 2], [0, 2]), ([], []), ([4], [4]), ([5, 3], [5]), ([3, 6], [3, 6]), ([7, 6, 0, 1, 2, 3, 4, 5, 6, 7], [7])])
def spec_l05Unturn.B1 : List Nat := [0, 0, 2, 7, 0, 16, 63, 127, 255]
theorem spec_l05Unturn.tab1 : rtab .any (opsOf Try.f127 1) = spec_l05Unturn.T1 := by kernel_rfl
theorem spec_l05Unturn.bits1 : waitsOk spec_l05Unturn.T1.2 spec_l05Unturn.B1 = true := by kernel_rfl
set_option maxHeartbeats 8000000 in
set_option maxRecDepth 100000 in
theorem spec_l05Unturn.calls (k : Nat) (A0_0 : Option Addr) (c0_0 : Nat) (l0_0 : List Int) (A0_1 : Option Addr) (c0_1 : Nat) (l0_1 : List Int) (r1 : List Int) (r2 : List Int) (w : World) (hr0_0 : Kd.C (Kd.int .i64) w A0_0 l0_0.length l0_0) (hc0_0 : l0_0.length ≤ c0_0) (hr0_1 : Kd.C (Kd.int .i64) w A0_1 l0_1.length l0_1) (hc0_1 : l0_1.length ≤ c0_1) (h : spec_l05Unturn.f k l0_0 l0_1 = some (r1, r2)) :
    Calls Try.prog 127 #[.agg #[.slice A0_0 l0_0.length c0_0, .slice A0_1 l0_1.length c0_1]] w fun e w' => ∃ v0_ v1_ : Value, e = .returned (.agg #[v0_, v1_]) ∧ Kd.R (Kd.int .i64) 3 w' w.heap.size (fun k_ => some k_ ≠ (v1_ : Value).ownBlock) v0_ r1 ∧ Kd.R (Kd.int .i64) 3 w' w.heap.size (fun k_ => some k_ ≠ (v0_ : Value).ownBlock) v1_ r2 ∧ Below w.heap.size w w' := by
  have hu25 := Try.underlying25
  have HR0_0 := Aside0.mk hr0_0
  have HC0_0 := Aside0.mk hc0_0
  clear hr0_0 hc0_0
  have HR0_1 := Aside0.mk hr0_1
  have HC0_1 := Aside0.mk hc0_1
  clear hr0_1 hc0_1
  have HB := Aside0.mk (Below.refl w.heap.size w)
  have H := h
  unfold spec_l05Unturn.f at H
  clear h
  obtain ⟨y815, hy815⟩ : ∃ y_ : List Int, y_ = (([] : List Int)) := ⟨_, rfl⟩
  replace H : (if y815.length + l0_1.length < 17592186044416 then ((spec_l02Inverse.f k l0_0).bind fun t821 => (some ((y815 ++ l0_1), t821))) else (none)) = some (r1, r2) := by first | (rw [hy815]; exact H) | exact H
  have Ny815 := Aside0.mk hy815
  clear hy815
  have c2 := cp_ H
  replace H := ca_ H
  have LMc2 := Aside0.mk c2
  clear c2
  obtain ⟨y818, hy818⟩ : ∃ y_ : List Int, y_ = (y815 ++ l0_1) := ⟨_, rfl⟩
  replace H : ((spec_l02Inverse.f k l0_0).bind fun t821 => (some (y818, t821))) = some (r1, r2) := by first | (rw [hy818]; exact H) | exact H
  have Ny818 := Aside0.mk hy818
  clear hy818
  obtain ⟨t821, A3, H⟩ := bi_ H
  simp only [Option.some.injEq, Prod.mk.injEq] at H
  obtain ⟨rfl, rfl⟩ := H
  go_enter Try.func127, Try.ntmps127
  try go_wp2_with (first | ((with_reducible refine gate_dst (N := 1) rfl ?_); refine bx_ 1 #[.slice A0_0 l0_0.length c0_0, .slice A0_1 l0_1.length c0_1] 25 ?_; intro gb813 hg w4 hbox hb; have BK813 := Aside0.mk hbox; have GW813 := gw_ w hg; have GE813 := GW813; replace HB := b1_ hb; clear hb hbox hg) | ((with_reducible refine gate_dst (N := 2) rfl ?_); refine bx_ 2 #[.slice none 0 0, .slice none 0 0] 25 ?_; intro gb814 hg w5 hbox hb; have BK814 := Aside0.mk hbox; have GW814 := gw_ w hg; have GE814 := GW814; replace HB := b1_ hb; have NB813_814 := gN_ BK813 hg; have NB814_813 := gP_ BK813 hg; replace BK813 := bb_ BK813 hb; clear hb hbox hg))
  replace BK813 := Aside0.mk (blk_drew BK813.out)
  replace BK814 := Aside0.mk (blk_drew BK814.out)
  replace HB := Aside0.mk (below_drew1 HB.out)
  refine start_ (n := 9) (S := fun w' => w'.cell? ⟨gb813, 0, none⟩ = some (.slice A0_0 l0_0.length c0_0) ∧ w'.cell? ⟨gb813, 1, none⟩ = some (.slice A0_1 l0_1.length c0_1)) (ds := []) (bl_ 9 0) (by kernel_rfl) rfl (by kernel_rfl) ⟨cz0_ BK813, cz1_ BK813⟩ (fun hHeld => ?_); refine with_tabW spec_l05Unturn.tab1 spec_l05Unturn.bits1 (fun HT_ HW_ => ?_)
  generalize w5.drew = w6 at BK813 BK814 HB hHeld ⊢
  refine pu_ 1 (some 4) (bl_ 9 2) HT_ ?_
  refine pu_ 4 (some 7) (bl_ 9 18) HT_ ?_
  refine ta_ 2 (some 5) (bl_ 9 22) HT_ HW_ hHeld ?_
  refine ta_ 5 (some 8) (bl_ 9 54) HT_ HW_ hHeld ?_
  refine on_ 0 (some 3) (bl_ 9 55) HT_ (fun K hK => ?_)
  refine Kd.R_lit_step (Kd.int .i64) _ 3 ?hg (N := 3) ?hd (xs := ([] : List Int)) (inner := []) (ok := fun _ => True) (okp := fun _ => True) ?hr ?hp (fun _ hk => hk) trivial (Below.refl _ _) (Nat.le_refl _) (by simp) ?_; (case hd => rfl); (case hg => rfl); (case hr => first | (go_simp; done) | (go_simp; rfl)); (case hp => exact (Reps.none _ _))
  intro v816 w7 ho8 hb hg_ hnew_
  clear hg_ hnew_
  (first | rw [← Ny815.out] at ho8 | (simp only [Int.reduceToNat] at ho8; rw [← Ny815.out] at ho8))
  have HO817 := rl_ w ho8
  replace BK813 := bb_ BK813 hb
  replace BK814 := bb_ BK814 hb
  replace HB := b1_ hb
  clear hb ho8
  refine hK.out _ _ ⟨cz0_ BK813, cz1_ BK813⟩ (fun hHeld => ?_)
  clear hK K
  refine no_ (some 3) ?_
  refine on_ 3 (some 6) (bl_ 9 63) HT_ (fun K hK => ?_)
  refine Kd.R_append_rows_step (Kd.int .i64) (w0 := w) w.heap.size (by rfl) (.tmp 3) (.tmp 5) 23 3 (.int .i64 0) 8 rfl Try.underlying23 info3 rfl (by decide) (by omega) v816 y815 l0_1 _ _ _ (fun _ => True) (fun _ => False) rfl rfl ?aO ?aR (fun _ _ h => h) (fun _ h => h.elim) ?aF ?aB ?aS ?aL ?_
  (case aR => exact cb_ HR0_1)
  (case aB => exact hB_)
  (case aF => exact (fun _ _ => trivial))
  (case aO => exact (rr_ HO817))
  (case aS => exact (below_size hB_))
  (case aL => have := LMc2.out; omega)
  intro v819 w9 ho hb hg hat
  rw [← Ny818.out] at ho
  replace BK813 := Aside0.mk (blk_grown (kk_ BK813) hg (Kd.R_ne HO817.out BK813.out (by decide)))
  replace BK814 := Aside0.mk (blk_grown (kk_ BK814) hg (Kd.R_ne HO817.out BK814.out (by decide)))
  replace HB := Aside0.mk hb
  have HO820 := Aside0.mk ho
  clear HO817
  clear ho hb hg hat
  refine hK.out _ _ ⟨cz0_ BK813, cz1_ BK813⟩ (fun hHeld => ?_)
  clear hK K
  refine no_ (some 6) ?_
  refine on_ 6 (some 9) (bl_ 9 127) HT_ (fun K hK => ?_)
  refine gO_ Try.func150 #[.slice A0_0 l0_0.length c0_0] (by rfl) rfl rfl qa_ ?_
  with_reducible refine (spec_l02Inverse.calls k _ _ l0_0 t821 _ (cb_ HR0_0) HC0_0.out A3.out).mono ?_
  rintro e w10 ⟨v822, rfl, ho0, hb⟩
  refine ⟨_, rfl, ?_⟩
  have HO823 := Aside0.mk (Kd.R_lower (Kd.R_new' ho0 (Kd.R_lt (rr_ HO820))) (below_size hB_))
  replace HO820 := Aside0.mk (Kd.R_elder' (rr_ HO820) (Kd.R_base ho0) hb)
  replace BK813 := bb_ BK813 hb
  replace BK814 := bb_ BK814 hb
  replace HB := b1_ hb
  clear hb ho0
  obtain ⟨Ao11, co11, eo11⟩ := Kd.R_slice HO823.out
  (first | subst eo11 | (injection eo11 with f1_ f2_ f3_; have f4_ := f1_.symm; have f5_ := f3_.symm; clear f1_ f2_ f3_; subst f4_; subst f5_))
  obtain ⟨Ao12, co12, eo12⟩ := Kd.R_slice HO820.out
  (first | subst eo12 | (injection eo12 with f1_ f2_ f3_; have f4_ := f1_.symm; have f5_ := f3_.symm; clear f1_ f2_ f3_; subst f4_; subst f5_))
  refine hK.out _ _ ⟨cz0_ BK813, cz1_ BK813⟩ (fun hHeld => ?_)
  clear hK K
  refine no_ (some 9) ?_
  refine pu_ 7 (some 10) (bl_ 9 255) HT_ ?_
  refine on_ 8 (none) (bl_ 9 511) HT_ (fun K hK => ?_)
  have hs13 : w10.cell? ⟨gb814, 0, none⟩ = some (.slice none 0 0) := cz0_ BK814
  have hfs13 := blk_frozen BK814.out 0
  have hns13_0 := NB813_814.out
  have hms13_0 := NB814_813.out
  have hs14 : w10.cell? ⟨gb814, 1, none⟩ = some (.slice none 0 0) := cz1_ BK814
  have hfs14 := blk_frozen BK814.out 1
  have hns14_0 := NB813_814.out
  have hms14_0 := NB814_813.out
  refine skip_ (w1 := ?_) (by rfl) rfl ?_ ?_
  rotate_left
  · go_simp
    rfl
  refine hK.out _ _ ⟨((cell_far (p := ⟨gb814, _, none⟩) NB813_814.out _).trans (((cell_far (p := ⟨gb814, _, none⟩) NB813_814.out _).trans (hHeld.1)))), ((cell_far (p := ⟨gb814, _, none⟩) NB813_814.out _).trans (((cell_far (p := ⟨gb814, _, none⟩) NB813_814.out _).trans (hHeld.2))))⟩ (fun hHeld => ?_)
  clear hK K
  refine done_ (done_of HT_.out (by kernel_rfl)) ?_
  try go_wp2
  refine bodyPost_ret (results_cell_row rfl _ _ gb814 25 #[.slice Ao12 y818.length co12, .slice Ao11 t821.length co11] (0, 0) _ rfl qp_ Try.underlying25 rfl (by kernel_rfl)) rfl ?_
  exact ⟨_, _, qb_, (rw_ (Kd.R_mono (fa_ HO820 BK814) (fun _ hk => hk.2))), (rw_ (Kd.R_mono (fa_ HO823 BK814) (fun _ hk => hk.2))), hB_⟩
end Go.Proofs.Ytcggfjpnfodbaaa.A
end
section
namespace Go.Proofs.Ytcggfjpnfodbaaa.A
open Go.RowKit Go.Proofs.YtcggfjpnfodbaaaW.PrintWords Go.Proofs.YtcggfjpnfodbaaaW.PrintLast Go.Proofs.YtcggfjpnfodbaaaW.PrintMore
attribute [local go_sem] max2_int min2_int max_two min_two max_three min_three max_four min_four
set_option linter.unusedVariables false
set_option linter.unusedSimpArgs false
def spec_l05Letter.f (k : Nat) (l0_0 : List Int) (l0_1 : List Int) (a1 : Int) : Option (List Int × List Int) := if a1 = 84 then ((spec_l05Shear.f k l0_0 l0_1).bind fun bt826 => (some (bt826.1, bt826.2))) else (if a1 = 116 then ((spec_l05Unshear.f k l0_0 l0_1).bind fun bt832 => (some (bt832.1, bt832.2))) else (if a1 = 83 then ((spec_l05Turn.f k l0_0 l0_1).bind fun bt838 => (some (bt838.1, bt838.2))) else ((spec_l05Unturn.f k l0_0 l0_1).bind fun bt844 => (some (bt844.1, bt844.2)))))
theorem spec_l05Letter.mono : ∀ a0 a1 a2 k, LeO (spec_l05Letter.f k a0 a1 a2) (spec_l05Letter.f (k + 1) a0 a1 a2) := by
  intro a0 a1 a2 k
  unfold spec_l05Letter.f
  repeat' first|exact spec_l05Shear.mono _ _ _|exact spec_l05Turn.mono _ _ _|exact spec_l05Unshear.mono _ _ _|exact spec_l05Unturn.mono _ _ _|exact lo_|refine LeO.ite ?_ ?_|refine LeO.bind ?_ (fun _ => ?_)
set_option maxHeartbeats 8000000 in
set_option maxRecDepth 100000 in
theorem spec_l05Letter.calls (k : Nat) (A0_0 : Option Addr) (c0_0 : Nat) (l0_0 : List Int) (A0_1 : Option Addr) (c0_1 : Nat) (l0_1 : List Int) (a1 : Int) (r1 : List Int) (r2 : List Int) (w : World) (hr0_0 : Kd.C (Kd.int .i64) w A0_0 l0_0.length l0_0) (hc0_0 : l0_0.length ≤ c0_0) (hr0_1 : Kd.C (Kd.int .i64) w A0_1 l0_1.length l0_1) (hc0_1 : l0_1.length ≤ c0_1) (h : spec_l05Letter.f k l0_0 l0_1 a1 = some (r1, r2)) :
    Calls Try.prog 87 #[.agg #[.slice A0_0 l0_0.length c0_0, .slice A0_1 l0_1.length c0_1], .int .u8 a1] w fun e w' => ∃ v0_ v1_ : Value, e = .returned (.agg #[v0_, v1_]) ∧ Kd.R (Kd.int .i64) 3 w' w.heap.size (fun k_ => some k_ ≠ (v1_ : Value).ownBlock) v0_ r1 ∧ Kd.R (Kd.int .i64) 3 w' w.heap.size (fun k_ => some k_ ≠ (v0_ : Value).ownBlock) v1_ r2 ∧ Below w.heap.size w w' := by
  have hu25 := Try.underlying25
  have HR0_0 := Aside0.mk hr0_0
  have HC0_0 := Aside0.mk hc0_0
  clear hr0_0 hc0_0
  have HR0_1 := Aside0.mk hr0_1
  have HC0_1 := Aside0.mk hc0_1
  clear hr0_1 hc0_1
  have HB := Aside0.mk (Below.refl w.heap.size w)
  have H := h
  unfold spec_l05Letter.f at H
  clear h
  by_cases c3 : a1 = 84
  · rw [if_pos c3] at H
    have c3b0 : (a1 == 84) = true := beq_iff_eq.mpr c3
    have c3b1 : (a1 != 84) = false := bne_eq_false_iff_eq.mpr c3
    clear c3
    obtain ⟨⟨t826, t829⟩, A4, H⟩ := bi_ H
    try dsimp only at H
    simp only [Option.some.injEq, Prod.mk.injEq] at H
    obtain ⟨rfl, rfl⟩ := H
    go_enter Try.func87, Try.ntmps87
    go_wp2_with (first | ((with_reducible refine gate_dst (N := 2) rfl ?_); refine bx_ 2 #[.slice A0_0 l0_0.length c0_0, .slice A0_1 l0_1.length c0_1] 25 ?_; intro gb824 hg w5 hbox hb; have BK824 := Aside0.mk hbox; have GW824 := gw_ w hg; have GE824 := GW824; replace HB := b1_ hb; clear hb hbox hg) | ((with_reducible refine gate_dst (N := 4) rfl ?_); refine bx_ 4 #[.slice none 0 0, .slice none 0 0] 25 ?_; intro gb825 hg w6 hbox hb; have BK825 := Aside0.mk hbox; have GW825 := gw_ w hg; have GE825 := GW825; replace HB := b1_ hb; have NB824_825 := gN_ BK824 hg; have NB825_824 := gP_ BK824 hg; replace BK824 := bb_ BK824 hb; clear hb hbox hg; have hnb7 := NB824_825.out; have hnc7 := NB825_824.out; obtain ⟨hcz8_0, hcz8_1, hfz8_0, hfz8_1⟩ := c2_ BK824) | ((with_reducible refine gate_callee (f := 124) rfl ?_); refine gL_ (some 9) Try.func124 #[.agg #[.slice A0_0 l0_0.length c0_0, .slice A0_1 l0_1.length c0_1]] rfl qa_ ?_; (with_reducible refine (spec_l05Shear.calls k _ _ l0_0 _ _ l0_1 t826 t829 _ (cb_ HR0_0) HC0_0.out (cb_ HR0_1) HC0_1.out A4.out).mono ?_); rintro e w9 ⟨v827, v830, rfl, ho0, ho1, hb⟩; refine ⟨_, rfl, ?_⟩; have HO828 := rl_ w ho0; have HO831 := rl_ w ho1; replace BK824 := bb_ BK824 hb; replace BK825 := bb_ BK825 hb; replace HB := b1_ hb; clear hb ho0 ho1; obtain ⟨Ao10, co10, eo10⟩ := Kd.R_slice HO828.out; subst eo10; obtain ⟨hcz11_0, hcz11_1, hfz11_0, hfz11_1⟩ := c2_ BK825; obtain ⟨Ao12, co12, eo12⟩ := Kd.R_slice HO831.out; subst eo12))
    refine bodyPost_ret (results_cell_row rfl _ _ gb825 25 #[.slice Ao10 t826.length co10, .slice Ao12 t829.length co12] (0, 0) _ rfl qp_ Try.underlying25 rfl (by kernel_rfl)) rfl ?_
    exact ⟨_, _, qb_, (rw_ (fa_ HO828 BK825)), (rw_ (fa_ HO831 BK825)), hB_⟩
  · rw [if_neg c3] at H
    have c3b0 : (a1 == 84) = false := beq_eq_false_iff_ne.mpr c3
    have c3b1 : (a1 != 84) = true := bne_iff_ne.mpr c3
    by_cases c13 : a1 = 116
    · rw [if_pos c13] at H
      have c13b0 : (a1 == 116) = true := beq_iff_eq.mpr c13
      have c13b1 : (a1 != 116) = false := bne_eq_false_iff_eq.mpr c13
      clear c13
      obtain ⟨⟨t832, t835⟩, A14, H⟩ := bi_ H
      try dsimp only at H
      simp only [Option.some.injEq, Prod.mk.injEq] at H
      obtain ⟨rfl, rfl⟩ := H
      go_enter Try.func87, Try.ntmps87
      go_wp2_with (first | ((with_reducible refine gate_dst (N := 2) rfl ?_); refine bx_ 2 #[.slice A0_0 l0_0.length c0_0, .slice A0_1 l0_1.length c0_1] 25 ?_; intro gb824 hg w15 hbox hb; have BK824 := Aside0.mk hbox; have GW824 := gw_ w hg; have GE824 := GW824; replace HB := b1_ hb; clear hb hbox hg) | ((with_reducible refine gate_dst (N := 4) rfl ?_); refine bx_ 4 #[.slice none 0 0, .slice none 0 0] 25 ?_; intro gb825 hg w16 hbox hb; have BK825 := Aside0.mk hbox; have GW825 := gw_ w hg; have GE825 := GW825; replace HB := b1_ hb; have NB824_825 := gN_ BK824 hg; have NB825_824 := gP_ BK824 hg; replace BK824 := bb_ BK824 hb; clear hb hbox hg; have hnb17 := NB824_825.out; have hnc17 := NB825_824.out; obtain ⟨hcz18_0, hcz18_1, hfz18_0, hfz18_1⟩ := c2_ BK824) | ((with_reducible refine gate_callee (f := 125) rfl ?_); refine gL_ (some 13) Try.func125 #[.agg #[.slice A0_0 l0_0.length c0_0, .slice A0_1 l0_1.length c0_1]] rfl qa_ ?_; (with_reducible refine (spec_l05Unshear.calls k _ _ l0_0 _ _ l0_1 t832 t835 _ (cb_ HR0_0) HC0_0.out (cb_ HR0_1) HC0_1.out A14.out).mono ?_); rintro e w19 ⟨v833, v836, rfl, ho0, ho1, hb⟩; refine ⟨_, rfl, ?_⟩; have HO834 := rl_ w ho0; have HO837 := rl_ w ho1; replace BK824 := bb_ BK824 hb; replace BK825 := bb_ BK825 hb; replace HB := b1_ hb; clear hb ho0 ho1; obtain ⟨Ao20, co20, eo20⟩ := Kd.R_slice HO834.out; subst eo20; obtain ⟨hcz21_0, hcz21_1, hfz21_0, hfz21_1⟩ := c2_ BK825; obtain ⟨Ao22, co22, eo22⟩ := Kd.R_slice HO837.out; subst eo22))
      refine bodyPost_ret (results_cell_row rfl _ _ gb825 25 #[.slice Ao20 t832.length co20, .slice Ao22 t835.length co22] (0, 0) _ rfl qp_ Try.underlying25 rfl (by kernel_rfl)) rfl ?_
      exact ⟨_, _, qb_, (rw_ (fa_ HO834 BK825)), (rw_ (fa_ HO837 BK825)), hB_⟩
    · rw [if_neg c13] at H
      have c13b0 : (a1 == 116) = false := beq_eq_false_iff_ne.mpr c13
      have c13b1 : (a1 != 116) = true := bne_iff_ne.mpr c13
      by_cases c23 : a1 = 83
      · rw [if_pos c23] at H
        have c23b0 : (a1 == 83) = true := beq_iff_eq.mpr c23
        have c23b1 : (a1 != 83) = false := bne_eq_false_iff_eq.mpr c23
        clear c23
        obtain ⟨⟨t838, t841⟩, A24, H⟩ := bi_ H
        try dsimp only at H
        simp only [Option.some.injEq, Prod.mk.injEq] at H
        obtain ⟨rfl, rfl⟩ := H
        go_enter Try.func87, Try.ntmps87
        go_wp2_with (first | ((with_reducible refine gate_dst (N := 2) rfl ?_); refine bx_ 2 #[.slice A0_0 l0_0.length c0_0, .slice A0_1 l0_1.length c0_1] 25 ?_; intro gb824 hg w25 hbox hb; have BK824 := Aside0.mk hbox; have GW824 := gw_ w hg; have GE824 := GW824; replace HB := b1_ hb; clear hb hbox hg) | ((with_reducible refine gate_dst (N := 4) rfl ?_); refine bx_ 4 #[.slice none 0 0, .slice none 0 0] 25 ?_; intro gb825 hg w26 hbox hb; have BK825 := Aside0.mk hbox; have GW825 := gw_ w hg; have GE825 := GW825; replace HB := b1_ hb; have NB824_825 := gN_ BK824 hg; have NB825_824 := gP_ BK824 hg; replace BK824 := bb_ BK824 hb; clear hb hbox hg; have hnb27 := NB824_825.out; have hnc27 := NB825_824.out; obtain ⟨hcz28_0, hcz28_1, hfz28_0, hfz28_1⟩ := c2_ BK824) | ((with_reducible refine gate_callee (f := 126) rfl ?_); refine gL_ (some 17) Try.func126 #[.agg #[.slice A0_0 l0_0.length c0_0, .slice A0_1 l0_1.length c0_1]] rfl qa_ ?_; (with_reducible refine (spec_l05Turn.calls k _ _ l0_0 _ _ l0_1 t838 t841 _ (cb_ HR0_0) HC0_0.out (cb_ HR0_1) HC0_1.out A24.out).mono ?_); rintro e w29 ⟨v839, v842, rfl, ho0, ho1, hb⟩; refine ⟨_, rfl, ?_⟩; have HO840 := rl_ w ho0; have HO843 := rl_ w ho1; replace BK824 := bb_ BK824 hb; replace BK825 := bb_ BK825 hb; replace HB := b1_ hb; clear hb ho0 ho1; obtain ⟨Ao30, co30, eo30⟩ := Kd.R_slice HO840.out; subst eo30; obtain ⟨hcz31_0, hcz31_1, hfz31_0, hfz31_1⟩ := c2_ BK825; obtain ⟨Ao32, co32, eo32⟩ := Kd.R_slice HO843.out; subst eo32))
        refine bodyPost_ret (results_cell_row rfl _ _ gb825 25 #[.slice Ao30 t838.length co30, .slice Ao32 t841.length co32] (0, 0) _ rfl qp_ Try.underlying25 rfl (by kernel_rfl)) rfl ?_
        exact ⟨_, _, qb_, (rw_ (fa_ HO840 BK825)), (rw_ (fa_ HO843 BK825)), hB_⟩
      · rw [if_neg c23] at H
        have c23b0 : (a1 == 83) = false := beq_eq_false_iff_ne.mpr c23
        have c23b1 : (a1 != 83) = true := bne_iff_ne.mpr c23
        obtain ⟨⟨t844, t847⟩, A33, H⟩ := bi_ H
        try dsimp only at H
        simp only [Option.some.injEq, Prod.mk.injEq] at H
        obtain ⟨rfl, rfl⟩ := H
        go_enter Try.func87, Try.ntmps87
        go_wp2_with (first | ((with_reducible refine gate_dst (N := 2) rfl ?_); refine bx_ 2 #[.slice A0_0 l0_0.length c0_0, .slice A0_1 l0_1.length c0_1] 25 ?_; intro gb824 hg w34 hbox hb; have BK824 := Aside0.mk hbox; have GW824 := gw_ w hg; have GE824 := GW824; replace HB := b1_ hb; clear hb hbox hg) | ((with_reducible refine gate_dst (N := 4) rfl ?_); refine bx_ 4 #[.slice none 0 0, .slice none 0 0] 25 ?_; intro gb825 hg w35 hbox hb; have BK825 := Aside0.mk hbox; have GW825 := gw_ w hg; have GE825 := GW825; replace HB := b1_ hb; have NB824_825 := gN_ BK824 hg; have NB825_824 := gP_ BK824 hg; replace BK824 := bb_ BK824 hb; clear hb hbox hg; have hnb36 := NB824_825.out; have hnc36 := NB825_824.out; obtain ⟨hcz37_0, hcz37_1, hfz37_0, hfz37_1⟩ := c2_ BK824) | ((with_reducible refine gate_callee (f := 127) rfl ?_); refine gL_ (some 19) Try.func127 #[.agg #[.slice A0_0 l0_0.length c0_0, .slice A0_1 l0_1.length c0_1]] rfl qa_ ?_; (with_reducible refine (spec_l05Unturn.calls k _ _ l0_0 _ _ l0_1 t844 t847 _ (cb_ HR0_0) HC0_0.out (cb_ HR0_1) HC0_1.out A33.out).mono ?_); rintro e w38 ⟨v845, v848, rfl, ho0, ho1, hb⟩; refine ⟨_, rfl, ?_⟩; have HO846 := rl_ w ho0; have HO849 := rl_ w ho1; replace BK824 := bb_ BK824 hb; replace BK825 := bb_ BK825 hb; replace HB := b1_ hb; clear hb ho0 ho1; obtain ⟨Ao39, co39, eo39⟩ := Kd.R_slice HO846.out; subst eo39; obtain ⟨hcz40_0, hcz40_1, hfz40_0, hfz40_1⟩ := c2_ BK825; obtain ⟨Ao41, co41, eo41⟩ := Kd.R_slice HO849.out; subst eo41))
        refine bodyPost_ret (results_cell_row rfl _ _ gb825 25 #[.slice Ao39 t844.length co39, .slice Ao41 t847.length co41] (0, 0) _ rfl qp_ Try.underlying25 rfl (by kernel_rfl)) rfl ?_
        exact ⟨_, _, qb_, (rw_ (fa_ HO846 BK825)), (rw_ (fa_ HO849 BK825)), hB_⟩
end Go.Proofs.Ytcggfjpnfodbaaa.A
end
section
namespace Go.Proofs.Ytcggfjpnfodbaaa.A
open Go.RowKit Go.Proofs.YtcggfjpnfodbaaaW.PrintWords Go.Proofs.YtcggfjpnfodbaaaW.PrintLast Go.Proofs.YtcggfjpnfodbaaaW.PrintMore
attribute [local go_sem] max2_int min2_int max_two min_two max_three min_three max_four min_four
set_option linter.unusedVariables false
set_option linter.unusedSimpArgs false
mutual
def spec_l06Orbit.l0 : Nat → List (S25) → List ByteArray → Int → Option ((List (S25)) × List ByteArray × Bool)
  | 0, _, _, _ => none
  | k + 1, x5, x6, x7 => if x7 < (x5.length : Int) then ((some (([84, 83] : List Int) : List Int)).bind fun y863 => (spec_l06Orbit.l1 k x5 x6 x7 y863 (y863.length : Int) 0)) else (some (x5, x6, true))
def spec_l06Orbit.l1 : Nat → List (S25) → List ByteArray → Int → List Int → Int → Int → Option ((List (S25)) × List ByteArray × Bool)
  | 0, _, _, _, _, _, _ => none
  | k + 1, x5, x6, x7, x21, x22, x23 => if x23 < x22 then (if 0 ≤ x23 then (if x23 < (x21.length : Int) then (if 0 ≤ x7 then (if x7 < (x5.length : Int) then ((spec_l05Letter.f k ((rd_T25 x5 x7).f0) ((rd_T25 x5 x7).f1) (rd x21 x23)).bind fun bt868 => ((spec_l03Canon.f k bt868.1 bt868.2).bind fun bt874 => ((spec_l06Find.f k x5 bt874.1 bt874.2).bind fun t881 => (if t881 < 0 then (if x5.length < 2932031007402 then (if x7 < (x6.length : Int) then ((some (([rd x21 x23] : List Int) : List Int)).bind fun y886 => (if (rdOf ByteArray.empty x6 x7).size + (strOfNums y886).size ≤ 9223372036854775807 then (if x6.length < 8796093022208 then (spec_l06Orbit.l1 k (x5 ++ [(⟨bt874.1, bt874.2⟩ : S25)]) (x6 ++ [(rdOf ByteArray.empty x6 x7) ++ (strOfNums y886)]) x7 x21 x22 (wrap64 (x23 + 1))) else (none)) else (none))) else (none)) else (none)) else (spec_l06Orbit.l1 k x5 x6 x7 x21 x22 (wrap64 (x23 + 1))))))) else (none)) else (none)) else (none)) else (none)) else (if (x5.length : Int) > 120 then (some (([] : List (S25)), ([] : List ByteArray), false)) else (spec_l06Orbit.l0 k x5 x6 (wrap64 (x7 + 1))))
end
def spec_l06Orbit.f (k : Nat) (l0_0 : List Int) (l0_1 : List Int) : Option ((List (S25)) × List ByteArray × Bool) := (spec_l03Canon.f k l0_0 l0_1).bind fun bt851 => (spec_l06Orbit.l0 k (([(⟨bt851.1, bt851.2⟩ : S25)] : List (S25))) (([(⟨#[]⟩ : ByteArray)] : List ByteArray)) 0)
theorem spec_l06Orbit.mono_l : ∀ k, (∀ y0 y1 y2, LeO (spec_l06Orbit.l0 k y0 y1 y2) (spec_l06Orbit.l0 (k + 1) y0 y1 y2)) ∧ (∀ y0 y1 y2 y3 y4 y5, LeO (spec_l06Orbit.l1 k y0 y1 y2 y3 y4 y5) (spec_l06Orbit.l1 (k + 1) y0 y1 y2 y3 y4 y5))
  | 0 => ⟨fun _ _ _ r h => by simp [spec_l06Orbit.l0] at h, fun _ _ _ _ _ _ r h => by simp [spec_l06Orbit.l1] at h⟩
  | k + 1 => by
    obtain ⟨ih0, ih1⟩ := spec_l06Orbit.mono_l k
    refine ⟨?_, ?_⟩
    · intro y0 y1 y2
      unfold spec_l06Orbit.l0
      repeat' first|exact ih0 _ _ _|exact ih1 _ _ _ _ _ _|exact spec_l03Canon.mono _ _ _|exact spec_l05Letter.mono _ _ _ _|exact spec_l06Find.mono _ _ _ _|exact lo_|refine LeO.ite ?_ ?_|refine LeO.bind ?_ (fun _ => ?_)
    · intro y0 y1 y2 y3 y4 y5
      unfold spec_l06Orbit.l1
      repeat' first|exact ih0 _ _ _|exact ih1 _ _ _ _ _ _|exact spec_l03Canon.mono _ _ _|exact spec_l05Letter.mono _ _ _ _|exact spec_l06Find.mono _ _ _ _|exact lo_|refine LeO.ite ?_ ?_|refine LeO.bind ?_ (fun _ => ?_)
theorem spec_l06Orbit.mono : ∀ a0 a1 k, LeO (spec_l06Orbit.f k a0 a1) (spec_l06Orbit.f (k + 1) a0 a1) := by
  intro a0 a1 k
  obtain ⟨ih0, ih1⟩ := spec_l06Orbit.mono_l k
  unfold spec_l06Orbit.f
  repeat' first|exact ih0 _ _ _|exact ih1 _ _ _ _ _ _|exact spec_l03Canon.mono _ _ _|exact spec_l05Letter.mono _ _ _ _|exact spec_l06Find.mono _ _ _ _|exact lo_|refine LeO.ite ?_ ?_|refine LeO.bind ?_ (fun _ => ?_)
def spec_l06Orbit.T12 : Bool × List (List Nat × List Nat) := (true, [([], []), ([], []), ([], []), ([1, 2], [1, 2]), ([3], [3]), ([], []), ([5], [5]), ([6], [6]), ([4, 7], [4, 7]), ([8], [8]), ([0, 9], [0, 9]), ([10, 10, 0, 1, 2, 3, 4, 5, 6, 7, 8, 9, 10], [0, 1, 10])])
def spec_l06Orbit.B12 : List Nat := [0, 0, 0, 6, 14, 0, 32, 96, 254, 510, 1023, 2047]
theorem spec_l06Orbit.tab12 : rtab .any (opsOf Try.f84 12) = spec_l06Orbit.T12 := by kernel_rfl
theorem spec_l06Orbit.bits12 : waitsOk spec_l06Orbit.T12.2 spec_l06Orbit.B12 = true := by kernel_rfl
set_option maxHeartbeats 8000000 in
set_option maxRecDepth 100000 in
theorem spec_l06Orbit.calls (k : Nat) (A0_0 : Option Addr) (c0_0 : Nat) (l0_0 : List Int) (A0_1 : Option Addr) (c0_1 : Nat) (l0_1 : List Int) (r1 : List (S25)) (r2 : List ByteArray) (r3 : Bool) (w : World) (hr0_0 : Kd.C (Kd.int .i64) w A0_0 l0_0.length l0_0) (hc0_0 : l0_0.length ≤ c0_0) (hr0_1 : Kd.C (Kd.int .i64) w A0_1 l0_1.length l0_1) (hc0_1 : l0_1.length ≤ c0_1) (h : spec_l06Orbit.f k l0_0 l0_1 = some (r1, r2, r3)) :
    Calls Try.prog 84 #[.agg #[.slice A0_0 l0_0.length c0_0, .slice A0_1 l0_1.length c0_1]] w fun e w' => ∃ v0_ v1_ : Value, e = .returned (.tuple #[v0_, v1_, .bool r3]) ∧ Kd.N k25 25 w' w.heap.size (fun k_ => (w.heap.size ≤ k_) ∧ some k_ ≠ (v1_ : Value).ownBlock) v0_ r1 ∧ Kd.R Kd.string 9 w' w.heap.size (fun k_ => (w.heap.size ≤ k_)) v1_ r2 ∧ Below w.heap.size w w' := by
  have hu25 := Try.underlying25
  have HR0_0 := Aside0.mk hr0_0
  have HC0_0 := Aside0.mk hc0_0
  clear hr0_0 hc0_0
  have HR0_1 := Aside0.mk hr0_1
  have HC0_1 := Aside0.mk hc0_1
  clear hr0_1 hc0_1
  have HB := Aside0.mk (Below.refl w.heap.size w)
  have H := h
  unfold spec_l06Orbit.f at H
  clear h
  obtain ⟨⟨t851, t854⟩, A2, H⟩ := bi_ H
  try dsimp only at H
  obtain ⟨y857, hy857⟩ : ∃ y_ : List (S25), y_ = (([(⟨t851, t854⟩ : S25)] : List (S25))) := ⟨_, rfl⟩
  replace H : (spec_l06Orbit.l0 k y857 (([(⟨#[]⟩ : ByteArray)] : List ByteArray)) 0) = some (r1, r2, r3) := by first | (rw [hy857]; exact H) | exact H
  have Ny857 := Aside0.mk hy857
  clear hy857
  obtain ⟨y860, hy860⟩ : ∃ y_ : List ByteArray, y_ = (([(⟨#[]⟩ : ByteArray)] : List ByteArray)) := ⟨_, rfl⟩
  replace H : (spec_l06Orbit.l0 k y857 y860 0) = some (r1, r2, r3) := by first | (rw [hy860]; exact H) | exact H
  have Ny860 := Aside0.mk hy860
  clear hy860
  have H' := Aside0.mk H
  clear H
  go_enter Try.func84, Try.ntmps84
  go_wp2_with (first | ((with_reducible refine gate_dst (N := 1) rfl ?_); refine bx_ 1 #[.slice A0_0 l0_0.length c0_0, .slice A0_1 l0_1.length c0_1] 25 ?_; intro gb850 hg w3 hbox hb; have BK850 := Aside0.mk hbox; have GW850 := gw_ w hg; have GE850 := GW850; replace HB := b1_ hb; clear hb hbox hg; obtain ⟨hcz4_0, hcz4_1, hfz4_0, hfz4_1⟩ := c2_ BK850) | ((with_reducible refine gate_callee (f := 82) rfl ?_); refine gL_ (some 12) Try.func82 #[.agg #[.slice A0_0 l0_0.length c0_0, .slice A0_1 l0_1.length c0_1]] rfl qa_ ?_; (with_reducible refine (spec_l03Canon.calls k _ _ l0_0 _ _ l0_1 t851 t854 _ (cb_ HR0_0) HC0_0.out (cb_ HR0_1) HC0_1.out A2.out).mono ?_); rintro e w5 ⟨v852, v855, rfl, ho0, ho1, hb⟩; refine ⟨_, rfl, ?_⟩; have HO853 := Aside0.mk (Kd.R_lower (Kd.R_newM (M := fun k_ => (w.heap.size ≤ k_)) ho0 (below_size hB_) (fun k_ h_ => h_)) (below_size hB_)); have HO856 := Aside0.mk (Kd.R_lower (Kd.R_newM (M := fun k_ => (w.heap.size ≤ k_)) ho1 (below_size hB_) (fun k_ h_ => h_)) (below_size hB_)); replace BK850 := bb_ BK850 hb; replace HB := b1_ hb; clear hb ho0 ho1; obtain ⟨Ao6, co6, eo6⟩ := Kd.R_slice HO853.out; subst eo6; obtain ⟨Ao7, co7, eo7⟩ := Kd.R_slice HO856.out; subst eo7) | ((with_reducible refine gate_dst (N := 13) rfl ?_); refine Kd.N_lit k25 _ 25 ?hg (N' := 13) ?hd (xs := ([(⟨t851, t854⟩ : S25)] : List (S25))) (inner := [.slice Ao6 t851.length co6, .slice Ao7 t854.length co7]) (ok := (fun k_ => (w.heap.size ≤ k_) ∧ k_ ≠ gb850)) (okp := (fun k_ => (w.heap.size ≤ k_) ∧ k_ ≠ gb850)) ?hr ?hp (fun _ hk => hk) ((show ∀ k_, w5.heap.size ≤ k_ → (fun k_ => (w.heap.size ≤ k_) ∧ k_ ≠ gb850) k_ from fun k_ hk => ⟨(Nat.le_trans (below_size hB_) hk), Kd.freshB (kk_ BK850) k_ hk⟩) _ (Nat.le_refl _)) (Below.refl _ _) (Nat.le_refl _) (by simp) ?_; (case hd => rfl); (case hg => rfl); (case hr => first | (go_simp; done) | (go_simp; rfl)); (case hp => exact (Reps.c2 (show Kd.FK k25 _ _ (⟨t851, t854⟩ : S25) [.slice Ao6 t851.length co6, .slice Ao7 t854.length co7] from (k25_mkF _ _ (⟨t851, t854⟩ : S25) (Kd.R_reads' (Kd.R_mono (ok' := (fun k_ => (w.heap.size ≤ k_) ∧ k_ ≠ gb850)) (Kd.R_types (HO853.out) BK850.out (by decide)) (fun k_ hk => ⟨hk.1.1, hk.2⟩))).2.1 (Kd.R_F (Kd.R_mono (ok' := (fun k_ => (w.heap.size ≤ k_) ∧ k_ ≠ gb850)) (Kd.R_types (HO853.out) BK850.out (by decide)) (fun k_ hk => ⟨hk.1.1, hk.2⟩))) (Kd.R_reads' (Kd.R_mono (ok' := (fun k_ => (w.heap.size ≤ k_) ∧ k_ ≠ gb850)) (Kd.R_types (HO856.out) BK850.out (by decide)) (fun k_ hk => ⟨hk.1.1, hk.2⟩))).2.1 (Kd.R_F (Kd.R_mono (ok' := (fun k_ => (w.heap.size ≤ k_) ∧ k_ ≠ gb850)) (Kd.R_types (HO856.out) BK850.out (by decide)) (fun k_ hk => ⟨hk.1.1, hk.2⟩))))) (Reps.none _ _))); intro v858 w8 ho9 hb hg_ hnew_; clear hg_ hnew_; (first | rw [← Ny857.out] at ho9 | (simp only [Int.reduceToNat] at ho9; rw [← Ny857.out] at ho9)); have HO859 := Aside0.mk (Kd.N_lower ho9 (below_size hB_)); replace BK850 := bb_ BK850 hb; replace HB := b1_ hb; clear HO853 HO856; clear hb ho9) | ((with_reducible refine gate_dst (N := 14) rfl ?_); refine Kd.R_lit Kd.string _ 9 ?hg (N := 14) ?hd (xs := ([(⟨#[]⟩ : ByteArray)] : List ByteArray)) (inner := [.string (⟨#[]⟩ : ByteArray)]) (ok := fun _ => True) (okp := fun _ => True) ?hr ?hp (fun _ hk => hk) trivial (Below.refl _ _) (Nat.le_refl _) (by simp) ?_; (case hd => rfl); (case hg => rfl); (case hr => first | (go_simp; done) | (go_simp; rfl)); (case hp => exact (Reps.one (show Kd.M Kd.string _ _ _ (⟨#[]⟩ : ByteArray) [.string (⟨#[]⟩ : ByteArray)] from rfl) (Reps.none _ _))); intro v861 w10 ho11 hb hg_ hnew_; clear hg_ hnew_; (first | rw [← Ny860.out] at ho11 | (simp only [Int.reduceToNat] at ho11; rw [← Ny860.out] at ho11)); replace HO859 := Aside0.mk (Kd.N_elder' (by (with_reducible repeat (first | apply Kd.N_alloc | apply Kd.N_drewN | apply Kd.N_drew)); exact HO859.out) (Kd.R_base ho11) hb); have HO862 := Aside0.mk (Kd.R_lower (Kd.R_newM (M := fun k_ => (w.heap.size ≤ k_)) ho11 (below_size hB_) (fun k_ h_ => h_)) (below_size hB_)); replace BK850 := bb_ BK850 hb; replace HB := b1_ hb; clear hb ho11))
  go_loopg [5, 6, 7] k (fun kq v5 v6 v7 w' => ∃ (x5_1 : List (S25)) (x6_1 : List ByteArray) (x7_1 : Int), v7 = .int .i64 x7_1 ∧ Aside0 (spec_l06Orbit.l0 kq x5_1 x6_1 x7_1 = some (r1, r2, r3)) ∧ Aside0 (kq ≤ k) ∧ Aside0 (Kd.N k25 25 w' w.heap.size (fun k_ => (w.heap.size ≤ k_) ∧ some k_ ≠ (v6 : Value).ownBlock ∧ k_ ≠ gb850) v5 x5_1) ∧ Aside0 (Kd.R Kd.string 9 w' w.heap.size (fun k_ => (w.heap.size ≤ k_)) v6 x6_1) ∧ Aside0 (w'.heap[gb850]? = some (.cells #[(.slice A0_0 l0_0.length c0_0), (.slice A0_1 l0_1.length c0_1)] 25 (0, 0))) ∧ Aside0 (Below w.heap.size w w'))
  case atStart => exact ⟨(y857), (y860), (0), qc_, H', ⟨Nat.le_refl _⟩, ⟨by (with_reducible repeat (first | apply Kd.N_alloc | apply Kd.N_drewN | apply Kd.N_drew)); exact Kd.N_mono HO859.out (fun _ hk => ⟨hk.1.1, ⟨hk.2, hk.1.2⟩⟩)⟩, ⟨(rw_ (Kd.R_mono HO862.out (fun _ hk => hk.1)))⟩, ⟨(kk_ BK850)⟩, ⟨hB_⟩⟩
  case round =>
    clear H'
    obtain ⟨x5_1, x6_1, x7_1, rfl, HA, HK1, HO_5, HO_6, BK850, HB⟩ := hrel
    cases gk with
    | zero => exact absurd HA.out (by simp [spec_l06Orbit.l0])
    | succ k1 =>
      have H := HA.out
      clear HA
      simp only [spec_l06Orbit.l0] at H
      by_cases c12 : x7_1 < (x5_1.length : Int)
      · rw [if_pos c12] at H
        have c12b0 := decide_eq_true c12
        clear c12
        obtain ⟨y863, hy863⟩ : ∃ y_ : List Int, y_ = (([84, 83] : List Int)) := ⟨_, rfl⟩
        replace H : (spec_l06Orbit.l1 k1 x5_1 x6_1 x7_1 y863 (y863.length : Int) 0) = some (r1, r2, r3) := by first | (rw [hy863]; exact H) | exact H
        have Ny863 := Aside0.mk hy863
        clear hy863
        have H' := Aside0.mk H
        clear H
        obtain ⟨Ao13, co13, eo13⟩ := Kd.N_slice HO_5.out
        subst eo13
        go_wp2_with (first | ((with_reducible refine gate_dst (N := 21) rfl ?_); refine Kd.R_lit (Kd.int .u8) _ 5 ?hg (N := 21) ?hd (xs := ([84, 83] : List Int)) (inner := [.int .u8 84, .int .u8 83]) (ok := fun _ => True) (okp := fun _ => True) ?hr ?hp (fun _ hk => hk) trivial (Below.refl _ _) (Nat.le_refl _) (by simp) ?_; (case hd => rfl); (case hg => rfl); (case hr => first | (go_simp; done) | (go_simp; rfl)); (case hp => exact (Reps.one (show Kd.M (Kd.int .u8) _ _ _ 84 [.int .u8 84] from rfl) (Reps.one (show Kd.M (Kd.int .u8) _ _ _ 83 [.int .u8 83] from rfl) (Reps.none _ _)))); intro v864 w14 ho15 hb hg_ hnew_; clear hg_ hnew_; (first | rw [← Ny863.out] at ho15 | (simp only [Int.reduceToNat] at ho15; rw [← Ny863.out] at ho15)); replace HO_5 := Aside0.mk (Kd.N_elder' (by (with_reducible repeat (first | apply Kd.N_alloc | apply Kd.N_drewN | apply Kd.N_drew)); exact HO_5.out) (Kd.R_base ho15) hb); replace HO_6 := rb_ HO_6 hb; have HO865 := Aside0.mk (Kd.R_lower (Kd.R_newM (M := fun k_ => (w.heap.size ≤ k_)) ho15 (below_size hB_) (fun k_ h_ => h_)) (below_size hB_)); replace BK850 := bb_ BK850 hb; replace HB := b1_ hb; clear hb ho15; obtain ⟨Ao16, co16, eo16⟩ := Kd.R_slice HO865.out; subst eo16))
        go_loopg [5, 6, 23] k1 (fun kq v5 v6 v23 w' => ∃ (x5_2 : List (S25)) (x6_2 : List ByteArray) (x23_2 : Int), v23 = .int .i64 x23_2 ∧ Aside0 (spec_l06Orbit.l1 kq x5_2 x6_2 x7_1 y863 (y863.length : Int) x23_2 = some (r1, r2, r3)) ∧ Aside0 (kq ≤ k1) ∧ Aside0 (Kd.N k25 25 w' w.heap.size (fun k_ => (w.heap.size ≤ k_) ∧ some k_ ≠ (v6 : Value).ownBlock ∧ some k_ ≠ ((.slice Ao16 y863.length co16) : Value).ownBlock ∧ k_ ≠ gb850) v5 x5_2) ∧ Aside0 (Kd.R Kd.string 9 w' w.heap.size (fun k_ => (w.heap.size ≤ k_)) v6 x6_2) ∧ Aside0 (Kd.R (Kd.int .u8) 5 w' w.heap.size (fun k_ => (w.heap.size ≤ k_)) (.slice Ao16 y863.length co16) y863) ∧ Aside0 (w'.heap[gb850]? = some (.cells #[(.slice A0_0 l0_0.length c0_0), (.slice A0_1 l0_1.length c0_1)] 25 (0, 0))) ∧ Aside0 (Below w.heap.size w w'))
        case atStart => exact ⟨(x5_1), (x6_1), (0), qc_, H', ⟨Nat.le_refl _⟩, ⟨by (with_reducible repeat (first | apply Kd.N_alloc | apply Kd.N_drewN | apply Kd.N_drew)); exact Kd.N_mono HO_5.out (fun _ hk => ⟨hk.1.1, ⟨hk.1.2.1, ⟨hk.2, hk.1.2.2⟩⟩⟩)⟩, ⟨(rr_ HO_6)⟩, ⟨(rw_ (Kd.R_mono HO865.out (fun _ hk => hk.1)))⟩, ⟨(kk_ BK850)⟩, ⟨hB_⟩⟩
        case round =>
          clear H'
          obtain ⟨x5_2, x6_2, x23_2, rfl, HA, HK2, HO_5, HO_6, HO_21, BK850, HB⟩ := hrel
          cases gk with
          | zero => exact absurd HA.out (by simp [spec_l06Orbit.l1])
          | succ k2 =>
            have H := HA.out
            clear HA
            simp only [spec_l06Orbit.l1] at H
            by_cases c17 : x23_2 < (y863.length : Int)
            · rw [if_pos c17] at H
              have c17b0 := decide_eq_true c17
              clear c17
              have c18 := cp_ H
              replace H := ca_ H
              have c18b0 := decide_eq_true c18
              clear c18
              have c19 := cp_ H
              replace H := ca_ H
              have c19b0 := decide_eq_true c19
              clear c19
              have c20 := cp_ H
              replace H := ca_ H
              have c20b0 := decide_eq_true c20
              clear c20
              have c21 := cp_ H
              replace H := ca_ H
              have c21b0 := decide_eq_true c21
              clear c21
              obtain ⟨⟨t868, t871⟩, A22, H⟩ := bi_ H
              try dsimp only at H
              obtain ⟨⟨t874, t877⟩, A23, H⟩ := bi_ H
              try dsimp only at H
              obtain ⟨t881, A24, H⟩ := bi_ H
              by_cases c25 : t881 < 0
              · rw [if_pos c25] at H
                have c25b0 := decide_eq_true c25
                clear c25
                have c26 := cp_ H
                replace H := ca_ H
                have LMc26 := Aside0.mk c26
                clear c26
                obtain ⟨y882, hy882⟩ : ∃ y_ : List (S25), y_ = (x5_2 ++ [(⟨t874, t877⟩ : S25)]) := ⟨_, rfl⟩
                replace H : (if x7_1 < (x6_2.length : Int) then ((some (([rd y863 x23_2] : List Int) : List Int)).bind fun y886 => (if (rdOf ByteArray.empty x6_2 x7_1).size + (strOfNums y886).size ≤ 9223372036854775807 then (if x6_2.length < 8796093022208 then (spec_l06Orbit.l1 k2 y882 (x6_2 ++ [(rdOf ByteArray.empty x6_2 x7_1) ++ (strOfNums y886)]) x7_1 y863 (y863.length : Int) (wrap64 (x23_2 + 1))) else (none)) else (none))) else (none)) = some (r1, r2, r3) := by first | (rw [hy882]; exact H) | exact H
                have Ny882 := Aside0.mk hy882
                clear hy882
                have c27 := cp_ H
                replace H := ca_ H
                have c27b0 := decide_eq_true c27
                clear c27
                obtain ⟨y886, hy886⟩ : ∃ y_ : List Int, y_ = (([rd y863 x23_2] : List Int)) := ⟨_, rfl⟩
                replace H : (if (rdOf ByteArray.empty x6_2 x7_1).size + (strOfNums y886).size ≤ 9223372036854775807 then (if x6_2.length < 8796093022208 then (spec_l06Orbit.l1 k2 y882 (x6_2 ++ [(rdOf ByteArray.empty x6_2 x7_1) ++ (strOfNums y886)]) x7_1 y863 (y863.length : Int) (wrap64 (x23_2 + 1))) else (none)) else (none)) = some (r1, r2, r3) := by first | (rw [hy886]; exact H) | exact H
                have Ny886 := Aside0.mk hy886
                clear hy886
                have c28 := cp_ H
                replace H := ca_ H
                have c28b0 := eq_true c28
                have c28b1 := decide_eq_true c28
                try have c28b2 : (9223372036854775807 < (rdOf ByteArray.empty x6_2 x7_1).size + (strOfNums y886).size) = False := eq_false (Nat.not_lt.2 c28)
                have c29 := cp_ H
                replace H := ca_ H
                have LMc29 := Aside0.mk c29
                clear c29
                obtain ⟨y889, hy889⟩ : ∃ y_ : List ByteArray, y_ = (x6_2 ++ [(rdOf ByteArray.empty x6_2 x7_1) ++ (strOfNums y886)]) := ⟨_, rfl⟩
                replace H : (spec_l06Orbit.l1 k2 y882 y889 x7_1 y863 (y863.length : Int) (wrap64 (x23_2 + 1))) = some (r1, r2, r3) := by first | (rw [hy889]; exact H) | exact H
                have Ny889 := Aside0.mk hy889
                clear hy889
                have H' := Aside0.mk H
                clear H
                have p866 : 0 ≤ (x23_2 : Int) := of_decide_eq_true qe_
                have q866 : x23_2 < (y863.length : Int) := of_decide_eq_true qe_
                obtain ⟨ad866, e866, hx866_0⟩ := Kd.at_int (Kd.R_reads' HO_21.out).2.2 x23_2 p866 q866
                cases e866
                replace p866 := eq_true p866
                replace q866 := eq_true q866
                obtain ⟨Ao30, co30, eo30⟩ := Kd.N_slice HO_5.out
                subst eo30
                have p867 : 0 ≤ (x7_1 : Int) := of_decide_eq_true qe_
                have q867 : x7_1 < (x5_2.length : Int) := of_decide_eq_true qe_
                obtain ⟨ad867, A867_0, c867_0, A867_1, c867_1, e867, hx867_0, hx867_1, hl867_0, hi867_0, hl867_1, hi867_1⟩ := at_T25 (Kd.N_reads' HO_5.out).2.2 x7_1 p867 q867
                cases e867
                obtain ⟨ce867, hce867, hMe867, hcc867⟩ := Kd.N_get HO_5.out z25 x7_1 p867 (by first | exact q867 | exact of_decide_eq_true qe_ | (have e_ := (Kd.N_reads' HO_5.out).1; omega))
                obtain ⟨ua867_0, uc867_0, ua867_1, uc867_1, rfl, ul867_0, ge867_0, ul867_1, ge867_1⟩ := k25_openF hMe867
                have hv867_0 := hcc867 0 _ rfl
                rw [Nat.add_zero] at hv867_0
                replace hv867_0 := Option.some.inj (hv867_0.symm.trans hx867_0)
                injection hv867_0 with hva_ hvn_ hvc_
                rw [hva_] at ge867_0
                rw [hvc_] at ul867_0
                have HL867_0 := Aside0.mk (show Kd.V (Kd.int .i64) 3 _ w.heap.size _ _ ((rd_T25 x5_2 x7_1).f0) from Kd.V_mk ul867_0 ge867_0)
                clear hva_ hvn_ hvc_ ge867_0 ul867_0
                have hv867_1 := hcc867 1 _ rfl
                rw [add_field _ _ 1 (by omega)] at hv867_1
                replace hv867_1 := Option.some.inj (hv867_1.symm.trans hx867_1)
                injection hv867_1 with hva_ hvn_ hvc_
                rw [hva_] at ge867_1
                rw [hvc_] at ul867_1
                have HL867_1 := Aside0.mk (show Kd.V (Kd.int .i64) 3 _ w.heap.size _ _ ((rd_T25 x5_2 x7_1).f1) from Kd.V_mk ul867_1 ge867_1)
                clear hva_ hvn_ hvc_ ge867_1 ul867_1
                clear hcc867 hce867
                have HR867_0 := Aside0.mk hi867_0
                have HC867_0 := Aside0.mk hl867_0
                clear hi867_0 hl867_0
                have HR867_1 := Aside0.mk hi867_1
                have HC867_1 := Aside0.mk hl867_1
                clear hi867_1 hl867_1
                replace p867 := eq_true p867
                replace q867 := eq_true q867
                try go_wp2_with (first | ((with_reducible refine gate_callee (f := 87) rfl ?_); refine gL_ (some 32) Try.func87 #[.agg #[.slice A867_0 ((rd_T25 x5_2 x7_1).f0).length c867_0, .slice A867_1 ((rd_T25 x5_2 x7_1).f1).length c867_1], .int .u8 (rd y863 x23_2)] rfl qa_ ?_; (with_reducible refine (spec_l05Letter.calls k2 _ _ ((rd_T25 x5_2 x7_1).f0) _ _ ((rd_T25 x5_2 x7_1).f1) (rd y863 x23_2) t868 t871 _ ?side1 ?side2 ?side3 ?side4 A22.out).mono ?_); (case side1 => repeat (first | exact (by repeat (first | (with_reducible exact HR867_0.out) | (with_reducible refine Kd.C_alloc ?_ _) | (with_reducible refine Kd.C_drewN ?_ _) | (with_reducible refine Kd.C_drew ?_) | exact HR867_0.out)) | (with_reducible refine Kd.C_alloc ?_ _) | (with_reducible refine Kd.C_drewN ?_ _) | (with_reducible refine Kd.C_drew ?_))); (case side2 => exact HC867_0.out); (case side3 => repeat (first | exact (by repeat (first | (with_reducible exact HR867_1.out) | (with_reducible refine Kd.C_alloc ?_ _) | (with_reducible refine Kd.C_drewN ?_ _) | (with_reducible refine Kd.C_drew ?_) | exact HR867_1.out)) | (with_reducible refine Kd.C_alloc ?_ _) | (with_reducible refine Kd.C_drewN ?_ _) | (with_reducible refine Kd.C_drew ?_))); (case side4 => exact HC867_1.out); rintro e w31 ⟨v869, v872, rfl, ho0, ho1, hb⟩; refine ⟨_, rfl, ?_⟩; replace HO_5 := Aside0.mk (Kd.N_mono (Kd.N_told (Kd.N_told (Kd.N_old (by (with_reducible repeat (first | apply Kd.N_alloc | apply Kd.N_drewN | apply Kd.N_drew)); exact HO_5.out) hb) (Kd.R_base ho0)) (Kd.R_base ho1)) (fun _ h_ => h_.1)); replace HO_6 := rb_ HO_6 hb; replace HO_21 := rb_ HO_21 hb; replace HL867_0 := Aside0.mk (Kd.V_mono (Kd.V_told (Kd.V_told (Kd.V_old (by (with_reducible repeat (first | apply Kd.V_alloc | apply Kd.V_drewN | apply Kd.V_drew)); exact HL867_0.out) hb) (Kd.R_base ho0)) (Kd.R_base ho1)) (fun _ h_ => h_.1)); replace HL867_1 := Aside0.mk (Kd.V_mono (Kd.V_told (Kd.V_told (Kd.V_old (by (with_reducible repeat (first | apply Kd.V_alloc | apply Kd.V_drewN | apply Kd.V_drew)); exact HL867_1.out) hb) (Kd.R_base ho0)) (Kd.R_base ho1)) (fun _ h_ => h_.1)); have HO870 := Aside0.mk (Kd.R_lower (Kd.R_newM (M := fun k_ => (w.heap.size ≤ k_)) ho0 (below_size hB_) (fun k_ h_ => h_)) (below_size hB_)); have HO873 := Aside0.mk (Kd.R_lower (Kd.R_newM (M := fun k_ => (w.heap.size ≤ k_)) ho1 (below_size hB_) (fun k_ h_ => h_)) (below_size hB_)); replace BK850 := bb_ BK850 hb; replace HR867_0 := Aside0.mk (Kd.C_below (by repeat (first | (with_reducible exact HR867_0.out) | (with_reducible refine Kd.C_alloc ?_ _) | (with_reducible refine Kd.C_drewN ?_ _) | (with_reducible refine Kd.C_drew ?_) | exact HR867_0.out)) hb); replace HR867_1 := Aside0.mk (Kd.C_below (by repeat (first | (with_reducible exact HR867_1.out) | (with_reducible refine Kd.C_alloc ?_ _) | (with_reducible refine Kd.C_drewN ?_ _) | (with_reducible refine Kd.C_drew ?_) | exact HR867_1.out)) hb); replace HB := b1_ hb; clear hb ho0 ho1; obtain ⟨Ao32, co32, eo32⟩ := Kd.R_slice HO870.out; subst eo32; obtain ⟨Ao33, co33, eo33⟩ := Kd.R_slice HO873.out; subst eo33) | ((with_reducible refine gate_callee (f := 82) rfl ?_); refine gL_ (some 33) Try.func82 #[.agg #[.slice Ao32 t868.length co32, .slice Ao33 t871.length co33]] rfl qa_ ?_; (with_reducible refine (spec_l03Canon.calls k2 _ _ t868 _ _ t871 t874 t877 _ (cr_ HO870) ((Kd.R_reads' HO870.out).2.1) (cr_ HO873) ((Kd.R_reads' HO873.out).2.1) A23.out).mono ?_); rintro e w34 ⟨v875, v878, rfl, ho0, ho1, hb⟩; refine ⟨_, rfl, ?_⟩; replace HO_5 := Aside0.mk (Kd.N_mono (Kd.N_told (Kd.N_told (Kd.N_old (by (with_reducible repeat (first | apply Kd.N_alloc | apply Kd.N_drewN | apply Kd.N_drew)); exact HO_5.out) hb) (Kd.R_base ho0)) (Kd.R_base ho1)) (fun _ h_ => h_.1)); replace HO_6 := rb_ HO_6 hb; replace HO_21 := rb_ HO_21 hb; replace HL867_0 := Aside0.mk (Kd.V_mono (Kd.V_told (Kd.V_told (Kd.V_old (by (with_reducible repeat (first | apply Kd.V_alloc | apply Kd.V_drewN | apply Kd.V_drew)); exact HL867_0.out) hb) (Kd.R_base ho0)) (Kd.R_base ho1)) (fun _ h_ => h_.1)); replace HL867_1 := Aside0.mk (Kd.V_mono (Kd.V_told (Kd.V_told (Kd.V_old (by (with_reducible repeat (first | apply Kd.V_alloc | apply Kd.V_drewN | apply Kd.V_drew)); exact HL867_1.out) hb) (Kd.R_base ho0)) (Kd.R_base ho1)) (fun _ h_ => h_.1)); have HO876 := Aside0.mk (Kd.R_lower (Kd.R_new' (Kd.R_new' (Kd.R_newM (M := fun k_ => (w.heap.size ≤ k_)) ho0 (below_size hB_) (fun k_ h_ => h_)) (Kd.R_lt (rr_ HO870))) (Kd.R_lt (rr_ HO873))) (below_size hB_)); have HO879 := Aside0.mk (Kd.R_lower (Kd.R_new' (Kd.R_new' (Kd.R_newM (M := fun k_ => (w.heap.size ≤ k_)) ho1 (below_size hB_) (fun k_ h_ => h_)) (Kd.R_lt (rr_ HO870))) (Kd.R_lt (rr_ HO873))) (below_size hB_)); replace HO870 := Aside0.mk (Kd.R_mono (Kd.R_told (Kd.R_told (Kd.R_old (rr_ HO870) hb) (Kd.R_base ho0)) (Kd.R_base ho1)) (fun _ h_ => h_.1)); replace HO873 := Aside0.mk (Kd.R_mono (Kd.R_told (Kd.R_told (Kd.R_old (rr_ HO873) hb) (Kd.R_base ho0)) (Kd.R_base ho1)) (fun _ h_ => h_.1)); replace BK850 := bb_ BK850 hb; replace HR867_0 := Aside0.mk (Kd.C_below (by repeat (first | (with_reducible exact HR867_0.out) | (with_reducible refine Kd.C_alloc ?_ _) | (with_reducible refine Kd.C_drewN ?_ _) | (with_reducible refine Kd.C_drew ?_) | exact HR867_0.out)) hb); replace HR867_1 := Aside0.mk (Kd.C_below (by repeat (first | (with_reducible exact HR867_1.out) | (with_reducible refine Kd.C_alloc ?_ _) | (with_reducible refine Kd.C_drewN ?_ _) | (with_reducible refine Kd.C_drew ?_) | exact HR867_1.out)) hb); replace HB := b1_ hb; clear hb ho0 ho1) | ((with_reducible refine gate_dst (N := 10) rfl ?_); refine bx_ 10 #[.slice none 0 0, .slice none 0 0] 25 ?_; intro gb880 hg w35 hbox hb; replace HO_5 := Aside0.mk (Kd.N_below (Kd.N_elderB (by (with_reducible repeat (first | apply Kd.N_alloc | apply Kd.N_drewN | apply Kd.N_drew)); exact HO_5.out) gb880 (Nat.le_of_eq hg.symm)) hb); replace HO_6 := rb_ HO_6 hb; replace HO_21 := rb_ HO_21 hb; replace HL867_0 := Aside0.mk (Kd.V_below (Kd.V_elderB (by (with_reducible repeat (first | apply Kd.V_alloc | apply Kd.V_drewN | apply Kd.V_drew)); exact HL867_0.out) gb880 (Nat.le_of_eq hg.symm)) hb); replace HL867_1 := Aside0.mk (Kd.V_below (Kd.V_elderB (by (with_reducible repeat (first | apply Kd.V_alloc | apply Kd.V_drewN | apply Kd.V_drew)); exact HL867_1.out) gb880 (Nat.le_of_eq hg.symm)) hb); replace HO870 := rb_ HO870 hb; replace HO873 := rb_ HO873 hb; replace HO876 := rb_ HO876 hb; replace HO879 := rb_ HO879 hb; replace HR867_0 := Aside0.mk (Kd.C_below (by repeat (first | (with_reducible exact HR867_0.out) | (with_reducible refine Kd.C_alloc ?_ _) | (with_reducible refine Kd.C_drewN ?_ _) | (with_reducible refine Kd.C_drew ?_) | exact HR867_0.out)) hb); replace HR867_1 := Aside0.mk (Kd.C_below (by repeat (first | (with_reducible exact HR867_1.out) | (with_reducible refine Kd.C_alloc ?_ _) | (with_reducible refine Kd.C_drewN ?_ _) | (with_reducible refine Kd.C_drew ?_) | exact HR867_1.out)) hb); have BK880 := Aside0.mk hbox; have GW880 := gw_ w hg; have GE880 := GW880; replace HB := b1_ hb; have NB850_880 := gN_ BK850 hg; have NB880_850 := gP_ BK850 hg; replace BK850 := bb_ BK850 hb; clear hb hbox hg; obtain ⟨Ao36, co36, eo36⟩ := Kd.R_slice HO876.out; subst eo36; have hnb37 := NB880_850.out; have hnc37 := NB850_880.out; obtain ⟨hcz38_0, hcz38_1, hfz38_0, hfz38_1⟩ := c2_ BK880; obtain ⟨Ao39, co39, eo39⟩ := Kd.R_slice HO879.out; subst eo39) | ((with_reducible refine gate_callee (f := 81) rfl ?_); refine gL_ (some 36) Try.func81 #[.slice (some ad867) x5_2.length co30, .agg #[.slice Ao36 t874.length co36, .slice Ao39 t877.length co39]] rfl qa_ ?_; (with_reducible refine (spec_l06Find.calls k2 _ _ x5_2 _ _ t874 _ _ t877 t881 _ ?side1 ?side2 ?side3 ?side4 ?side5 ?side6 A24.out).mono ?_); (case side1 => refine (Kd.N_reads' (e := 25) (base := w.heap.size) (ok := fun k_ => (((((((w.heap.size ≤ k_) ∧ (some k_ ≠ (u6 : Value).ownBlock ∧ (some k_ ≠ (.slice (some ad866) y863.length co16 : Value).ownBlock ∧ k_ ≠ gb850))) ∧ some k_ ≠ (.slice Ao32 t868.length co32 : Value).ownBlock) ∧ some k_ ≠ (.slice Ao33 t871.length co33 : Value).ownBlock) ∧ some k_ ≠ (.slice Ao36 t874.length co36 : Value).ownBlock) ∧ some k_ ≠ (.slice Ao39 t877.length co39 : Value).ownBlock) ∧ k_ ≠ gb880)) (n := x5_2.length) (c := co30) ?_).2.2; exact (by (with_reducible repeat (first | apply Kd.N_alloc | apply Kd.N_drewN | apply Kd.N_drew)); exact (Kd.N_mono (Kd.N_far (p := ⟨gb880, 1, none⟩) (Kd.N_far (p := ⟨gb880, 0, none⟩) (Kd.N_mono HO_5.out (fun k_ hk => (⟨hk, hk.2⟩ : _ ∧ k_ ≠ gb880))) (fun _ hk => hk.2) (.slice Ao36 t874.length co36)) (fun _ hk => hk.2) (.slice Ao39 t877.length co39)) (fun _ h_ => h_.1)))); (case side2 => exact (Kd.N_reads' HO_5.out).2.1); (case side3 => refine (Kd.R_reads' (e := 3) (base := w.heap.size) (ok := fun k_ => ((((w.heap.size ≤ k_) ∧ some k_ ≠ (.slice Ao39 t877.length co39 : Value).ownBlock) ∧ some k_ ≠ (.slice Ao32 t868.length co32 : Value).ownBlock) ∧ some k_ ≠ (.slice Ao33 t871.length co33 : Value).ownBlock)) (n := t874.length) (c := co36) ?_).2.2; exact (rw_ (fa_ HO876 BK880))); (case side4 => exact (Kd.R_reads' HO876.out).2.1); (case side5 => refine (Kd.R_reads' (e := 3) (base := w.heap.size) (ok := fun k_ => ((((w.heap.size ≤ k_) ∧ some k_ ≠ (.slice Ao36 t874.length co36 : Value).ownBlock) ∧ some k_ ≠ (.slice Ao32 t868.length co32 : Value).ownBlock) ∧ some k_ ≠ (.slice Ao33 t871.length co33 : Value).ownBlock)) (n := t877.length) (c := co39) ?_).2.2; exact (rw_ (fa_ HO879 BK880))); (case side6 => exact (Kd.R_reads' HO879.out).2.1); rintro e w40 ⟨rfl, hb⟩; refine ⟨_, rfl, ?_⟩; replace HO_5 := Aside0.mk (Kd.N_below (by (with_reducible repeat (first | apply Kd.N_alloc | apply Kd.N_drewN | apply Kd.N_drew)); exact (Kd.N_mono (Kd.N_far (p := ⟨gb880, 1, none⟩) (Kd.N_far (p := ⟨gb880, 0, none⟩) (Kd.N_mono HO_5.out (fun k_ hk => (⟨hk, hk.2⟩ : _ ∧ k_ ≠ gb880))) (fun _ hk => hk.2) (.slice Ao36 t874.length co36)) (fun _ hk => hk.2) (.slice Ao39 t877.length co39)) (fun _ h_ => h_.1))) hb); replace HO_6 := Aside0.mk (Kd.R_below (rw_ (fa_ HO_6 BK880)) hb); replace HO_21 := Aside0.mk (Kd.R_below (rw_ (fa_ HO_21 BK880)) hb); replace HO870 := Aside0.mk (Kd.R_below (rw_ (fa_ HO870 BK880)) hb); replace HO873 := Aside0.mk (Kd.R_below (rw_ (fa_ HO873 BK880)) hb); replace HO876 := Aside0.mk (Kd.R_below (rw_ (fa_ HO876 BK880)) hb); replace HO879 := Aside0.mk (Kd.R_below (rw_ (fa_ HO879 BK880)) hb); replace BK850 := Aside0.mk (blk_below (g := gb850) (o := .cells #[.slice A0_0 l0_0.length c0_0, .slice A0_1 l0_1.length c0_1] 25 (0, 0)) (by (with_reducible repeat (first | refine blk_drewN ?_ _ | refine blk_drew ?_ | refine blk_alloc ?_ _)); refine blk_far ?_ NB850_880.out _; (with_reducible repeat (first | refine blk_drewN ?_ _ | refine blk_drew ?_ | refine blk_alloc ?_ _)); refine blk_far ?_ NB850_880.out _; (with_reducible repeat (first | refine blk_drewN ?_ _ | refine blk_drew ?_ | refine blk_alloc ?_ _)); exact BK850.out) hb); replace HR867_0 := Aside0.mk (Kd.C_below ((Kd.V_reads' (by (with_reducible repeat (first | apply Kd.V_alloc | apply Kd.V_drewN | apply Kd.V_drew)); exact (Kd.V_mono (Kd.V_far (p := ⟨gb880, 1, none⟩) (Kd.V_far (p := ⟨gb880, 0, none⟩) (Kd.V_mono HL867_0.out (fun k_ hk => (⟨hk, hk.2⟩ : _ ∧ k_ ≠ gb880))) (fun _ hk => hk.2) (.slice Ao36 t874.length co36)) (fun _ hk => hk.2) (.slice Ao39 t877.length co39)) (fun _ h_ => h_.1)))).2.2) hb); replace HL867_0 := Aside0.mk (Kd.V_below (by (with_reducible repeat (first | apply Kd.V_alloc | apply Kd.V_drewN | apply Kd.V_drew)); exact (Kd.V_mono (Kd.V_far (p := ⟨gb880, 1, none⟩) (Kd.V_far (p := ⟨gb880, 0, none⟩) (Kd.V_mono HL867_0.out (fun k_ hk => (⟨hk, hk.2⟩ : _ ∧ k_ ≠ gb880))) (fun _ hk => hk.2) (.slice Ao36 t874.length co36)) (fun _ hk => hk.2) (.slice Ao39 t877.length co39)) (fun _ h_ => h_.1))) hb); replace HR867_1 := Aside0.mk (Kd.C_below ((Kd.V_reads' (by (with_reducible repeat (first | apply Kd.V_alloc | apply Kd.V_drewN | apply Kd.V_drew)); exact (Kd.V_mono (Kd.V_far (p := ⟨gb880, 1, none⟩) (Kd.V_far (p := ⟨gb880, 0, none⟩) (Kd.V_mono HL867_1.out (fun k_ hk => (⟨hk, hk.2⟩ : _ ∧ k_ ≠ gb880))) (fun _ hk => hk.2) (.slice Ao36 t874.length co36)) (fun _ hk => hk.2) (.slice Ao39 t877.length co39)) (fun _ h_ => h_.1)))).2.2) hb); replace HL867_1 := Aside0.mk (Kd.V_below (by (with_reducible repeat (first | apply Kd.V_alloc | apply Kd.V_drewN | apply Kd.V_drew)); exact (Kd.V_mono (Kd.V_far (p := ⟨gb880, 1, none⟩) (Kd.V_far (p := ⟨gb880, 0, none⟩) (Kd.V_mono HL867_1.out (fun k_ hk => (⟨hk, hk.2⟩ : _ ∧ k_ ≠ gb880))) (fun _ hk => hk.2) (.slice Ao36 t874.length co36)) (fun _ hk => hk.2) (.slice Ao39 t877.length co39)) (fun _ h_ => h_.1))) hb); replace BK880 := Aside0.mk (blk_below (g := gb880) (o := .cells #[.slice Ao36 t874.length co36, .slice Ao39 t877.length co39] 25 (0, 0)) qp_ hb); replace HB := b1_ hb; clear hb; obtain ⟨hcz41_0, hcz41_1, hfz41_0, hfz41_1⟩ := c2_ BK880) | ((with_reducible refine gate_builtin (b := .append) (xs := #[.tmp 38, .tmp 40]) rfl ?_); at_builtin; refine Kd.N_append k25 (w0 := w) w.heap.size rfl (.tmp 38) (.tmp 40) 36 25 (.agg #[(.slice none 0 0), (.slice none 0 0)]) 48 rfl Try.underlying36 info25 rfl (by decide) (by omega) (.slice (some ad867) x5_2.length co30) x5_2 (⟨t874, t877⟩ : S25) [.slice Ao36 t874.length co36, .slice Ao39 t877.length co39] (fun k_ => (w.heap.size ≤ k_) ∧ some k_ ≠ (u6 : Value).ownBlock ∧ some k_ ≠ (.slice (some ad866) y863.length co16 : Value).ownBlock ∧ some k_ ≠ (.slice Ao32 t868.length co32 : Value).ownBlock ∧ some k_ ≠ (.slice Ao33 t871.length co33 : Value).ownBlock ∧ k_ ≠ gb850 ∧ k_ ≠ gb880) (fun k_ => ((fun k_ => (w.heap.size ≤ k_) ∧ some k_ ≠ (u6 : Value).ownBlock ∧ some k_ ≠ (.slice (some ad866) y863.length co16 : Value).ownBlock ∧ some k_ ≠ (.slice Ao32 t868.length co32 : Value).ownBlock ∧ some k_ ≠ (.slice Ao33 t871.length co33 : Value).ownBlock ∧ k_ ≠ gb850 ∧ k_ ≠ gb880)) k_ ∧ some k_ ≠ (.slice (some ad867) x5_2.length co30 : Value).ownBlock) rfl rfl ?aP (fun _ hk => hk) ?aF ?aO ?aB ?aS ?aL ?_; (case aP => exact (k25_mkF _ _ (⟨t874, t877⟩ : S25) (Kd.R_reads' (Kd.R_mono (ok' := (fun k_ => ((fun k_ => (w.heap.size ≤ k_) ∧ some k_ ≠ (u6 : Value).ownBlock ∧ some k_ ≠ (.slice (some ad866) y863.length co16 : Value).ownBlock ∧ some k_ ≠ (.slice Ao32 t868.length co32 : Value).ownBlock ∧ some k_ ≠ (.slice Ao33 t871.length co33 : Value).ownBlock ∧ k_ ≠ gb850 ∧ k_ ≠ gb880)) k_ ∧ some k_ ≠ (.slice (some ad867) x5_2.length co30 : Value).ownBlock)) (Kd.R_types (Kd.R_types (Kd.R_apart' (Kd.R_apart' (Kd.R_apart' (HO876.out) (Kd.R_typed HO_6.out) (by decide)) (Kd.R_typed HO_21.out) (by decide)) (Kd.N_typed HO_5.out) (by decide)) BK850.out (by decide)) BK880.out (by decide)) (fun k_ hk => ⟨⟨hk.1.1.1.1.1.1.1.1, ⟨hk.1.1.1.1.2, ⟨hk.1.1.1.2, ⟨hk.1.1.1.1.1.1.2, ⟨hk.1.1.1.1.1.2, ⟨hk.1.2, hk.2⟩⟩⟩⟩⟩⟩, hk.1.1.2⟩))).2.1 (Kd.R_F (Kd.R_mono (ok' := (fun k_ => ((fun k_ => (w.heap.size ≤ k_) ∧ some k_ ≠ (u6 : Value).ownBlock ∧ some k_ ≠ (.slice (some ad866) y863.length co16 : Value).ownBlock ∧ some k_ ≠ (.slice Ao32 t868.length co32 : Value).ownBlock ∧ some k_ ≠ (.slice Ao33 t871.length co33 : Value).ownBlock ∧ k_ ≠ gb850 ∧ k_ ≠ gb880)) k_ ∧ some k_ ≠ (.slice (some ad867) x5_2.length co30 : Value).ownBlock)) (Kd.R_types (Kd.R_types (Kd.R_apart' (Kd.R_apart' (Kd.R_apart' (HO876.out) (Kd.R_typed HO_6.out) (by decide)) (Kd.R_typed HO_21.out) (by decide)) (Kd.N_typed HO_5.out) (by decide)) BK850.out (by decide)) BK880.out (by decide)) (fun k_ hk => ⟨⟨hk.1.1.1.1.1.1.1.1, ⟨hk.1.1.1.1.2, ⟨hk.1.1.1.2, ⟨hk.1.1.1.1.1.1.2, ⟨hk.1.1.1.1.1.2, ⟨hk.1.2, hk.2⟩⟩⟩⟩⟩⟩, hk.1.1.2⟩))) (Kd.R_reads' (Kd.R_mono (ok' := (fun k_ => ((fun k_ => (w.heap.size ≤ k_) ∧ some k_ ≠ (u6 : Value).ownBlock ∧ some k_ ≠ (.slice (some ad866) y863.length co16 : Value).ownBlock ∧ some k_ ≠ (.slice Ao32 t868.length co32 : Value).ownBlock ∧ some k_ ≠ (.slice Ao33 t871.length co33 : Value).ownBlock ∧ k_ ≠ gb850 ∧ k_ ≠ gb880)) k_ ∧ some k_ ≠ (.slice (some ad867) x5_2.length co30 : Value).ownBlock)) (Kd.R_types (Kd.R_types (Kd.R_apart' (Kd.R_apart' (Kd.R_apart' (HO879.out) (Kd.R_typed HO_6.out) (by decide)) (Kd.R_typed HO_21.out) (by decide)) (Kd.N_typed HO_5.out) (by decide)) BK850.out (by decide)) BK880.out (by decide)) (fun k_ hk => ⟨⟨hk.1.1.1.1.1.1.1.1, ⟨hk.1.1.1.1.2, ⟨hk.1.1.1.2, ⟨hk.1.1.1.1.1.1.2, ⟨hk.1.1.1.1.1.2, ⟨hk.1.2, hk.2⟩⟩⟩⟩⟩⟩, hk.1.1.2⟩))).2.1 (Kd.R_F (Kd.R_mono (ok' := (fun k_ => ((fun k_ => (w.heap.size ≤ k_) ∧ some k_ ≠ (u6 : Value).ownBlock ∧ some k_ ≠ (.slice (some ad866) y863.length co16 : Value).ownBlock ∧ some k_ ≠ (.slice Ao32 t868.length co32 : Value).ownBlock ∧ some k_ ≠ (.slice Ao33 t871.length co33 : Value).ownBlock ∧ k_ ≠ gb850 ∧ k_ ≠ gb880)) k_ ∧ some k_ ≠ (.slice (some ad867) x5_2.length co30 : Value).ownBlock)) (Kd.R_types (Kd.R_types (Kd.R_apart' (Kd.R_apart' (Kd.R_apart' (HO879.out) (Kd.R_typed HO_6.out) (by decide)) (Kd.R_typed HO_21.out) (by decide)) (Kd.N_typed HO_5.out) (by decide)) BK850.out (by decide)) BK880.out (by decide)) (fun k_ hk => ⟨⟨hk.1.1.1.1.1.1.1.1, ⟨hk.1.1.1.1.2, ⟨hk.1.1.1.2, ⟨hk.1.1.1.1.1.1.2, ⟨hk.1.1.1.1.1.2, ⟨hk.1.2, hk.2⟩⟩⟩⟩⟩⟩, hk.1.1.2⟩))))); (case aB => exact hB_); (case aF => exact (fun k_ hk => ⟨(Nat.le_trans (below_size hB_) hk), Kd.fresh' (Kd.R_lt (rr_ HO_6)) k_ hk, Kd.fresh' (Kd.R_lt (rr_ HO_21)) k_ hk, Kd.fresh' (Kd.R_lt (rr_ HO870)) k_ hk, Kd.fresh' (Kd.R_lt (rr_ HO873)) k_ hk, Kd.freshB (kk_ BK850) k_ hk, Kd.freshB (kk_ BK880) k_ hk⟩)); (case aO => exact (by (with_reducible repeat (first | apply Kd.N_alloc | apply Kd.N_drewN | apply Kd.N_drew)); exact Kd.N_mono HO_5.out (fun _ hk => ⟨hk.1.1.1.1.1.1, ⟨hk.1.1.1.1.1.2.1, ⟨hk.1.1.1.1.1.2.2.1, ⟨hk.1.1.1.1.2, ⟨hk.1.1.1.2, ⟨hk.1.1.1.1.1.2.2.2, hk.2⟩⟩⟩⟩⟩⟩))); (case aS => exact (below_size hB_)); (case aL => have := LMc26.out; omega); intro v883 w42 ho hb hg hat; rw [← Ny882.out] at ho; replace HO_6 := Aside0.mk (Kd.R_over' (rr_ HO_6) (Kd.N_typed (by (with_reducible repeat (first | apply Kd.N_alloc | apply Kd.N_drewN | apply Kd.N_drew)); exact HO_5.out)) (by decide) hg); replace HO_21 := Aside0.mk (Kd.R_over' (rr_ HO_21) (Kd.N_typed (by (with_reducible repeat (first | apply Kd.N_alloc | apply Kd.N_drewN | apply Kd.N_drew)); exact HO_5.out)) (by decide) hg); replace BK850 := Aside0.mk (blk_grown (kk_ BK850) hg (Kd.N_away HO_5.out (fun _ hk => hk.1.1.1.1.1.2.2.2))); replace HL867_0 := Aside0.mk (Kd.V_afterv (ok := (fun k_ => (w.heap.size ≤ k_) ∧ some k_ ≠ (u6 : Value).ownBlock ∧ some k_ ≠ (.slice (some ad866) y863.length co16 : Value).ownBlock ∧ some k_ ≠ (.slice Ao32 t868.length co32 : Value).ownBlock ∧ some k_ ≠ (.slice Ao33 t871.length co33 : Value).ownBlock ∧ some k_ ≠ (.slice Ao36 t874.length co36 : Value).ownBlock ∧ some k_ ≠ (.slice Ao39 t877.length co39 : Value).ownBlock ∧ k_ ≠ gb850 ∧ k_ ≠ gb880)) (by (with_reducible repeat (first | apply Kd.V_alloc | apply Kd.V_drewN | apply Kd.V_drew)); exact Kd.V_mono HL867_0.out (fun _ hk => ⟨⟨hk.1.1.1.1.1.1.1, ⟨hk.1.1.1.1.1.1.2.1, ⟨hk.1.1.1.1.1.1.2.2.1, ⟨hk.1.1.1.1.2, ⟨hk.1.1.1.2, ⟨hk.1.1.2, ⟨hk.1.2, ⟨hk.1.1.1.1.1.1.2.2.2, hk.2⟩⟩⟩⟩⟩⟩⟩⟩, hk.1.1.1.1.1.2⟩)) hg hat); replace HL867_1 := Aside0.mk (Kd.V_afterv (ok := (fun k_ => (w.heap.size ≤ k_) ∧ some k_ ≠ (u6 : Value).ownBlock ∧ some k_ ≠ (.slice (some ad866) y863.length co16 : Value).ownBlock ∧ some k_ ≠ (.slice Ao32 t868.length co32 : Value).ownBlock ∧ some k_ ≠ (.slice Ao33 t871.length co33 : Value).ownBlock ∧ some k_ ≠ (.slice Ao36 t874.length co36 : Value).ownBlock ∧ some k_ ≠ (.slice Ao39 t877.length co39 : Value).ownBlock ∧ k_ ≠ gb850 ∧ k_ ≠ gb880)) (by (with_reducible repeat (first | apply Kd.V_alloc | apply Kd.V_drewN | apply Kd.V_drew)); exact Kd.V_mono HL867_1.out (fun _ hk => ⟨⟨hk.1.1.1.1.1.1.1, ⟨hk.1.1.1.1.1.1.2.1, ⟨hk.1.1.1.1.1.1.2.2.1, ⟨hk.1.1.1.1.2, ⟨hk.1.1.1.2, ⟨hk.1.1.2, ⟨hk.1.2, ⟨hk.1.1.1.1.1.1.2.2.2, hk.2⟩⟩⟩⟩⟩⟩⟩⟩, hk.1.1.1.1.1.2⟩)) hg hat); replace HO870 := Aside0.mk (Kd.R_over' (rr_ HO870) (Kd.N_typed (by (with_reducible repeat (first | apply Kd.N_alloc | apply Kd.N_drewN | apply Kd.N_drew)); exact HO_5.out)) (by decide) hg); replace HO873 := Aside0.mk (Kd.R_over' (rr_ HO873) (Kd.N_typed (by (with_reducible repeat (first | apply Kd.N_alloc | apply Kd.N_drewN | apply Kd.N_drew)); exact HO_5.out)) (by decide) hg); replace BK880 := Aside0.mk (blk_grown (kk_ BK880) hg (Kd.N_away HO_5.out (fun _ hk => hk.2))); replace HB := Aside0.mk hb; have HO884 := Aside0.mk ho; clear HO_5 HO876 HO879; clear ho hb hg hat; obtain ⟨Ao43, co43, eo43⟩ := Kd.R_slice HO_6.out; subst eo43; have p885 : 0 ≤ (x7_1 : Int) := of_decide_eq_true qe_; have q885 : x7_1 < (x6_2.length : Int) := of_decide_eq_true qe_; obtain ⟨ad885, e885, hx885_0⟩ := Kd.at_string (Kd.R_reads' HO_6.out).2.2 x7_1 p885 q885; cases e885; replace p885 := eq_true p885; replace q885 := eq_true q885))
                replace HO_6 := Aside0.mk (Kd.R_drew HO_6.out)
                replace HO_21 := Aside0.mk (Kd.R_drew HO_21.out)
                replace HL867_0 := Aside0.mk (Kd.V_drew HL867_0.out)
                replace HL867_1 := Aside0.mk (Kd.V_drew HL867_1.out)
                replace HO870 := Aside0.mk (Kd.R_drew HO870.out)
                replace HO873 := Aside0.mk (Kd.R_drew HO873.out)
                replace HO884 := Aside0.mk (Kd.N_drew HO884.out)
                replace BK850 := Aside0.mk (blk_drew BK850.out)
                replace BK880 := Aside0.mk (blk_drew BK880.out)
                replace HB := Aside0.mk (below_drew1 HB.out)
                have hx_ : w42.drew.cell? (ad885.add (x7_1).toNat) = some (.string (rdOf ByteArray.empty x6_2 x7_1)) := hx885_0
                refine start_ (n := 12) (S := fun w' => w'.cell? (ad885.add (x7_1).toNat) = some (.string (rdOf ByteArray.empty x6_2 x7_1))) (ds := [10]) (bl_ 12 0) (by kernel_rfl) rfl (by kernel_rfl) hx_ (fun hHeld => ?_); refine with_tabW spec_l06Orbit.tab12 spec_l06Orbit.bits12 (fun HT_ HW_ => ?_)
                generalize w42.drew = w44 at HO_6 HO_21 HL867_0 HL867_1 HO870 HO873 HO884 BK850 BK880 HB hHeld ⊢
                refine pu_ 0 (some 42) (bl_ 12 1) HT_ ?_
                refine pu_ 1 (some 43) (bl_ 12 3) HT_ ?_
                refine pu_ 2 (some 44) (bl_ 12 7) HT_ ?_
                refine pu_ 3 (some 45) (bl_ 12 15) HT_ ?_
                refine ta_ 4 (some 46) (bl_ 12 31) HT_ HW_ hHeld ?_
                refine pu_ 5 (some 47) (bl_ 12 63) HT_ ?_
                refine on_ 6 (some 48) (bl_ 12 127) HT_ (fun K hK => ?_)
                refine Kd.R_lit_step (Kd.int .u8) _ 5 ?hg (N := 48) ?hd (xs := ([rd y863 x23_2] : List Int)) (inner := [.int .u8 (rd y863 x23_2)]) (ok := fun _ => True) (okp := fun _ => True) ?hr ?hp (fun _ hk => hk) trivial (Below.refl _ _) (Nat.le_refl _) (by simp) ?_; (case hd => rfl); (case hg => rfl); (case hr => first | (go_simp; done) | (go_simp; rfl)); (case hp => exact (Reps.one (show Kd.M (Kd.int .u8) _ _ _ (rd y863 x23_2) [.int .u8 (rd y863 x23_2)] from rfl) (Reps.none _ _)))
                intro v887 w45 ho46 hb hg_ hnew_
                have hS1_ := (hb.cell (World.block_lt_of_cell? _ _ hHeld)).trans hHeld
                clear hg_ hnew_
                (first | rw [← Ny886.out] at ho46 | (simp only [Int.reduceToNat] at ho46; rw [← Ny886.out] at ho46))
                replace HO_6 := rb_ HO_6 hb
                replace HL867_0 := Aside0.mk (Kd.V_elder' (by (with_reducible repeat (first | apply Kd.V_alloc | apply Kd.V_drewN | apply Kd.V_drew)); exact HL867_0.out) (Kd.R_base ho46) hb)
                replace HL867_1 := Aside0.mk (Kd.V_elder' (by (with_reducible repeat (first | apply Kd.V_alloc | apply Kd.V_drewN | apply Kd.V_drew)); exact HL867_1.out) (Kd.R_base ho46) hb)
                replace HO870 := rb_ HO870 hb
                replace HO873 := rb_ HO873 hb
                replace HO884 := Aside0.mk (Kd.N_elder' (by (with_reducible repeat (first | apply Kd.N_alloc | apply Kd.N_drewN | apply Kd.N_drew)); exact HO884.out) (Kd.R_base ho46) hb)
                have HO888 := Aside0.mk (Kd.R_lower (Kd.R_new' (Kd.R_newM (M := fun k_ => (w.heap.size ≤ k_)) ho46 (below_size hB_) (fun k_ h_ => h_)) (Kd.R_lt (rr_ HO_21))) (below_size hB_))
                replace HO_21 := Aside0.mk (Kd.R_elder' (rr_ HO_21) (Kd.R_base ho46) hb)
                replace BK850 := bb_ BK850 hb
                replace BK880 := bb_ BK880 hb
                replace HB := b1_ hb
                clear hb ho46
                refine hK.out _ _ hS1_ (fun hHeld => ?_)
                clear hK K
                refine no_ (some 48) ?_
                refine on_ 7 (some 49) (bl_ 12 255) HT_ (fun K hK => ?_)
                have hcv47 := own_string (P := Try.prog) Try.underlying22 Try.underlying5 Try.underlying9 (Kd.own_of_R HO888.out)
                refine value_ (w1 := ?_) (v := ?_) (by rfl) rfl ?_ ?_
                rotate_left 2
                · go_simp
                  constructor
                  · rfl
                  · rfl
                clear hcv47
                refine hK.out _ _ hHeld (fun hHeld => ?_)
                clear hK K
                refine no_ (some 49) ?_
                refine pu_ 8 (some 50) (bl_ 12 511) HT_ ?_
                refine on_ 9 (some 51) (bl_ 12 1023) HT_ (fun K hK => ?_)
                refine value_ (w1 := ?_) (v := ?_) (by rfl) rfl ?_ ?_
                rotate_left 2
                · go_simp
                  constructor
                  · rfl
                  · rfl
                refine hK.out _ _ (by first | exact hHeld | exact ((below_alloc (Below.refl _ _) _).cell (World.block_lt_of_cell? _ _ hHeld)).trans hHeld) (fun hHeld => ?_)
                clear hK K
                refine no_ (some 51) ?_
                refine last_ (i := 10) (N := some 52) (bl_ 12 2047) rfl rfl (one_of HT_.out (by kernel_rfl)) (by decide) (fun K hK => ?_)
                refine Kd.R_append_step Kd.string (w0 := w) w.heap.size (by rfl) (.tmp 42) (.tmp 51) 53 9 (.string ⟨#[]⟩) 16 rfl Try.underlying53 info9 rfl (by decide) (by omega) (.slice (some ad885) x6_2.length co43) x6_2 ((rdOf ByteArray.empty x6_2 x7_1) ++ (strOfNums y886)) [.string ((rdOf ByteArray.empty x6_2 x7_1) ++ (strOfNums y886))] (fun k_ => (w.heap.size ≤ k_)) (fun _ => False) rfl rfl ?aP (fun _ hk => hk.elim) ?aF ?aO ?aB ?aS ?aL ?_
                (case aP => exact rfl)
                (case aB => exact hB_)
                (case aF => exact (fun k_ hk => (Nat.le_trans (below_size hB_) hk)))
                (case aO => exact (rr_ HO_6))
                (case aS => exact (below_size hB_))
                (case aL => have := LMc29.out; omega)
                intro v890 w48 ho hb hg hat
                rw [← Ny889.out] at ho
                replace HO_21 := Aside0.mk (Kd.R_over' (rr_ HO_21) (Kd.R_typed (rr_ HO_6)) (by decide) hg)
                replace BK850 := Aside0.mk (blk_grown (kk_ BK850) hg (Kd.R_ne HO_6.out BK850.out (by decide)))
                replace HL867_0 := Aside0.mk (Kd.V_afterv (ok := (fun k_ => (w.heap.size ≤ k_) ∧ some k_ ≠ (.slice (some ad866) y863.length co16 : Value).ownBlock ∧ some k_ ≠ (.slice Ao32 t868.length co32 : Value).ownBlock ∧ some k_ ≠ (.slice Ao33 t871.length co33 : Value).ownBlock ∧ some k_ ≠ (v883 : Value).ownBlock ∧ some k_ ≠ (v887 : Value).ownBlock ∧ k_ ≠ gb850 ∧ k_ ≠ gb880)) (by (with_reducible repeat (first | apply Kd.V_alloc | apply Kd.V_drewN | apply Kd.V_drew)); exact Kd.V_mono HL867_0.out (fun _ hk => ⟨⟨hk.1.1.1, ⟨hk.1.1.2.2.1, ⟨hk.1.1.2.2.2.1, ⟨hk.1.1.2.2.2.2.1, ⟨hk.1.2, ⟨hk.2, ⟨hk.1.1.2.2.2.2.2.2.2.1, hk.1.1.2.2.2.2.2.2.2.2⟩⟩⟩⟩⟩⟩⟩, hk.1.1.2.1⟩)) hg hat)
                replace HL867_1 := Aside0.mk (Kd.V_afterv (ok := (fun k_ => (w.heap.size ≤ k_) ∧ some k_ ≠ (.slice (some ad866) y863.length co16 : Value).ownBlock ∧ some k_ ≠ (.slice Ao32 t868.length co32 : Value).ownBlock ∧ some k_ ≠ (.slice Ao33 t871.length co33 : Value).ownBlock ∧ some k_ ≠ (v883 : Value).ownBlock ∧ some k_ ≠ (v887 : Value).ownBlock ∧ k_ ≠ gb850 ∧ k_ ≠ gb880)) (by (with_reducible repeat (first | apply Kd.V_alloc | apply Kd.V_drewN | apply Kd.V_drew)); exact Kd.V_mono HL867_1.out (fun _ hk => ⟨⟨hk.1.1.1, ⟨hk.1.1.2.2.1, ⟨hk.1.1.2.2.2.1, ⟨hk.1.1.2.2.2.2.1, ⟨hk.1.2, ⟨hk.2, ⟨hk.1.1.2.2.2.2.2.2.2.1, hk.1.1.2.2.2.2.2.2.2.2⟩⟩⟩⟩⟩⟩⟩, hk.1.1.2.1⟩)) hg hat)
                replace HO870 := Aside0.mk (Kd.R_over' (rr_ HO870) (Kd.R_typed (rr_ HO_6)) (by decide) hg)
                replace HO873 := Aside0.mk (Kd.R_over' (rr_ HO873) (Kd.R_typed (rr_ HO_6)) (by decide) hg)
                replace BK880 := Aside0.mk (blk_grown (kk_ BK880) hg (Kd.R_ne HO_6.out BK880.out (by decide)))
                replace HO884 := Aside0.mk (Kd.N_afterv (ok := (fun k_ => (w.heap.size ≤ k_) ∧ some k_ ≠ (.slice (some ad866) y863.length co16 : Value).ownBlock ∧ some k_ ≠ (.slice Ao32 t868.length co32 : Value).ownBlock ∧ some k_ ≠ (.slice Ao33 t871.length co33 : Value).ownBlock ∧ some k_ ≠ (v887 : Value).ownBlock ∧ k_ ≠ gb850 ∧ k_ ≠ gb880)) (by (with_reducible repeat (first | apply Kd.N_alloc | apply Kd.N_drewN | apply Kd.N_drew)); exact Kd.N_mono HO884.out (fun _ hk => ⟨⟨hk.1.1, ⟨hk.1.2.2.1, ⟨hk.1.2.2.2.1, ⟨hk.1.2.2.2.2.1, ⟨hk.2, ⟨hk.1.2.2.2.2.2.1, hk.1.2.2.2.2.2.2⟩⟩⟩⟩⟩⟩, hk.1.2.1⟩)) hg hat)
                replace HO888 := Aside0.mk (Kd.R_over' (rr_ HO888) (Kd.R_typed (rr_ HO_6)) (by decide) hg)
                replace HB := Aside0.mk hb
                have HO891 := Aside0.mk ho
                clear HO_6
                clear ho hb hg hat
                refine hK.out _ _ ?_
                clear hK K
                refine no_ (some 52) ?_
                refine pu_ 11 (some 6) (bl_ 12 4095) HT_ ?_
                refine done_ (done_of HT_.out (by kernel_rfl)) ?_
                try go_wp2
                go_roundg k2
                case measure => have := HK1.out; have := HK2.out; omega
                case rel => exact ⟨(y882), (y889), (wrap64 (x23_2 + 1)), qc_, H', ⟨by have := HK1.out; have := HK2.out; omega⟩, ⟨by (with_reducible repeat (first | apply Kd.N_alloc | apply Kd.N_drewN | apply Kd.N_drew)); exact Kd.N_mono HO884.out (fun _ hk => ⟨hk.1.1, ⟨hk.2, ⟨hk.1.2.1, hk.1.2.2.2.2.2.1⟩⟩⟩)⟩, ⟨(rr_ HO891)⟩, ⟨(rw_ (Kd.R_mono HO_21.out (fun _ hk => hk.1)))⟩, ⟨(kk_ BK850)⟩, ⟨hB_⟩⟩
              · rw [if_neg c25] at H
                have c25b0 := decide_eq_false c25
                clear c25
                have H' := Aside0.mk H
                clear H
                have p866 : 0 ≤ (x23_2 : Int) := of_decide_eq_true qe_
                have q866 : x23_2 < (y863.length : Int) := of_decide_eq_true qe_
                obtain ⟨ad866, e866, hx866_0⟩ := Kd.at_int (Kd.R_reads' HO_21.out).2.2 x23_2 p866 q866
                cases e866
                replace p866 := eq_true p866
                replace q866 := eq_true q866
                obtain ⟨Ao49, co49, eo49⟩ := Kd.N_slice HO_5.out
                subst eo49
                have p867 : 0 ≤ (x7_1 : Int) := of_decide_eq_true qe_
                have q867 : x7_1 < (x5_2.length : Int) := of_decide_eq_true qe_
                obtain ⟨ad867, A867_0, c867_0, A867_1, c867_1, e867, hx867_0, hx867_1, hl867_0, hi867_0, hl867_1, hi867_1⟩ := at_T25 (Kd.N_reads' HO_5.out).2.2 x7_1 p867 q867
                cases e867
                obtain ⟨ce867, hce867, hMe867, hcc867⟩ := Kd.N_get HO_5.out z25 x7_1 p867 (by first | exact q867 | exact of_decide_eq_true qe_ | (have e_ := (Kd.N_reads' HO_5.out).1; omega))
                obtain ⟨ua867_0, uc867_0, ua867_1, uc867_1, rfl, ul867_0, ge867_0, ul867_1, ge867_1⟩ := k25_openF hMe867
                have hv867_0 := hcc867 0 _ rfl
                rw [Nat.add_zero] at hv867_0
                replace hv867_0 := Option.some.inj (hv867_0.symm.trans hx867_0)
                injection hv867_0 with hva_ hvn_ hvc_
                rw [hva_] at ge867_0
                rw [hvc_] at ul867_0
                have HL867_0 := Aside0.mk (show Kd.V (Kd.int .i64) 3 _ w.heap.size _ _ ((rd_T25 x5_2 x7_1).f0) from Kd.V_mk ul867_0 ge867_0)
                clear hva_ hvn_ hvc_ ge867_0 ul867_0
                have hv867_1 := hcc867 1 _ rfl
                rw [add_field _ _ 1 (by omega)] at hv867_1
                replace hv867_1 := Option.some.inj (hv867_1.symm.trans hx867_1)
                injection hv867_1 with hva_ hvn_ hvc_
                rw [hva_] at ge867_1
                rw [hvc_] at ul867_1
                have HL867_1 := Aside0.mk (show Kd.V (Kd.int .i64) 3 _ w.heap.size _ _ ((rd_T25 x5_2 x7_1).f1) from Kd.V_mk ul867_1 ge867_1)
                clear hva_ hvn_ hvc_ ge867_1 ul867_1
                clear hcc867 hce867
                have HR867_0 := Aside0.mk hi867_0
                have HC867_0 := Aside0.mk hl867_0
                clear hi867_0 hl867_0
                have HR867_1 := Aside0.mk hi867_1
                have HC867_1 := Aside0.mk hl867_1
                clear hi867_1 hl867_1
                replace p867 := eq_true p867
                replace q867 := eq_true q867
                go_wp2_with (first | ((with_reducible refine gate_callee (f := 87) rfl ?_); refine gL_ (some 32) Try.func87 #[.agg #[.slice A867_0 ((rd_T25 x5_2 x7_1).f0).length c867_0, .slice A867_1 ((rd_T25 x5_2 x7_1).f1).length c867_1], .int .u8 (rd y863 x23_2)] rfl qa_ ?_; (with_reducible refine (spec_l05Letter.calls k2 _ _ ((rd_T25 x5_2 x7_1).f0) _ _ ((rd_T25 x5_2 x7_1).f1) (rd y863 x23_2) t868 t871 _ ?side1 ?side2 ?side3 ?side4 A22.out).mono ?_); (case side1 => repeat (first | exact (by repeat (first | (with_reducible exact HR867_0.out) | (with_reducible refine Kd.C_alloc ?_ _) | (with_reducible refine Kd.C_drewN ?_ _) | (with_reducible refine Kd.C_drew ?_) | exact HR867_0.out)) | (with_reducible refine Kd.C_alloc ?_ _) | (with_reducible refine Kd.C_drewN ?_ _) | (with_reducible refine Kd.C_drew ?_))); (case side2 => exact HC867_0.out); (case side3 => repeat (first | exact (by repeat (first | (with_reducible exact HR867_1.out) | (with_reducible refine Kd.C_alloc ?_ _) | (with_reducible refine Kd.C_drewN ?_ _) | (with_reducible refine Kd.C_drew ?_) | exact HR867_1.out)) | (with_reducible refine Kd.C_alloc ?_ _) | (with_reducible refine Kd.C_drewN ?_ _) | (with_reducible refine Kd.C_drew ?_))); (case side4 => exact HC867_1.out); rintro e w50 ⟨v869, v872, rfl, ho0, ho1, hb⟩; refine ⟨_, rfl, ?_⟩; replace HO_5 := Aside0.mk (Kd.N_mono (Kd.N_told (Kd.N_told (Kd.N_old (by (with_reducible repeat (first | apply Kd.N_alloc | apply Kd.N_drewN | apply Kd.N_drew)); exact HO_5.out) hb) (Kd.R_base ho0)) (Kd.R_base ho1)) (fun _ h_ => h_.1)); replace HO_6 := rb_ HO_6 hb; replace HO_21 := rb_ HO_21 hb; replace HL867_0 := Aside0.mk (Kd.V_mono (Kd.V_told (Kd.V_told (Kd.V_old (by (with_reducible repeat (first | apply Kd.V_alloc | apply Kd.V_drewN | apply Kd.V_drew)); exact HL867_0.out) hb) (Kd.R_base ho0)) (Kd.R_base ho1)) (fun _ h_ => h_.1)); replace HL867_1 := Aside0.mk (Kd.V_mono (Kd.V_told (Kd.V_told (Kd.V_old (by (with_reducible repeat (first | apply Kd.V_alloc | apply Kd.V_drewN | apply Kd.V_drew)); exact HL867_1.out) hb) (Kd.R_base ho0)) (Kd.R_base ho1)) (fun _ h_ => h_.1)); have HO870 := Aside0.mk (Kd.R_lower (Kd.R_newM (M := fun k_ => (w.heap.size ≤ k_)) ho0 (below_size hB_) (fun k_ h_ => h_)) (below_size hB_)); have HO873 := Aside0.mk (Kd.R_lower (Kd.R_newM (M := fun k_ => (w.heap.size ≤ k_)) ho1 (below_size hB_) (fun k_ h_ => h_)) (below_size hB_)); replace BK850 := bb_ BK850 hb; replace HR867_0 := Aside0.mk (Kd.C_below (by repeat (first | (with_reducible exact HR867_0.out) | (with_reducible refine Kd.C_alloc ?_ _) | (with_reducible refine Kd.C_drewN ?_ _) | (with_reducible refine Kd.C_drew ?_) | exact HR867_0.out)) hb); replace HR867_1 := Aside0.mk (Kd.C_below (by repeat (first | (with_reducible exact HR867_1.out) | (with_reducible refine Kd.C_alloc ?_ _) | (with_reducible refine Kd.C_drewN ?_ _) | (with_reducible refine Kd.C_drew ?_) | exact HR867_1.out)) hb); replace HB := b1_ hb; clear hb ho0 ho1; obtain ⟨Ao51, co51, eo51⟩ := Kd.R_slice HO870.out; subst eo51; obtain ⟨Ao52, co52, eo52⟩ := Kd.R_slice HO873.out; subst eo52) | ((with_reducible refine gate_callee (f := 82) rfl ?_); refine gL_ (some 33) Try.func82 #[.agg #[.slice Ao51 t868.length co51, .slice Ao52 t871.length co52]] rfl qa_ ?_; (with_reducible refine (spec_l03Canon.calls k2 _ _ t868 _ _ t871 t874 t877 _ (cr_ HO870) ((Kd.R_reads' HO870.out).2.1) (cr_ HO873) ((Kd.R_reads' HO873.out).2.1) A23.out).mono ?_); rintro e w53 ⟨v875, v878, rfl, ho0, ho1, hb⟩; refine ⟨_, rfl, ?_⟩; replace HO_5 := Aside0.mk (Kd.N_mono (Kd.N_told (Kd.N_told (Kd.N_old (by (with_reducible repeat (first | apply Kd.N_alloc | apply Kd.N_drewN | apply Kd.N_drew)); exact HO_5.out) hb) (Kd.R_base ho0)) (Kd.R_base ho1)) (fun _ h_ => h_.1)); replace HO_6 := rb_ HO_6 hb; replace HO_21 := rb_ HO_21 hb; replace HL867_0 := Aside0.mk (Kd.V_mono (Kd.V_told (Kd.V_told (Kd.V_old (by (with_reducible repeat (first | apply Kd.V_alloc | apply Kd.V_drewN | apply Kd.V_drew)); exact HL867_0.out) hb) (Kd.R_base ho0)) (Kd.R_base ho1)) (fun _ h_ => h_.1)); replace HL867_1 := Aside0.mk (Kd.V_mono (Kd.V_told (Kd.V_told (Kd.V_old (by (with_reducible repeat (first | apply Kd.V_alloc | apply Kd.V_drewN | apply Kd.V_drew)); exact HL867_1.out) hb) (Kd.R_base ho0)) (Kd.R_base ho1)) (fun _ h_ => h_.1)); have HO876 := Aside0.mk (Kd.R_lower (Kd.R_new' (Kd.R_new' (Kd.R_newM (M := fun k_ => (w.heap.size ≤ k_)) ho0 (below_size hB_) (fun k_ h_ => h_)) (Kd.R_lt (rr_ HO870))) (Kd.R_lt (rr_ HO873))) (below_size hB_)); have HO879 := Aside0.mk (Kd.R_lower (Kd.R_new' (Kd.R_new' (Kd.R_newM (M := fun k_ => (w.heap.size ≤ k_)) ho1 (below_size hB_) (fun k_ h_ => h_)) (Kd.R_lt (rr_ HO870))) (Kd.R_lt (rr_ HO873))) (below_size hB_)); replace HO870 := Aside0.mk (Kd.R_mono (Kd.R_told (Kd.R_told (Kd.R_old (rr_ HO870) hb) (Kd.R_base ho0)) (Kd.R_base ho1)) (fun _ h_ => h_.1)); replace HO873 := Aside0.mk (Kd.R_mono (Kd.R_told (Kd.R_told (Kd.R_old (rr_ HO873) hb) (Kd.R_base ho0)) (Kd.R_base ho1)) (fun _ h_ => h_.1)); replace BK850 := bb_ BK850 hb; replace HR867_0 := Aside0.mk (Kd.C_below (by repeat (first | (with_reducible exact HR867_0.out) | (with_reducible refine Kd.C_alloc ?_ _) | (with_reducible refine Kd.C_drewN ?_ _) | (with_reducible refine Kd.C_drew ?_) | exact HR867_0.out)) hb); replace HR867_1 := Aside0.mk (Kd.C_below (by repeat (first | (with_reducible exact HR867_1.out) | (with_reducible refine Kd.C_alloc ?_ _) | (with_reducible refine Kd.C_drewN ?_ _) | (with_reducible refine Kd.C_drew ?_) | exact HR867_1.out)) hb); replace HB := b1_ hb; clear hb ho0 ho1) | ((with_reducible refine gate_dst (N := 10) rfl ?_); refine bx_ 10 #[.slice none 0 0, .slice none 0 0] 25 ?_; intro gb880 hg w54 hbox hb; replace HO_5 := Aside0.mk (Kd.N_below (Kd.N_elderB (by (with_reducible repeat (first | apply Kd.N_alloc | apply Kd.N_drewN | apply Kd.N_drew)); exact HO_5.out) gb880 (Nat.le_of_eq hg.symm)) hb); replace HO_6 := rb_ HO_6 hb; replace HO_21 := rb_ HO_21 hb; replace HL867_0 := Aside0.mk (Kd.V_below (Kd.V_elderB (by (with_reducible repeat (first | apply Kd.V_alloc | apply Kd.V_drewN | apply Kd.V_drew)); exact HL867_0.out) gb880 (Nat.le_of_eq hg.symm)) hb); replace HL867_1 := Aside0.mk (Kd.V_below (Kd.V_elderB (by (with_reducible repeat (first | apply Kd.V_alloc | apply Kd.V_drewN | apply Kd.V_drew)); exact HL867_1.out) gb880 (Nat.le_of_eq hg.symm)) hb); replace HO870 := rb_ HO870 hb; replace HO873 := rb_ HO873 hb; replace HO876 := rb_ HO876 hb; replace HO879 := rb_ HO879 hb; replace HR867_0 := Aside0.mk (Kd.C_below (by repeat (first | (with_reducible exact HR867_0.out) | (with_reducible refine Kd.C_alloc ?_ _) | (with_reducible refine Kd.C_drewN ?_ _) | (with_reducible refine Kd.C_drew ?_) | exact HR867_0.out)) hb); replace HR867_1 := Aside0.mk (Kd.C_below (by repeat (first | (with_reducible exact HR867_1.out) | (with_reducible refine Kd.C_alloc ?_ _) | (with_reducible refine Kd.C_drewN ?_ _) | (with_reducible refine Kd.C_drew ?_) | exact HR867_1.out)) hb); have BK880 := Aside0.mk hbox; have GW880 := gw_ w hg; have GE880 := GW880; replace HB := b1_ hb; have NB850_880 := gN_ BK850 hg; have NB880_850 := gP_ BK850 hg; replace BK850 := bb_ BK850 hb; clear hb hbox hg; obtain ⟨Ao55, co55, eo55⟩ := Kd.R_slice HO876.out; subst eo55; have hnb56 := NB880_850.out; have hnc56 := NB850_880.out; obtain ⟨hcz57_0, hcz57_1, hfz57_0, hfz57_1⟩ := c2_ BK880; obtain ⟨Ao58, co58, eo58⟩ := Kd.R_slice HO879.out; subst eo58) | ((with_reducible refine gate_callee (f := 81) rfl ?_); refine gL_ (some 36) Try.func81 #[.slice (some ad867) x5_2.length co49, .agg #[.slice Ao55 t874.length co55, .slice Ao58 t877.length co58]] rfl qa_ ?_; (with_reducible refine (spec_l06Find.calls k2 _ _ x5_2 _ _ t874 _ _ t877 t881 _ ?side1 ?side2 ?side3 ?side4 ?side5 ?side6 A24.out).mono ?_); (case side1 => refine (Kd.N_reads' (e := 25) (base := w.heap.size) (ok := fun k_ => (((((((w.heap.size ≤ k_) ∧ (some k_ ≠ (u6 : Value).ownBlock ∧ (some k_ ≠ (.slice (some ad866) y863.length co16 : Value).ownBlock ∧ k_ ≠ gb850))) ∧ some k_ ≠ (.slice Ao51 t868.length co51 : Value).ownBlock) ∧ some k_ ≠ (.slice Ao52 t871.length co52 : Value).ownBlock) ∧ some k_ ≠ (.slice Ao55 t874.length co55 : Value).ownBlock) ∧ some k_ ≠ (.slice Ao58 t877.length co58 : Value).ownBlock) ∧ k_ ≠ gb880)) (n := x5_2.length) (c := co49) ?_).2.2; exact (by (with_reducible repeat (first | apply Kd.N_alloc | apply Kd.N_drewN | apply Kd.N_drew)); exact (Kd.N_mono (Kd.N_far (p := ⟨gb880, 1, none⟩) (Kd.N_far (p := ⟨gb880, 0, none⟩) (Kd.N_mono HO_5.out (fun k_ hk => (⟨hk, hk.2⟩ : _ ∧ k_ ≠ gb880))) (fun _ hk => hk.2) (.slice Ao55 t874.length co55)) (fun _ hk => hk.2) (.slice Ao58 t877.length co58)) (fun _ h_ => h_.1)))); (case side2 => exact (Kd.N_reads' HO_5.out).2.1); (case side3 => refine (Kd.R_reads' (e := 3) (base := w.heap.size) (ok := fun k_ => ((((w.heap.size ≤ k_) ∧ some k_ ≠ (.slice Ao58 t877.length co58 : Value).ownBlock) ∧ some k_ ≠ (.slice Ao51 t868.length co51 : Value).ownBlock) ∧ some k_ ≠ (.slice Ao52 t871.length co52 : Value).ownBlock)) (n := t874.length) (c := co55) ?_).2.2; exact (rw_ (fa_ HO876 BK880))); (case side4 => exact (Kd.R_reads' HO876.out).2.1); (case side5 => refine (Kd.R_reads' (e := 3) (base := w.heap.size) (ok := fun k_ => ((((w.heap.size ≤ k_) ∧ some k_ ≠ (.slice Ao55 t874.length co55 : Value).ownBlock) ∧ some k_ ≠ (.slice Ao51 t868.length co51 : Value).ownBlock) ∧ some k_ ≠ (.slice Ao52 t871.length co52 : Value).ownBlock)) (n := t877.length) (c := co58) ?_).2.2; exact (rw_ (fa_ HO879 BK880))); (case side6 => exact (Kd.R_reads' HO879.out).2.1); rintro e w59 ⟨rfl, hb⟩; refine ⟨_, rfl, ?_⟩; replace HO_5 := Aside0.mk (Kd.N_below (by (with_reducible repeat (first | apply Kd.N_alloc | apply Kd.N_drewN | apply Kd.N_drew)); exact (Kd.N_mono (Kd.N_far (p := ⟨gb880, 1, none⟩) (Kd.N_far (p := ⟨gb880, 0, none⟩) (Kd.N_mono HO_5.out (fun k_ hk => (⟨hk, hk.2⟩ : _ ∧ k_ ≠ gb880))) (fun _ hk => hk.2) (.slice Ao55 t874.length co55)) (fun _ hk => hk.2) (.slice Ao58 t877.length co58)) (fun _ h_ => h_.1))) hb); replace HO_6 := Aside0.mk (Kd.R_below (rw_ (fa_ HO_6 BK880)) hb); replace HO_21 := Aside0.mk (Kd.R_below (rw_ (fa_ HO_21 BK880)) hb); replace HO870 := Aside0.mk (Kd.R_below (rw_ (fa_ HO870 BK880)) hb); replace HO873 := Aside0.mk (Kd.R_below (rw_ (fa_ HO873 BK880)) hb); replace HO876 := Aside0.mk (Kd.R_below (rw_ (fa_ HO876 BK880)) hb); replace HO879 := Aside0.mk (Kd.R_below (rw_ (fa_ HO879 BK880)) hb); replace BK850 := Aside0.mk (blk_below (g := gb850) (o := .cells #[.slice A0_0 l0_0.length c0_0, .slice A0_1 l0_1.length c0_1] 25 (0, 0)) (by (with_reducible repeat (first | refine blk_drewN ?_ _ | refine blk_drew ?_ | refine blk_alloc ?_ _)); refine blk_far ?_ NB850_880.out _; (with_reducible repeat (first | refine blk_drewN ?_ _ | refine blk_drew ?_ | refine blk_alloc ?_ _)); refine blk_far ?_ NB850_880.out _; (with_reducible repeat (first | refine blk_drewN ?_ _ | refine blk_drew ?_ | refine blk_alloc ?_ _)); exact BK850.out) hb); replace HR867_0 := Aside0.mk (Kd.C_below ((Kd.V_reads' (by (with_reducible repeat (first | apply Kd.V_alloc | apply Kd.V_drewN | apply Kd.V_drew)); exact (Kd.V_mono (Kd.V_far (p := ⟨gb880, 1, none⟩) (Kd.V_far (p := ⟨gb880, 0, none⟩) (Kd.V_mono HL867_0.out (fun k_ hk => (⟨hk, hk.2⟩ : _ ∧ k_ ≠ gb880))) (fun _ hk => hk.2) (.slice Ao55 t874.length co55)) (fun _ hk => hk.2) (.slice Ao58 t877.length co58)) (fun _ h_ => h_.1)))).2.2) hb); replace HL867_0 := Aside0.mk (Kd.V_below (by (with_reducible repeat (first | apply Kd.V_alloc | apply Kd.V_drewN | apply Kd.V_drew)); exact (Kd.V_mono (Kd.V_far (p := ⟨gb880, 1, none⟩) (Kd.V_far (p := ⟨gb880, 0, none⟩) (Kd.V_mono HL867_0.out (fun k_ hk => (⟨hk, hk.2⟩ : _ ∧ k_ ≠ gb880))) (fun _ hk => hk.2) (.slice Ao55 t874.length co55)) (fun _ hk => hk.2) (.slice Ao58 t877.length co58)) (fun _ h_ => h_.1))) hb); replace HR867_1 := Aside0.mk (Kd.C_below ((Kd.V_reads' (by (with_reducible repeat (first | apply Kd.V_alloc | apply Kd.V_drewN | apply Kd.V_drew)); exact (Kd.V_mono (Kd.V_far (p := ⟨gb880, 1, none⟩) (Kd.V_far (p := ⟨gb880, 0, none⟩) (Kd.V_mono HL867_1.out (fun k_ hk => (⟨hk, hk.2⟩ : _ ∧ k_ ≠ gb880))) (fun _ hk => hk.2) (.slice Ao55 t874.length co55)) (fun _ hk => hk.2) (.slice Ao58 t877.length co58)) (fun _ h_ => h_.1)))).2.2) hb); replace HL867_1 := Aside0.mk (Kd.V_below (by (with_reducible repeat (first | apply Kd.V_alloc | apply Kd.V_drewN | apply Kd.V_drew)); exact (Kd.V_mono (Kd.V_far (p := ⟨gb880, 1, none⟩) (Kd.V_far (p := ⟨gb880, 0, none⟩) (Kd.V_mono HL867_1.out (fun k_ hk => (⟨hk, hk.2⟩ : _ ∧ k_ ≠ gb880))) (fun _ hk => hk.2) (.slice Ao55 t874.length co55)) (fun _ hk => hk.2) (.slice Ao58 t877.length co58)) (fun _ h_ => h_.1))) hb); replace BK880 := Aside0.mk (blk_below (g := gb880) (o := .cells #[.slice Ao55 t874.length co55, .slice Ao58 t877.length co58] 25 (0, 0)) qp_ hb); replace HB := b1_ hb; clear hb))
                go_roundg k2
                case measure => have := HK1.out; have := HK2.out; omega
                case rel => exact ⟨(x5_2), (x6_2), (wrap64 (x23_2 + 1)), qc_, H', ⟨by have := HK1.out; have := HK2.out; omega⟩, ⟨by (with_reducible repeat (first | apply Kd.N_alloc | apply Kd.N_drewN | apply Kd.N_drew)); exact Kd.N_mono HO_5.out (fun _ hk => ⟨hk.1.1.1.1.1.1, ⟨hk.1.1.1.1.1.2.1, ⟨hk.1.1.1.1.1.2.2.1, hk.1.1.1.1.1.2.2.2⟩⟩⟩)⟩, ⟨(rr_ HO_6)⟩, ⟨(rr_ HO_21)⟩, ⟨(kk_ BK850)⟩, ⟨hB_⟩⟩
            · rw [if_neg c17] at H
              have c17b0 := decide_eq_false c17
              clear c17
              by_cases c60 : (x5_2.length : Int) > 120
              · rw [if_pos c60] at H
                have c60b0 : decide (120 < (x5_2.length : Int)) = true := decide_eq_true c60
                have c60b1 : decide (120 < x5_2.length) = true := decide_eq_true (by omega)
                clear c60
                simp only [Option.some.injEq, Prod.mk.injEq] at H
                obtain ⟨rfl, rfl, rfl⟩ := H
                obtain ⟨Ao61, co61, eo61⟩ := Kd.N_slice HO_5.out
                subst eo61
                go_wp2
                go_ret3
                exact ⟨_, _, qb_, by first | exact Kd.S_nil _ _ _ _ _ | exact Kd.N_nil _ _ _ _ _ | exact Kd.V_nil _ _ _ _ _ | exact Kd.Q_nil _ _ _ _ _ | exact Kd.R_nil _ _ _ _ _, by first | exact Kd.R_nil _ _ _ _ _ | exact Kd.N_nil _ _ _ _ _ | exact Kd.V_nil _ _ _ _ _ | exact Kd.Q_nil _ _ _ _ _ | exact Kd.S_nil _ _ _ _ _, hB_⟩
              · rw [if_neg c60] at H
                have c60b0 : decide (120 < (x5_2.length : Int)) = false := decide_eq_false c60
                have c60b1 : decide (120 < x5_2.length) = false := decide_eq_false (by omega)
                clear c60
                have H' := Aside0.mk H
                clear H
                obtain ⟨Ao62, co62, eo62⟩ := Kd.N_slice HO_5.out
                subst eo62
                go_wp2
                go_roundg k2
                case measure => have := HK1.out; have := HK2.out; omega
                case rel => exact ⟨(x5_2), (x6_2), (wrap64 (x7_1 + 1)), qc_, H', ⟨by have := HK1.out; have := HK2.out; omega⟩, ⟨by (with_reducible repeat (first | apply Kd.N_alloc | apply Kd.N_drewN | apply Kd.N_drew)); exact Kd.N_mono HO_5.out (fun _ hk => ⟨hk.1, ⟨hk.2.1, hk.2.2.2⟩⟩)⟩, ⟨(rr_ HO_6)⟩, ⟨(kk_ BK850)⟩, ⟨hB_⟩⟩
      · rw [if_neg c12] at H
        have c12b0 := decide_eq_false c12
        clear c12
        simp only [Option.some.injEq, Prod.mk.injEq] at H
        obtain ⟨rfl, rfl, rfl⟩ := H
        obtain ⟨Ao63, co63, eo63⟩ := Kd.N_slice HO_5.out
        subst eo63
        go_wp2
        go_ret3
        exact ⟨_, _, qb_, by (with_reducible repeat (first | apply Kd.N_alloc | apply Kd.N_drewN | apply Kd.N_drew)); exact Kd.N_mono HO_5.out (fun _ hk => ⟨hk.1, hk.2.1⟩), (rr_ HO_6), hB_⟩
end Go.Proofs.Ytcggfjpnfodbaaa.A
end
section
namespace Go.Proofs.Ytcggfjpnfodbaaa.A
open Go.RowKit Go.Proofs.YtcggfjpnfodbaaaW.PrintWords Go.Proofs.YtcggfjpnfodbaaaW.PrintLast Go.Proofs.YtcggfjpnfodbaaaW.PrintMore
attribute [local go_sem] max2_int min2_int max_two min_two max_three min_three max_four min_four
set_option linter.unusedVariables false
set_option linter.unusedSimpArgs false
def spec_OrbitOf.f (k : Nat) (l0_0 : List Int) (l0_1 : List Int) : Option ((List (S25)) × Bool) := (spec_SurfaceOk.f k l0_0 l0_1).bind fun t893 => (if t893 = true then ((spec_l06Orbit.f k l0_0 l0_1).bind fun bt894 => (some (bt894.1, bt894.2.2))) else (some (([] : List (S25)), false)))
theorem spec_OrbitOf.mono : ∀ a0 a1 k, LeO (spec_OrbitOf.f k a0 a1) (spec_OrbitOf.f (k + 1) a0 a1) := by
  intro a0 a1 k
  unfold spec_OrbitOf.f
  repeat' first|exact spec_SurfaceOk.mono _ _ _|exact spec_l06Orbit.mono _ _ _|exact lo_|refine LeO.ite ?_ ?_|refine LeO.bind ?_ (fun _ => ?_)
set_option maxHeartbeats 8000000 in
set_option maxRecDepth 100000 in
theorem spec_OrbitOf.calls (k : Nat) (A0_0 : Option Addr) (c0_0 : Nat) (l0_0 : List Int) (A0_1 : Option Addr) (c0_1 : Nat) (l0_1 : List Int) (r1 : List (S25)) (r2 : Bool) (w : World) (hr0_0 : Kd.C (Kd.int .i64) w A0_0 l0_0.length l0_0) (hc0_0 : l0_0.length ≤ c0_0) (hr0_1 : Kd.C (Kd.int .i64) w A0_1 l0_1.length l0_1) (hc0_1 : l0_1.length ≤ c0_1) (h : spec_OrbitOf.f k l0_0 l0_1 = some (r1, r2)) :
    Calls Try.prog 39 #[.agg #[.slice A0_0 l0_0.length c0_0, .slice A0_1 l0_1.length c0_1]] w fun e w' => ∃ v0_ : Value, e = .returned (.tuple #[v0_, .bool r2]) ∧ Kd.N k25 25 w' w.heap.size (fun k_ => (w.heap.size ≤ k_)) v0_ r1 ∧ Below w.heap.size w w' := by
  have hu25 := Try.underlying25
  have HR0_0 := Aside0.mk hr0_0
  have HC0_0 := Aside0.mk hc0_0
  clear hr0_0 hc0_0
  have HR0_1 := Aside0.mk hr0_1
  have HC0_1 := Aside0.mk hc0_1
  clear hr0_1 hc0_1
  have HB := Aside0.mk (Below.refl w.heap.size w)
  have H := h
  unfold spec_OrbitOf.f at H
  clear h
  obtain ⟨t893, A2, H⟩ := bi_ H
  by_cases c3 : t893 = true
  · subst c3
    rw [if_pos rfl] at H
    obtain ⟨⟨t894, t897, t900⟩, A4, H⟩ := bi_ H
    try dsimp only at H
    simp only [Option.some.injEq, Prod.mk.injEq] at H
    obtain ⟨rfl, rfl⟩ := H
    go_enter Try.func39, Try.ntmps39
    go_wp2_with (first | ((with_reducible refine gate_dst (N := 1) rfl ?_); refine bx_ 1 #[.slice A0_0 l0_0.length c0_0, .slice A0_1 l0_1.length c0_1] 25 ?_; intro gb892 hg w5 hbox hb; have BK892 := Aside0.mk hbox; have GW892 := gw_ w hg; have GE892 := GW892; replace HB := b1_ hb; clear hb hbox hg; obtain ⟨hcz6_0, hcz6_1, hfz6_0, hfz6_1⟩ := c2_ BK892) | ((with_reducible refine gate_callee (f := 80) rfl ?_); refine gL_ (some 8) Try.func80 #[.agg #[.slice A0_0 l0_0.length c0_0, .slice A0_1 l0_1.length c0_1]] rfl qa_ ?_; (with_reducible refine (spec_SurfaceOk.calls k _ _ l0_0 _ _ l0_1 true _ (cb_ HR0_0) HC0_0.out (cb_ HR0_1) HC0_1.out A2.out).mono ?_); rintro e w7 ⟨rfl, hb⟩; refine ⟨_, rfl, ?_⟩; replace BK892 := bb_ BK892 hb; replace HB := b1_ hb; clear hb; obtain ⟨hcz8_0, hcz8_1, hfz8_0, hfz8_1⟩ := c2_ BK892) | ((with_reducible refine gate_callee (f := 84) rfl ?_); refine gL_ (some 12) Try.func84 #[.agg #[.slice A0_0 l0_0.length c0_0, .slice A0_1 l0_1.length c0_1]] rfl qa_ ?_; (with_reducible refine (spec_l06Orbit.calls k _ _ l0_0 _ _ l0_1 t894 t897 t900 _ (cb_ HR0_0) HC0_0.out (cb_ HR0_1) HC0_1.out A4.out).mono ?_); rintro e w9 ⟨v895, v898, rfl, ho0, ho1, hb⟩; refine ⟨_, rfl, ?_⟩; have HO896 := Aside0.mk (Kd.N_lower (Kd.N_mono (ok' := fun k_ => (w.heap.size ≤ k_) ∧ some k_ ≠ (v898 : Value).ownBlock ∧ k_ ≠ gb892) ho0 (fun k_ hk_ => ⟨(Nat.le_trans (below_size hB_) hk_.1), hk_.2, (Kd.freshB (kk_ BK892) k_ hk_.1)⟩)) (below_size hB_)); have HO899 := Aside0.mk (Kd.R_lower (Kd.R_newM (M := fun k_ => (w.heap.size ≤ k_)) (Kd.R_mono (ok' := fun k_ => True) ho1 (fun _ hk_ => trivial)) (below_size hB_) (fun k_ h_ => h_)) (below_size hB_)); replace BK892 := bb_ BK892 hb; replace HB := b1_ hb; clear hb ho0 ho1))
    go_ret2
    exact ⟨_, qb_, by (with_reducible repeat (first | apply Kd.N_alloc | apply Kd.N_drewN | apply Kd.N_drew)); exact Kd.N_mono HO896.out (fun _ hk => hk.1), hB_⟩
  · replace c3 := Bool.eq_false_iff.mpr c3
    subst c3
    have H1 : (some (([] : List (S25)), false)) = some (r1, r2) := by rw [if_neg (show ¬ (false = true) by decide)] at H; exact H
    clear H
    have H := H1
    clear H1
    simp only [Option.some.injEq, Prod.mk.injEq] at H
    obtain ⟨rfl, rfl⟩ := H
    go_enter Try.func39, Try.ntmps39
    go_wp2_with (first | ((with_reducible refine gate_dst (N := 1) rfl ?_); refine bx_ 1 #[.slice A0_0 l0_0.length c0_0, .slice A0_1 l0_1.length c0_1] 25 ?_; intro gb892 hg w10 hbox hb; have BK892 := Aside0.mk hbox; have GW892 := gw_ w hg; have GE892 := GW892; replace HB := b1_ hb; clear hb hbox hg; obtain ⟨hcz11_0, hcz11_1, hfz11_0, hfz11_1⟩ := c2_ BK892) | ((with_reducible refine gate_callee (f := 80) rfl ?_); refine gL_ (some 8) Try.func80 #[.agg #[.slice A0_0 l0_0.length c0_0, .slice A0_1 l0_1.length c0_1]] rfl qa_ ?_; (with_reducible refine (spec_SurfaceOk.calls k _ _ l0_0 _ _ l0_1 false _ (cb_ HR0_0) HC0_0.out (cb_ HR0_1) HC0_1.out A2.out).mono ?_); rintro e w12 ⟨rfl, hb⟩; refine ⟨_, rfl, ?_⟩; replace BK892 := bb_ BK892 hb; replace HB := b1_ hb; clear hb))
    go_ret2
    exact ⟨_, qb_, by first | exact Kd.S_nil _ _ _ _ _ | exact Kd.N_nil _ _ _ _ _ | exact Kd.V_nil _ _ _ _ _ | exact Kd.Q_nil _ _ _ _ _ | exact Kd.R_nil _ _ _ _ _, hB_⟩
end Go.Proofs.Ytcggfjpnfodbaaa.A
end
section
namespace Go.Proofs.Ytcggfjpnfodbaaa.A
open Go.RowKit Go.Proofs.YtcggfjpnfodbaaaW.PrintWords Go.Proofs.YtcggfjpnfodbaaaW.PrintLast Go.Proofs.YtcggfjpnfodbaaaW.PrintMore
attribute [local go_sem] max2_int min2_int max_two min_two max_three min_three max_four min_four
set_option linter.unusedVariables false
set_option linter.unusedSimpArgs false
def spec_IndexOf.f (k : Nat) (l0_0 : List Int) (l0_1 : List Int) : Option (Int) := (spec_OrbitOf.f k l0_0 l0_1).bind fun bt982 => (if bt982.2 = true then (some (bt982.1.length : Int)) else (some (-1)))
theorem spec_IndexOf.mono : ∀ a0 a1 k, LeO (spec_IndexOf.f k a0 a1) (spec_IndexOf.f (k + 1) a0 a1) := by
  intro a0 a1 k
  unfold spec_IndexOf.f
  repeat' first|exact spec_OrbitOf.mono _ _ _|exact lo_|refine LeO.ite ?_ ?_|refine LeO.bind ?_ (fun _ => ?_)
set_option maxHeartbeats 8000000 in
set_option maxRecDepth 100000 in
theorem spec_IndexOf.calls (k : Nat) (A0_0 : Option Addr) (c0_0 : Nat) (l0_0 : List Int) (A0_1 : Option Addr) (c0_1 : Nat) (l0_1 : List Int) (r : Int) (w : World) (hr0_0 : Kd.C (Kd.int .i64) w A0_0 l0_0.length l0_0) (hc0_0 : l0_0.length ≤ c0_0) (hr0_1 : Kd.C (Kd.int .i64) w A0_1 l0_1.length l0_1) (hc0_1 : l0_1.length ≤ c0_1) (h : spec_IndexOf.f k l0_0 l0_1 = some r) :
    Calls Try.prog 35 #[.agg #[.slice A0_0 l0_0.length c0_0, .slice A0_1 l0_1.length c0_1]] w fun e w' => e = .returned (.int .i64 r) ∧ Below w.heap.size w w' := by
  have hu25 := Try.underlying25
  have HR0_0 := Aside0.mk hr0_0
  have HC0_0 := Aside0.mk hc0_0
  clear hr0_0 hc0_0
  have HR0_1 := Aside0.mk hr0_1
  have HC0_1 := Aside0.mk hc0_1
  clear hr0_1 hc0_1
  have HB := Aside0.mk (Below.refl w.heap.size w)
  have H := h
  unfold spec_IndexOf.f at H
  clear h
  obtain ⟨⟨t982, t985⟩, A2, H⟩ := bi_ H
  try dsimp only at H
  by_cases c3 : t985 = true
  · subst c3
    rw [if_pos rfl] at H
    obtain rfl := Option.some.inj H
    go_enter Try.func35, Try.ntmps35
    go_wp2_with (first | ((with_reducible refine gate_dst (N := 1) rfl ?_); refine bx_ 1 #[.slice A0_0 l0_0.length c0_0, .slice A0_1 l0_1.length c0_1] 25 ?_; intro gb981 hg w4 hbox hb; have BK981 := Aside0.mk hbox; have GW981 := gw_ w hg; have GE981 := GW981; replace HB := b1_ hb; clear hb hbox hg; obtain ⟨hcz5_0, hcz5_1, hfz5_0, hfz5_1⟩ := c2_ BK981) | ((with_reducible refine gate_callee (f := 39) rfl ?_); refine gL_ (some 7) Try.func39 #[.agg #[.slice A0_0 l0_0.length c0_0, .slice A0_1 l0_1.length c0_1]] rfl qa_ ?_; (with_reducible refine (spec_OrbitOf.calls k _ _ l0_0 _ _ l0_1 t982 true _ (cb_ HR0_0) HC0_0.out (cb_ HR0_1) HC0_1.out A2.out).mono ?_); rintro e w6 ⟨v983, rfl, ho0, hb⟩; refine ⟨_, rfl, ?_⟩; have HO984 := Aside0.mk (Kd.N_lower (Kd.N_mono (ok' := fun k_ => k_ ≠ gb981) ho0 (fun k_ hk_ => (Kd.freshB (kk_ BK981) k_ hk_))) (below_size hB_)); replace BK981 := bb_ BK981 hb; replace HB := b1_ hb; clear hb ho0; obtain ⟨Ao7, co7, eo7⟩ := Kd.N_slice HO984.out; subst eo7))
    go_ret
    exact ⟨qb_, hB_⟩
  · replace c3 := Bool.eq_false_iff.mpr c3
    subst c3
    have H1 : (some (-1)) = some r := by rw [if_neg (show ¬ (false = true) by decide)] at H; exact H
    clear H
    have H := H1
    clear H1
    obtain rfl := Option.some.inj H
    go_enter Try.func35, Try.ntmps35
    go_wp2_with (first | ((with_reducible refine gate_dst (N := 1) rfl ?_); refine bx_ 1 #[.slice A0_0 l0_0.length c0_0, .slice A0_1 l0_1.length c0_1] 25 ?_; intro gb981 hg w8 hbox hb; have BK981 := Aside0.mk hbox; have GW981 := gw_ w hg; have GE981 := GW981; replace HB := b1_ hb; clear hb hbox hg; obtain ⟨hcz9_0, hcz9_1, hfz9_0, hfz9_1⟩ := c2_ BK981) | ((with_reducible refine gate_callee (f := 39) rfl ?_); refine gL_ (some 7) Try.func39 #[.agg #[.slice A0_0 l0_0.length c0_0, .slice A0_1 l0_1.length c0_1]] rfl qa_ ?_; (with_reducible refine (spec_OrbitOf.calls k _ _ l0_0 _ _ l0_1 t982 false _ (cb_ HR0_0) HC0_0.out (cb_ HR0_1) HC0_1.out A2.out).mono ?_); rintro e w10 ⟨v983, rfl, ho0, hb⟩; refine ⟨_, rfl, ?_⟩; have HO984 := Aside0.mk (Kd.N_lower (Kd.N_mono (ok' := fun k_ => k_ ≠ gb981) ho0 (fun k_ hk_ => (Kd.freshB (kk_ BK981) k_ hk_))) (below_size hB_)); replace BK981 := bb_ BK981 hb; replace HB := b1_ hb; clear hb ho0))
    go_ret
    exact ⟨qb_, hB_⟩
end Go.Proofs.Ytcggfjpnfodbaaa.A
end
section
namespace Go.Proofs.Ytcggfjpnfodbaaa.A
open Go.RowKit Go.Proofs.YtcggfjpnfodbaaaW.PrintWords Go.Proofs.YtcggfjpnfodbaaaW.PrintLast Go.Proofs.YtcggfjpnfodbaaaW.PrintMore
attribute [local go_sem] max2_int min2_int max_two min_two max_three min_three max_four min_four
set_option linter.unusedVariables false
set_option linter.unusedSimpArgs false
def spec_IsFullGroup.f (k : Nat) (l0_0 : List Int) (l0_1 : List Int) : Option (Bool) := (spec_IndexOf.f k l0_0 l0_1).bind fun t1079 => (some (t1079 == 1))
theorem spec_IsFullGroup.mono : ∀ a0 a1 k, LeO (spec_IsFullGroup.f k a0 a1) (spec_IsFullGroup.f (k + 1) a0 a1) := by
  intro a0 a1 k
  unfold spec_IsFullGroup.f
  repeat' first|exact spec_IndexOf.mono _ _ _|exact lo_|refine LeO.ite ?_ ?_|refine LeO.bind ?_ (fun _ => ?_)
set_option maxHeartbeats 8000000 in
set_option maxRecDepth 100000 in
theorem spec_IsFullGroup.calls (k : Nat) (A0_0 : Option Addr) (c0_0 : Nat) (l0_0 : List Int) (A0_1 : Option Addr) (c0_1 : Nat) (l0_1 : List Int) (r : Bool) (w : World) (hr0_0 : Kd.C (Kd.int .i64) w A0_0 l0_0.length l0_0) (hc0_0 : l0_0.length ≤ c0_0) (hr0_1 : Kd.C (Kd.int .i64) w A0_1 l0_1.length l0_1) (hc0_1 : l0_1.length ≤ c0_1) (h : spec_IsFullGroup.f k l0_0 l0_1 = some r) :
    Calls Try.prog 37 #[.agg #[.slice A0_0 l0_0.length c0_0, .slice A0_1 l0_1.length c0_1]] w fun e w' => e = .returned (.bool r) ∧ Below w.heap.size w w' := by
  have hu25 := Try.underlying25
  have HR0_0 := Aside0.mk hr0_0
  have HC0_0 := Aside0.mk hc0_0
  clear hr0_0 hc0_0
  have HR0_1 := Aside0.mk hr0_1
  have HC0_1 := Aside0.mk hc0_1
  clear hr0_1 hc0_1
  have HB := Aside0.mk (Below.refl w.heap.size w)
  have H := h
  unfold spec_IsFullGroup.f at H
  clear h
  obtain ⟨t1079, A2, H⟩ := bi_ H
  obtain rfl := Option.some.inj H
  go_enter Try.func37, Try.ntmps37
  go_wp2_with (first | ((with_reducible refine gate_dst (N := 1) rfl ?_); refine bx_ 1 #[.slice A0_0 l0_0.length c0_0, .slice A0_1 l0_1.length c0_1] 25 ?_; intro gb1078 hg w3 hbox hb; have BK1078 := Aside0.mk hbox; have GW1078 := gw_ w hg; have GE1078 := GW1078; replace HB := b1_ hb; clear hb hbox hg; obtain ⟨hcz4_0, hcz4_1, hfz4_0, hfz4_1⟩ := c2_ BK1078) | ((with_reducible refine gate_callee (f := 35) rfl ?_); refine gL_ (some 4) Try.func35 #[.agg #[.slice A0_0 l0_0.length c0_0, .slice A0_1 l0_1.length c0_1]] rfl qa_ ?_; (with_reducible refine (spec_IndexOf.calls k _ _ l0_0 _ _ l0_1 t1079 _ (cb_ HR0_0) HC0_0.out (cb_ HR0_1) HC0_1.out A2.out).mono ?_); rintro e w5 ⟨rfl, hb⟩; refine ⟨_, rfl, ?_⟩; replace BK1078 := bb_ BK1078 hb; replace HB := b1_ hb; clear hb))
  go_ret
  exact ⟨qb_, hB_⟩
end Go.Proofs.Ytcggfjpnfodbaaa.A
end
section
/- A map of two keys, as it is filled: look-ups and stores. No conditions. -/
namespace Go.Proofs.Ytcggfjpnfodbaaa.M
set_option linter.unusedVariables false
set_option linter.unusedSimpArgs false
open Go Go.RowKit Go.Proofs.YtcggfjpnfodbaaaW.PrintWords Go.Proofs.YtcggfjpnfodbaaaW.PrintLast Go.Proofs.YtcggfjpnfodbaaaW.PrintMore Go.Proofs.Ytcggfjpnfodbaaa.A Go.MapKept
def mapO (n : Nat) (vT vS : Value) : Obj := .map ((#[⟨.int .u8 84, vT, 0⟩, ⟨.int .u8 83, vS, 1⟩] : Array MapEntry).extract 0 n) n
def mapV (n c : Nat) (vT vS : Value) : Value := if c = 84 then (if 1 ≤ n then vT else .slice none 0 0) else if 2 ≤ n then vS else .slice none 0 0
theorem key_u8 (c : Int) : IsKey (.int .u8) (.int .u8 c) := rfl
theorem map_look {w : World} {b : Nat} {es : Array MapEntry} {c : Nat} (hb : w.heap[b]? = some (.map es c)) (kk : Int) (r : Option (Nat × Value)) (hf : Instr.findNow (.int .u8) (.int .u8 kk) es.toList 0 = some r) :
    (Instr.lookup 67 (.map (some b)) (.int .u8 kk) false).run Try.prog w = .ok (match r with | some x => x.2 | none => .slice none 0 0) w := by
  have ht := Try.underlying67
  have hk : Try.prog.underlying 5 = some (.int .u8) := Try.underlying5
  have h1 := Go.MapKept.run_findKey (P := Try.prog) (w := w) hk hf
  have hz : (zeroValue 23).run Try.prog w = .ok (.slice none 0 0) w := by kernel_rfl
  cases r with
  | none => simp [Instr.lookup, run_underlying ht, Go.MapKept.run_getObj_map hb, Go.MapKept.run_checkKey hk (key_u8 kk), h1, hz, Result.andThen]
  | some x => simp [Instr.lookup, run_underlying ht, Go.MapKept.run_getObj_map hb, Go.MapKept.run_checkKey hk (key_u8 kk), h1, hz, Result.andThen]
theorem map_push {w : World} {b : Nat} {es : Array MapEntry} {c : Nat} (hb : w.heap[b]? = some (.map es c)) (kk : Int) (hf : Instr.findNow (.int .u8) (.int .u8 kk) es.toList 0 = some none) (v : Value) :
    (Instr.mapUpdate 67 (.map (some b)) (.int .u8 kk) v).run Try.prog w = .ok () { w with heap := w.heap.setIfInBounds b (.map (es.push ⟨.int .u8 kk, v, c⟩) (c + 1)) } := by
  have ht := Try.underlying67
  have hk : Try.prog.underlying 5 = some (.int .u8) := Try.underlying5
  have h1 := Go.MapKept.run_findKey (P := Try.prog) (w := w) hk hf
  simp [Instr.mapUpdate, run_underlying ht, Go.MapKept.run_getObj_map hb, Go.MapKept.run_checkKey hk (key_u8 kk), h1, Go.MapKept.run_setObj_map _ hb, Result.andThen]
theorem map_turn {w : World} {b : Nat} {es : Array MapEntry} {c : Nat} (hb : w.heap[b]? = some (.map es c)) (kk : Int) (i : Nat) (u v : Value) (hf : Instr.findNow (.int .u8) (.int .u8 kk) es.toList 0 = some (some (i, u))) (hi : (es[i]?.map (·.key)) = some (.int .u8 kk)) :
    (Instr.mapUpdate 67 (.map (some b)) (.int .u8 kk) v).run Try.prog w = .ok () { w with heap := w.heap.setIfInBounds b (.map (es.modify i fun e => { e with key := .int .u8 kk, val := v }) c) } := by
  have ht := Try.underlying67
  have hk : Try.prog.underlying 5 = some (.int .u8) := Try.underlying5
  have h1 := Go.MapKept.run_findKey (P := Try.prog) (w := w) hk hf
  have h2 := Go.MapKept.run_keyThatStays (P := Try.prog) (w := w) (key_u8 kk)
  simp [Instr.mapUpdate, run_underlying ht, Go.MapKept.run_getObj_map hb, Go.MapKept.run_checkKey hk (key_u8 kk), h1, hi, h2, Go.MapKept.run_setObj_map _ hb, Result.andThen]
def setMap (w : World) (b n : Nat) (vT vS : Value) : World := { w with heap := w.heap.setIfInBounds b (mapO n vT vS) }
theorem look_T {w : World} {b n : Nat} {vT vS : Value} (hb : w.heap[b]? = some (mapO n vT vS)) (hn : n = 0 ∨ n = 1 ∨ n = 2) : (Instr.lookup 67 (.map (some b)) (.int .u8 84) false).run Try.prog w = .ok (mapV n 84 vT vS) w := by
  rcases hn with rfl | rfl | rfl
  · exact map_look hb 84 none rfl
  · exact map_look hb 84 (some (0, vT)) rfl
  · exact map_look hb 84 (some (0, vT)) rfl
theorem look_S {w : World} {b n : Nat} {vT vS : Value} (hb : w.heap[b]? = some (mapO n vT vS)) (hn : n = 0 ∨ n = 1 ∨ n = 2) : (Instr.lookup 67 (.map (some b)) (.int .u8 83) false).run Try.prog w = .ok (mapV n 83 vT vS) w := by
  rcases hn with rfl | rfl | rfl
  · exact map_look hb 83 none rfl
  · exact map_look hb 83 none rfl
  · exact map_look hb 83 (some (1, vS)) rfl
theorem put_T {w : World} {b n : Nat} {vT vS : Value} (hb : w.heap[b]? = some (mapO n vT vS)) (hn : n = 0 ∨ n = 2) (v : Value) : (Instr.mapUpdate 67 (.map (some b)) (.int .u8 84) v).run Try.prog w = .ok () (setMap w b (max n 1) v vS) := by
  rcases hn with rfl | rfl
  · exact map_push hb 84 rfl v
  · exact map_turn hb 84 0 vT v rfl rfl
theorem put_S {w : World} {b n : Nat} {vT vS : Value} (hb : w.heap[b]? = some (mapO n vT vS)) (hn : n = 1 ∨ n = 2) (v : Value) : (Instr.mapUpdate 67 (.map (some b)) (.int .u8 83) v).run Try.prog w = .ok () (setMap w b 2 vT v) := by
  rcases hn with rfl | rfl
  · exact map_push hb 83 rfl v
  · exact map_turn hb 83 1 vS v rfl rfl
theorem setMap_at {w : World} {b n : Nat} {o : Obj} (hb : w.heap[b]? = some o) (vT vS : Value) : (setMap w b n vT vS).heap[b]? = some (mapO n vT vS) := by
  have := (Array.getElem?_eq_some_iff.1 hb).1
  simp [setMap, this]
theorem setMap_far {w : World} {b n : Nat} (vT vS : Value) {g : Nat} (h : g ≠ b) : (setMap w b n vT vS).heap[g]? = w.heap[g]? := by
  simp only [setMap, Array.getElem?_setIfInBounds]
  rw [if_neg (fun e => h e.symm)]
theorem setMap_grown {w : World} {b n : Nat} (vT vS : Value) : w.grownBy (setMap w b n vT vS) (some b) :=
  ⟨rfl, rfl, rfl, by simp [setMap], fun i _ hi => setMap_far vT vS (fun e => hi (by rw [e]))⟩
theorem setMap_below {w0 w : World} {b n : Nat} (vT vS : Value) (hB : Below w0.heap.size w0 w) (hb : w0.heap.size ≤ b) : Below w0.heap.size w0 (setMap w b n vT vS) :=
  hB.grown (setMap_grown vT vS) hB.size (fun k e => by injection e with e; omega)
end Go.Proofs.Ytcggfjpnfodbaaa.M
end
section
namespace Go.Proofs.Ytcggfjpnfodbaaa.A
open Go.RowKit Go.Proofs.YtcggfjpnfodbaaaW.PrintWords Go.Proofs.YtcggfjpnfodbaaaW.PrintLast Go.Proofs.YtcggfjpnfodbaaaW.PrintMore
attribute [local go_sem] max2_int min2_int max_two min_two max_three min_three max_four min_four
set_option linter.unusedVariables false
set_option linter.unusedSimpArgs false
def slices_Equal_int_int.l0 : Nat → List Int → List Int → Int → Int → Option (Bool)
  | 0, _, _, _, _ => none
  | k + 1, x0, x1, x12, x13 => if x13 < x12 then (if 0 ≤ x13 then (if x13 < (x0.length : Int) then (if x13 < (x1.length : Int) then (if (rd x0 x13) = (rd x1 x13) then (slices_Equal_int_int.l0 k x0 x1 x12 (wrap64 (x13 + 1))) else (some false)) else (none)) else (none)) else (none)) else (some true)
def slices_Equal_int_int.f (k : Nat) (l0 : List Int) (l1 : List Int) : Option (Bool) := if (l0.length : Int) = (l1.length : Int) then (slices_Equal_int_int.l0 k l0 l1 (l0.length : Int) 0) else (some false)
theorem slices_Equal_int_int.mono_l : ∀ k, (∀ y0 y1 y2 y3, LeO (slices_Equal_int_int.l0 k y0 y1 y2 y3) (slices_Equal_int_int.l0 (k + 1) y0 y1 y2 y3))
  | 0 => fun _ _ _ _ r h => by simp [slices_Equal_int_int.l0] at h
  | k + 1 => by
    have ih0 := slices_Equal_int_int.mono_l k
    · intro y0 y1 y2 y3
      unfold slices_Equal_int_int.l0
      repeat' first|exact ih0 _ _ _ _|exact lo_|refine LeO.ite ?_ ?_|refine LeO.bind ?_ (fun _ => ?_)
theorem slices_Equal_int_int.mono : ∀ a0 a1 k, LeO (slices_Equal_int_int.f k a0 a1) (slices_Equal_int_int.f (k + 1) a0 a1) := by
  intro a0 a1 k
  have ih0 := slices_Equal_int_int.mono_l k
  unfold slices_Equal_int_int.f
  repeat' first|exact ih0 _ _ _ _|exact lo_|refine LeO.ite ?_ ?_|refine LeO.bind ?_ (fun _ => ?_)
set_option maxHeartbeats 8000000 in
set_option maxRecDepth 100000 in
theorem slices_Equal_int_int.calls (k : Nat) (A0 : Option Addr) (c0 : Nat) (l0 : List Int) (A1 : Option Addr) (c1 : Nat) (l1 : List Int) (r : Bool) (w : World) (hr0 : Kd.C (Kd.int .i64) w A0 l0.length l0) (hc0 : l0.length ≤ c0) (hr1 : Kd.C (Kd.int .i64) w A1 l1.length l1) (hc1 : l1.length ≤ c1) (h : slices_Equal_int_int.f k l0 l1 = some r) :
    Calls Try.prog 116 #[.slice A0 l0.length c0, .slice A1 l1.length c1] w fun e w' => e = .returned (.bool r) ∧ Drawn0 w w' := by
  have HR0 := Aside0.mk hr0
  have HC0 := Aside0.mk hc0
  clear hr0 hc0
  have HR1 := Aside0.mk hr1
  have HC1 := Aside0.mk hc1
  clear hr1 hc1
  have H := h
  unfold slices_Equal_int_int.f at H
  clear h
  by_cases c3 : (l0.length : Int) = (l1.length : Int)
  · rw [if_pos c3] at H
    have c3b0 : ((l0.length : Int) == (l1.length : Int)) = true := beq_iff_eq.mpr c3
    have c3b1 : ((l0.length : Int) != (l1.length : Int)) = false := bne_eq_false_iff_eq.mpr c3
    have c3b2 : (l0.length == l1.length) = true := by first | simpa using c3 | (simp at c3 ⊢; omega)
    clear c3
    have H' := Aside0.mk H
    clear H
    go_enter Try.func116, Try.ntmps116
    go_wp2
    repeat (go_quiet (fail); try go_wp2)
    go_loopg [13] k (fun kq v13 w' => ∃ (x13_1 : Int), v13 = .int .i64 x13_1 ∧ Aside0 (slices_Equal_int_int.l0 kq l0 l1 (l0.length : Int) x13_1 = some r) ∧ Aside0 (kq ≤ k) ∧ Drawn0 w w')
    case atStart => exact ⟨(0), qc_, H', ⟨Nat.le_refl _⟩, by repeat (first | exact Drawn0.refl _ | apply Drawn0.step)⟩
    case round =>
      clear H'
      obtain ⟨x13_1, rfl, HA, HK1, ⟨m1, rfl⟩⟩ := hrel
      cases gk with
      | zero => exact absurd HA.out (by simp [slices_Equal_int_int.l0])
      | succ k1 =>
        have H := HA.out
        clear HA
        simp only [slices_Equal_int_int.l0] at H
        by_cases c4 : x13_1 < (l0.length : Int)
        · rw [if_pos c4] at H
          have c4b0 := decide_eq_true c4
          clear c4
          have c5 := cp_ H
          replace H := ca_ H
          have c5b0 := decide_eq_true c5
          clear c5
          have c6 := cp_ H
          replace H := ca_ H
          have c6b0 := decide_eq_true c6
          clear c6
          have c7 := cp_ H
          replace H := ca_ H
          have c7b0 := decide_eq_true c7
          clear c7
          by_cases c8 : (rd l0 x13_1) = (rd l1 x13_1)
          · rw [if_pos c8] at H
            have c8b0 : ((rd l0 x13_1) == (rd l1 x13_1)) = true := beq_iff_eq.mpr c8
            have c8b1 : ((rd l0 x13_1) != (rd l1 x13_1)) = false := bne_eq_false_iff_eq.mpr c8
            clear c8
            have H' := Aside0.mk H
            clear H
            have p421 : 0 ≤ (x13_1 : Int) := of_decide_eq_true qe_
            have q421 : x13_1 < (l0.length : Int) := of_decide_eq_true qe_
            obtain ⟨ad421, e421, hx421_0⟩ := Kd.at_int HR0.out x13_1 p421 q421
            cases e421
            replace p421 := eq_true p421
            replace q421 := eq_true q421
            have p422 : 0 ≤ (x13_1 : Int) := of_decide_eq_true qe_
            have q422 : x13_1 < (l1.length : Int) := of_decide_eq_true qe_
            obtain ⟨ad422, e422, hx422_0⟩ := Kd.at_int HR1.out x13_1 p422 q422
            cases e422
            replace p422 := eq_true p422
            replace q422 := eq_true q422
            go_wp2
            repeat (go_quiet (fail); try go_wp2)
            go_roundg k1
            case measure => have := HK1.out; omega
            case rel => exact ⟨(wrap64 (x13_1 + 1)), qc_, H', ⟨by have := HK1.out; omega⟩, by repeat (first | exact Drawn0.refl _ | apply Drawn0.step)⟩
          · rw [if_neg c8] at H
            have c8b0 : ((rd l0 x13_1) == (rd l1 x13_1)) = false := beq_eq_false_iff_ne.mpr c8
            have c8b1 : ((rd l0 x13_1) != (rd l1 x13_1)) = true := bne_iff_ne.mpr c8
            obtain rfl := Option.some.inj H
            have p421 : 0 ≤ (x13_1 : Int) := of_decide_eq_true qe_
            have q421 : x13_1 < (l0.length : Int) := of_decide_eq_true qe_
            obtain ⟨ad421, e421, hx421_0⟩ := Kd.at_int HR0.out x13_1 p421 q421
            cases e421
            replace p421 := eq_true p421
            replace q421 := eq_true q421
            have p422 : 0 ≤ (x13_1 : Int) := of_decide_eq_true qe_
            have q422 : x13_1 < (l1.length : Int) := of_decide_eq_true qe_
            obtain ⟨ad422, e422, hx422_0⟩ := Kd.at_int HR1.out x13_1 p422 q422
            cases e422
            replace p422 := eq_true p422
            replace q422 := eq_true q422
            go_wp2
            repeat (go_quiet (fail); try go_wp2)
            go_ret
            exact ⟨qc_, by repeat (first | exact Drawn0.refl _ | apply Drawn0.step)⟩
        · rw [if_neg c4] at H
          have c4b0 := decide_eq_false c4
          clear c4
          obtain rfl := Option.some.inj H
          go_wp2
          repeat (go_quiet (fail); try go_wp2)
          go_ret
          exact ⟨qc_, by repeat (first | exact Drawn0.refl _ | apply Drawn0.step)⟩
  · rw [if_neg c3] at H
    have c3b0 : ((l0.length : Int) == (l1.length : Int)) = false := beq_eq_false_iff_ne.mpr c3
    have c3b1 : ((l0.length : Int) != (l1.length : Int)) = true := bne_iff_ne.mpr c3
    have c3b2 : (l0.length == l1.length) = false := by first | simpa using c3 | (simp at c3 ⊢; omega)
    obtain rfl := Option.some.inj H
    go_enter Try.func116, Try.ntmps116
    go_wp2
    repeat (go_quiet (fail); try go_wp2)
    go_ret
    exact ⟨qc_, by repeat (first | exact Drawn0.refl _ | apply Drawn0.step)⟩
end Go.Proofs.Ytcggfjpnfodbaaa.A
end
section
namespace Go.Proofs.Ytcggfjpnfodbaaa.A
open Go.RowKit Go.Proofs.YtcggfjpnfodbaaaW.PrintWords Go.Proofs.YtcggfjpnfodbaaaW.PrintLast Go.Proofs.YtcggfjpnfodbaaaW.PrintMore
attribute [local go_sem] max2_int min2_int max_two min_two max_three min_three max_four min_four
set_option linter.unusedVariables false
set_option linter.unusedSimpArgs false
def impl_SameList.f (k : Nat) (l0 : List Int) (l1 : List Int) : Option (Bool) := (slices_Equal_int_int.f k l0 l1).bind fun t423 => (some t423)
theorem impl_SameList.mono : ∀ a0 a1 k, LeO (impl_SameList.f k a0 a1) (impl_SameList.f (k + 1) a0 a1) := by
  intro a0 a1 k
  unfold impl_SameList.f
  repeat' first|exact slices_Equal_int_int.mono _ _ _|exact lo_|refine LeO.ite ?_ ?_|refine LeO.bind ?_ (fun _ => ?_)
set_option maxHeartbeats 8000000 in
set_option maxRecDepth 100000 in
theorem impl_SameList.calls (k : Nat) (A0 : Option Addr) (c0 : Nat) (l0 : List Int) (A1 : Option Addr) (c1 : Nat) (l1 : List Int) (r : Bool) (w : World) (hr0 : Kd.C (Kd.int .i64) w A0 l0.length l0) (hc0 : l0.length ≤ c0) (hr1 : Kd.C (Kd.int .i64) w A1 l1.length l1) (hc1 : l1.length ≤ c1) (h : impl_SameList.f k l0 l1 = some r) :
    Calls Try.prog 78 #[.slice A0 l0.length c0, .slice A1 l1.length c1] w fun e w' => e = .returned (.bool r) ∧ Drawn0 w w' := by
  have HR0 := Aside0.mk hr0
  have HC0 := Aside0.mk hc0
  clear hr0 hc0
  have HR1 := Aside0.mk hr1
  have HC1 := Aside0.mk hc1
  clear hr1 hc1
  have H := h
  unfold impl_SameList.f at H
  clear h
  obtain ⟨t423, A3, H⟩ := bi_ H
  obtain rfl := Option.some.inj H
  go_enter Try.func78, Try.ntmps78
  go_wp2_with (first | ((with_reducible refine gate_callee (f := 116) rfl ?_); refine gL_ (some 7) Try.func116 #[.slice A0 l0.length c0, .slice A1 l1.length c1] rfl qa_ ?_; (with_reducible refine (slices_Equal_int_int.calls k _ _ l0 _ _ l1 t423 _ (cc_ HR0) HC0.out (cc_ HR1) HC1.out A3.out).mono ?_); rintro e w' ⟨rfl, ⟨nd, rfl⟩⟩; refine ⟨_, rfl, ?_⟩))
  go_ret
  exact ⟨qc_, by repeat (first | exact Drawn0.refl _ | apply Drawn0.step)⟩
end Go.Proofs.Ytcggfjpnfodbaaa.A
end
section
namespace Go.Proofs.Ytcggfjpnfodbaaa.A
open Go.RowKit Go.Proofs.YtcggfjpnfodbaaaW.PrintWords Go.Proofs.YtcggfjpnfodbaaaW.PrintLast Go.Proofs.YtcggfjpnfodbaaaW.PrintMore
attribute [local go_sem] max2_int min2_int max_two min_two max_three min_three max_four min_four
set_option linter.unusedVariables false
set_option linter.unusedSimpArgs false
def impl_SameSurface.f (k : Nat) (l0_0 : List Int) (l0_1 : List Int) (l1_0 : List Int) (l1_1 : List Int) : Option (Bool) := (impl_SameList.f k l0_0 l1_0).bind fun t426 => (if t426 = true then ((impl_SameList.f k l0_1 l1_1).bind fun t427 => (some t427)) else (some false))
theorem impl_SameSurface.mono : ∀ a0 a1 a2 a3 k, LeO (impl_SameSurface.f k a0 a1 a2 a3) (impl_SameSurface.f (k + 1) a0 a1 a2 a3) := by
  intro a0 a1 a2 a3 k
  unfold impl_SameSurface.f
  repeat' first|exact impl_SameList.mono _ _ _|exact lo_|refine LeO.ite ?_ ?_|refine LeO.bind ?_ (fun _ => ?_)
set_option maxHeartbeats 8000000 in
set_option maxRecDepth 100000 in
theorem impl_SameSurface.calls (k : Nat) (A0_0 : Option Addr) (c0_0 : Nat) (l0_0 : List Int) (A0_1 : Option Addr) (c0_1 : Nat) (l0_1 : List Int) (A1_0 : Option Addr) (c1_0 : Nat) (l1_0 : List Int) (A1_1 : Option Addr) (c1_1 : Nat) (l1_1 : List Int) (r : Bool) (w : World) (hr0_0 : Kd.C (Kd.int .i64) w A0_0 l0_0.length l0_0) (hc0_0 : l0_0.length ≤ c0_0) (hr0_1 : Kd.C (Kd.int .i64) w A0_1 l0_1.length l0_1) (hc0_1 : l0_1.length ≤ c0_1) (hr1_0 : Kd.C (Kd.int .i64) w A1_0 l1_0.length l1_0) (hc1_0 : l1_0.length ≤ c1_0) (hr1_1 : Kd.C (Kd.int .i64) w A1_1 l1_1.length l1_1) (hc1_1 : l1_1.length ≤ c1_1) (h : impl_SameSurface.f k l0_0 l0_1 l1_0 l1_1 = some r) :
    Calls Try.prog 29 #[.agg #[.slice A0_0 l0_0.length c0_0, .slice A0_1 l0_1.length c0_1], .agg #[.slice A1_0 l1_0.length c1_0, .slice A1_1 l1_1.length c1_1]] w fun e w' => e = .returned (.bool r) ∧ Below w.heap.size w w' := by
  have hu25 := Try.underlying25
  have HR0_0 := Aside0.mk hr0_0
  have HC0_0 := Aside0.mk hc0_0
  clear hr0_0 hc0_0
  have HR0_1 := Aside0.mk hr0_1
  have HC0_1 := Aside0.mk hc0_1
  clear hr0_1 hc0_1
  have HR1_0 := Aside0.mk hr1_0
  have HC1_0 := Aside0.mk hc1_0
  clear hr1_0 hc1_0
  have HR1_1 := Aside0.mk hr1_1
  have HC1_1 := Aside0.mk hc1_1
  clear hr1_1 hc1_1
  have HB := Aside0.mk (Below.refl w.heap.size w)
  have H := h
  unfold impl_SameSurface.f at H
  clear h
  obtain ⟨t426, A3, H⟩ := bi_ H
  by_cases c4 : t426 = true
  · subst c4
    rw [if_pos rfl] at H
    obtain ⟨t427, A5, H⟩ := bi_ H
    obtain rfl := Option.some.inj H
    go_enter Try.func29, Try.ntmps29
    go_wp2_with (first | ((with_reducible refine gate_dst (N := 2) rfl ?_); refine bx_ 2 #[.slice A0_0 l0_0.length c0_0, .slice A0_1 l0_1.length c0_1] 25 ?_; intro gb424 hg w6 hbox hb; have BK424 := Aside0.mk hbox; have GW424 := gw_ w hg; have GE424 := GW424; replace HB := b1_ hb; clear hb hbox hg) | ((with_reducible refine gate_dst (N := 3) rfl ?_); refine bx_ 3 #[.slice A1_0 l1_0.length c1_0, .slice A1_1 l1_1.length c1_1] 25 ?_; intro gb425 hg w7 hbox hb; have BK425 := Aside0.mk hbox; have GW425 := gw_ w hg; have GE425 := GW425; replace HB := b1_ hb; have NB424_425 := gN_ BK424 hg; have NB425_424 := gP_ BK424 hg; replace BK424 := bb_ BK424 hb; clear hb hbox hg; have hnb8 := NB424_425.out; have hnc8 := NB425_424.out; obtain ⟨hcz9_0, hcz9_1, hfz9_0, hfz9_1⟩ := c2_ BK424; obtain ⟨hcz10_0, hcz10_1, hfz10_0, hfz10_1⟩ := c2_ BK425) | ((with_reducible refine gate_callee (f := 78) rfl ?_); refine gL_ (some 9) Try.func78 #[.slice A0_0 l0_0.length c0_0, .slice A1_0 l1_0.length c1_0] rfl qa_ ?_; (with_reducible refine (impl_SameList.calls k _ _ l0_0 _ _ l1_0 true _ (cb_ HR0_0) HC0_0.out (cb_ HR1_0) HC1_0.out A3.out).mono ?_); rintro e w' ⟨rfl, ⟨nd, rfl⟩⟩; refine ⟨_, rfl, ?_⟩) | (go_at_call 78; (with_reducible refine (impl_SameList.calls k _ _ l0_1 _ _ l1_1 t427 _ (cw_ (Kd.C_below HR0_1.out hB_)) HC0_1.out (cw_ (Kd.C_below HR1_1.out hB_)) HC1_1.out A5.out).mono ?_); rintro e w' ⟨rfl, ⟨nd, rfl⟩⟩))
    go_ret
    exact ⟨qb_, hB_⟩
  · replace c4 := Bool.eq_false_iff.mpr c4
    subst c4
    have H1 : (some false) = some r := by rw [if_neg (show ¬ (false = true) by decide)] at H; exact H
    clear H
    have H := H1
    clear H1
    obtain rfl := Option.some.inj H
    go_enter Try.func29, Try.ntmps29
    go_wp2_with (first | ((with_reducible refine gate_dst (N := 2) rfl ?_); refine bx_ 2 #[.slice A0_0 l0_0.length c0_0, .slice A0_1 l0_1.length c0_1] 25 ?_; intro gb424 hg w11 hbox hb; have BK424 := Aside0.mk hbox; have GW424 := gw_ w hg; have GE424 := GW424; replace HB := b1_ hb; clear hb hbox hg) | ((with_reducible refine gate_dst (N := 3) rfl ?_); refine bx_ 3 #[.slice A1_0 l1_0.length c1_0, .slice A1_1 l1_1.length c1_1] 25 ?_; intro gb425 hg w12 hbox hb; have BK425 := Aside0.mk hbox; have GW425 := gw_ w hg; have GE425 := GW425; replace HB := b1_ hb; have NB424_425 := gN_ BK424 hg; have NB425_424 := gP_ BK424 hg; replace BK424 := bb_ BK424 hb; clear hb hbox hg; have hnb13 := NB424_425.out; have hnc13 := NB425_424.out; obtain ⟨hcz14_0, hcz14_1, hfz14_0, hfz14_1⟩ := c2_ BK424; obtain ⟨hcz15_0, hcz15_1, hfz15_0, hfz15_1⟩ := c2_ BK425) | ((with_reducible refine gate_callee (f := 78) rfl ?_); refine gL_ (some 9) Try.func78 #[.slice A0_0 l0_0.length c0_0, .slice A1_0 l1_0.length c1_0] rfl qa_ ?_; (with_reducible refine (impl_SameList.calls k _ _ l0_0 _ _ l1_0 false _ (cb_ HR0_0) HC0_0.out (cb_ HR1_0) HC1_0.out A3.out).mono ?_); rintro e w' ⟨rfl, ⟨nd, rfl⟩⟩; refine ⟨_, rfl, ?_⟩))
    go_ret
    exact ⟨qb_, hB_⟩
end Go.Proofs.Ytcggfjpnfodbaaa.A
end
section
/- The place of a surface in a list: the walk of the program's look-up. No conditions. -/
namespace Go.Proofs.Ytcggfjpnfodbaaa.M
set_option linter.unusedVariables false
set_option linter.unusedSimpArgs false
open Go Go.RowKit Go.Proofs.YtcggfjpnfodbaaaW.PrintWords Go.Proofs.YtcggfjpnfodbaaaW.PrintLast Go.Proofs.YtcggfjpnfodbaaaW.PrintMore Go.Proofs.Ytcggfjpnfodbaaa.A
def idxS (k : Nat) (r u : List Int) : List S25 → Nat → Option Int
  | [], _ => some (-1)
  | x :: xs, i => (impl_SameSurface.f k x.f0 x.f1 r u).bind fun b => if b = true then some (i : Int) else idxS k r u xs (i + 1)
def indexO (k : Nat) (l : List S25) (r u : List Int) : Option Int := if l.length < 4611686018427387904 then idxS k r u l 0 else none
set_option maxHeartbeats 8000000 in
set_option maxRecDepth 100000 in
theorem index_closure (k : Nat) (gs : Nat) (A0 : Option Addr) (c0 : Nat) (l0 : List Int) (A1 : Option Addr) (c1 : Nat) (l1 : List Int) (B0 : Option Addr) (d0 : Nat) (r : List Int) (B1 : Option Addr) (d1 : Nat) (u : List Int) (b : Bool) (w : World)
    (h0 : Kd.C (Kd.int .i64) w A0 l0.length l0) (g0 : l0.length ≤ c0) (h1 : Kd.C (Kd.int .i64) w A1 l1.length l1) (g1 : l1.length ≤ c1) (h2 : Kd.C (Kd.int .i64) w B0 r.length r) (g2 : r.length ≤ d0) (h3 : Kd.C (Kd.int .i64) w B1 u.length u) (g3 : u.length ≤ d1)
    (hs : w.heap[gs]? = some (.cells #[.slice B0 r.length d0, .slice B1 u.length d1] 25 (0, 0))) (h : impl_SameSurface.f k l0 l1 r u = some b) :
    Calls Try.prog 109 #[.agg #[.slice A0 l0.length c0, .slice A1 l1.length c1], .pointer (some ⟨gs, 0, none⟩)] w fun e w' => e = .returned (.bool b) ∧ Below w.heap.size w w' := by
  have hu := Try.underlying25
  have H0 := Aside0.mk h0; have H1 := Aside0.mk h1; have H2 := Aside0.mk h2; have H3 := Aside0.mk h3
  have G0 := Aside0.mk g0; have G1 := Aside0.mk g1; have G2 := Aside0.mk g2; have G3 := Aside0.mk g3
  have BS := Aside0.mk hs; have HA := Aside0.mk h
  clear h0 h1 h2 h3 g0 g1 g2 g3 hs h
  have HB := Aside0.mk (Below.refl w.heap.size w)
  go_enter Try.func109, Try.ntmps109
  go_wp2_with (first | ((with_reducible refine gate_dst (N := 2) rfl ?_); refine bx_ 2 #[.slice A0 l0.length c0, .slice A1 l1.length c1] 25 ?_; intro gb hg w2 hbox hb; have BK := Aside0.mk hbox; have BT := bb_ BS hb; replace HB := b1_ hb; clear hb hbox hg; obtain ⟨hcz0, hcz1, hfz0, hfz1⟩ := c2_ BK; obtain ⟨hcy0, hcy1, hfy0, hfy1⟩ := c2_ BT) | ((with_reducible refine gate_callee (f := 29) rfl ?_); refine gL_ (some 6) Try.func29 #[.agg #[.slice A0 l0.length c0, .slice A1 l1.length c1], .agg #[.slice B0 r.length d0, .slice B1 u.length d1]] rfl qa_ ?_; (with_reducible refine (impl_SameSurface.calls k _ _ l0 _ _ l1 _ _ r _ _ u b _ (cb_ H0) G0.out (cb_ H1) G1.out (cb_ H2) G2.out (cb_ H3) G3.out HA.out).mono ?_); rintro e w3 ⟨rfl, hb⟩; refine ⟨_, rfl, ?_⟩; replace HB := b1_ hb; clear hb))
  go_ret
  exact ⟨qb_, hB_⟩
set_option maxHeartbeats 8000000 in
set_option maxRecDepth 100000 in
theorem index_main (k : Nat) (gf : Nat) (lb : Array Value) (eg : ∀ args w, (callFunc gf args).run Try.prog w = .ok (.enter gf args) w) (A0 : Option Addr) (c0 : Nat) (l0 : List S25) (r u : List Int) (j : Int) (w : World) (hr0 : Kd.C k25 w A0 l0.length l0) (hc0 : l0.length ≤ c0) (h : indexO k l0 r u = some j)
    (hcl : ∀ (A0 : Option Addr) (c0 : Nat) (l0 : List Int) (A1 : Option Addr) (c1 : Nat) (l1 : List Int) (b : Bool) (w1 : World), Below w.heap.size w w1 → Kd.C (Kd.int .i64) w1 A0 l0.length l0 → l0.length ≤ c0 → Kd.C (Kd.int .i64) w1 A1 l1.length l1 → l1.length ≤ c1 → impl_SameSurface.f k l0 l1 r u = some b → Calls Try.prog gf (#[.agg #[.slice A0 l0.length c0, .slice A1 l1.length c1]] ++ lb) w1 fun e w' => e = .returned (.bool b) ∧ Below w1.heap.size w1 w') :
    Calls Try.prog 108 #[.slice A0 l0.length c0, .func (.func gf) #[] lb] w fun e w' => e = .returned (.int .i64 j) ∧ Below w.heap.size w w' := by
  have hu := Try.underlying25
  have HR0 := Aside0.mk hr0
  have HC0 := Aside0.mk hc0
  have HB := Aside0.mk (Below.refl w.heap.size w)
  have hsm : l0.length < 4611686018427387904 := by
    unfold indexO at h
    split at h
    · assumption
    · cases h
  have H' : Aside0 (idxS k r u (l0.drop 0) 0 = some j) := ⟨by
    unfold indexO at h
    rw [if_pos hsm] at h
    exact h⟩
  clear hr0 hc0 h
  replace hcl := Aside0.mk hcl
  go_enter Try.func108, Try.ntmps108
  go_wp2
  go_loopg [5, 8] l0.length (fun gg _ s8 wr => ∃ kk : Nat, s8 = .int .i64 kk ∧ Aside0 (kk ≤ l0.length) ∧ Aside0 (l0.length - kk ≤ gg) ∧ Aside0 (idxS k r u (l0.drop kk) kk = some j) ∧ Aside0 (Below w.heap.size w wr))
  case atStart => exact ⟨0, rfl, ⟨Nat.zero_le _⟩, ⟨by omega⟩, H', ⟨by repeat (first | (with_reducible first | exact HB.out | apply below_alloc | apply pw_below_drewN | apply below_drew1) | exact HB.out)⟩⟩
  case round =>
    clear H' HB
    obtain ⟨kk, rfl, HK, HG, HA, HB⟩ := hrel
    by_cases hlt : kk < l0.length
    · have hltz : (kk : Int) < (l0.length : Int) := by omega
      have h0z : (0 : Int) ≤ (kk : Int) := Int.natCast_nonneg kk
      have H := HA.out
      have hdr : l0.drop kk = rd_T25 l0 (kk : Int) :: l0.drop (kk + 1) := by
        rw [List.drop_eq_getElem_cons hlt]
        congr 1
        simp [rd_T25, hlt]
      rw [hdr] at H
      simp only [idxS] at H
      obtain ⟨b, Hb, H⟩ := bi_ H
      obtain ⟨ad1, A1, c1, A2, c2, e1, hx1, hx2, hl1, hi1, hl2, hi2⟩ := at_T25 (Kd.C_below HR0.out HB.out) (kk : Int) h0z hltz
      cases e1
      rw [show ((kk : Int)).toNat = kk from rfl] at hx1 hx2
      have HI1 := Aside0.mk hi1
      have HI2 := Aside0.mk hi2
      have HL1 := Aside0.mk hl1
      have HL2 := Aside0.mk hl2
      clear hi1 hi2 hl1 hl2
      cases b with
      | true =>
        rw [if_pos rfl] at H
        obtain rfl := Option.some.inj H
        clear H
        go_wp2_with (fail)
        refine (hcl.out _ _ (rd_T25 l0 (kk : Int)).f0 _ _ (rd_T25 l0 (kk : Int)).f1 true wr HB.out HI1.out HL1.out HI2.out HL2.out Hb.out).mono ?_
        rintro e w2 ⟨rfl, hb⟩
        have HB2 := Aside0.mk (below_step HB.out hb)
        clear hb
        go_wp2
        go_ret
        exact ⟨rfl, by repeat (first | (with_reducible first | exact HB2.out | apply below_alloc | apply pw_below_drewN | apply below_drew1) | exact HB2.out)⟩
      | false =>
        rw [if_neg (by decide)] at H
        have H2 := Aside0.mk H
        clear H
        go_wp2_with (fail)
        refine (hcl.out _ _ (rd_T25 l0 (kk : Int)).f0 _ _ (rd_T25 l0 (kk : Int)).f1 false wr HB.out HI1.out HL1.out HI2.out HL2.out Hb.out).mono ?_
        rintro e w2 ⟨rfl, hb⟩
        have HB2 := Aside0.mk (below_step HB.out hb)
        clear hb
        go_wp2
        go_roundg (l0.length - (kk + 1))
        case measure => have := HG.out; omega
        case rel => exact ⟨kk + 1, by congr 1, ⟨by omega⟩, ⟨by omega⟩, H2, ⟨by repeat (first | (with_reducible first | exact HB2.out | apply below_alloc | apply pw_below_drewN | apply below_drew1) | exact HB2.out)⟩⟩
    · have hltz : ¬ (kk : Int) < (l0.length : Int) := by omega
      have H := HA.out
      rw [List.drop_eq_nil_of_le (by omega)] at H
      simp only [idxS] at H
      obtain rfl := Option.some.inj H
      clear H
      go_wp2
      go_ret
      exact ⟨rfl, by repeat (first | (with_reducible first | exact HB.out | apply below_alloc | apply pw_below_drewN | apply below_drew1) | exact HB.out)⟩
set_option maxHeartbeats 8000000 in
set_option maxRecDepth 100000 in
theorem index_calls (k : Nat) (gO : Nat) (A0 : Option Addr) (c0 : Nat) (l0 : List S25) (v1 v2 v3 v4 : Value) (B0 : Option Addr) (d0 : Nat) (r : List Int) (B1 : Option Addr) (d1 : Nat) (u : List Int) (j : Int) (w : World) (hr0 : Kd.C k25 w A0 l0.length l0) (hc0 : l0.length ≤ c0) (h2 : Kd.C (Kd.int .i64) w B0 r.length r) (g2 : r.length ≤ d0) (h3 : Kd.C (Kd.int .i64) w B1 u.length u) (g3 : u.length ≤ d1)
    (hO : w.heap[gO]? = some (.cells #[.slice A0 l0.length c0, v1, v2, v3, v4] 69 (0, 0))) (h : indexO k l0 r u = some j) :
    Calls Try.prog 72 #[.pointer (some ⟨gO, 0, none⟩), .agg #[.slice B0 r.length d0, .slice B1 u.length d1]] w fun e w' => e = .returned (.int .i64 j) ∧ Below w.heap.size w w' := by
  have hu := Try.underlying25
  have H0 := Aside0.mk hr0; have H2 := Aside0.mk h2; have H3 := Aside0.mk h3
  have G0 := Aside0.mk hc0; have G2 := Aside0.mk g2; have G3 := Aside0.mk g3
  have BO := Aside0.mk hO; have HA := Aside0.mk h
  clear hr0 h2 h3 hc0 g2 g3 hO h
  have HB := Aside0.mk (Below.refl w.heap.size w)
  go_enter Try.func72, Try.ntmps72
  go_wp2_with (first | ((with_reducible refine gate_dst (N := 3) rfl ?_); refine bx_ 3 #[.slice B0 r.length d0, .slice B1 u.length d1] 25 ?_; intro gb hg w2 hbox hb; have BK := Aside0.mk hbox; have BP := bb_ BO hb; replace HB := b1_ hb; clear hb hbox hg; have hco0 : w2.cell? ⟨gO, 0, none⟩ = some (.slice A0 l0.length c0) := (blk_cell BP.out 0).trans rfl; have hfo0 := blk_frozen BP.out 0) | ((with_reducible refine gate_callee (f := 108) rfl ?_); refine gL_ (some 10) Try.func108 #[.slice A0 l0.length c0, .func (.func 109) #[] #[.pointer (some ⟨gb, 0, none⟩)]] rfl qa_ ?_; refine (index_main k 109 #[.pointer (some ⟨gb, 0, none⟩)] (fun args w => enters_ Try.func109 (by kernel_rfl) rfl args w) _ _ l0 r u j _ (cb_ H0) G0.out HA.out (fun A0_ c0_ l0_ A1_ c1_ l1_ b_ w1_ hw_ q0_ q1_ q2_ q3_ q4_ => index_closure k gb A0_ c0_ l0_ A1_ c1_ l1_ B0 d0 r B1 d1 u b_ w1_ q0_ q1_ q2_ q3_ (Kd.C_below (cb_ H2) hw_) G2.out (Kd.C_below (cb_ H3) hw_) G3.out (blk_below BK.out hw_) q4_)).mono ?_; rintro e w3 ⟨rfl, hb⟩; refine ⟨_, rfl, ?_⟩; replace HB := b1_ hb; clear hb))
  go_ret
  exact ⟨qb_, hB_⟩
end Go.Proofs.Ytcggfjpnfodbaaa.M
end
section
namespace Go.Proofs.Ytcggfjpnfodbaaa.A
open Go.RowKit Go.Proofs.YtcggfjpnfodbaaaW.PrintWords Go.Proofs.YtcggfjpnfodbaaaW.PrintLast Go.Proofs.YtcggfjpnfodbaaaW.PrintMore
attribute [local go_sem] max2_int min2_int max_two min_two max_three min_three max_four min_four
set_option linter.unusedVariables false
set_option linter.unusedSimpArgs false
def impl_PermOk.l0 : Nat → List Int → List Bool → Int → Option Bool
  | 0, _, _, _ => none
  | k + 1, l, s, i => if i < (l.length : Int) then (if 0 ≤ i then (if rd l i < 0 then some false else (if rd l i ≥ (l.length : Int) then some false else (if rdOf false s (rd l i) = true then some false else impl_PermOk.l0 k l (s.set (rd l i).toNat true) (wrap64 (i + 1))))) else none) else some true
def impl_PermOk.f (k : Nat) (l0 : List Int) : Option Bool := if (l0.length : Int) > 24 then some false else impl_PermOk.l0 k l0 (List.replicate 24 false) 0
theorem impl_PermOk.mono_l : ∀ k, (∀ y0 y1 y2, LeO (impl_PermOk.l0 k y0 y1 y2) (impl_PermOk.l0 (k + 1) y0 y1 y2))
  | 0 => fun _ _ _ r h => by simp [impl_PermOk.l0] at h
  | k + 1 => by
    have ih0 := impl_PermOk.mono_l k
    · intro y0 y1 y2
      unfold impl_PermOk.l0
      repeat' first|exact ih0 _ _ _|exact lo_|refine LeO.ite ?_ ?_|refine LeO.bind ?_ (fun _ => ?_)
theorem impl_PermOk.mono : ∀ a0 k, LeO (impl_PermOk.f k a0) (impl_PermOk.f (k + 1) a0) := by
  intro a0 k
  unfold impl_PermOk.f
  exact LeO.ite (LeO.refl _) (impl_PermOk.mono_l k _ _ _)
def Z24 : Array Value := #[Value.bool false, Value.bool false, Value.bool false, Value.bool false, Value.bool false, Value.bool false, Value.bool false, Value.bool false, Value.bool false, Value.bool false, Value.bool false, Value.bool false, Value.bool false, Value.bool false, Value.bool false, Value.bool false, Value.bool false, Value.bool false, Value.bool false, Value.bool false, Value.bool false, Value.bool false, Value.bool false, Value.bool false]
theorem row_same (w : World) (g : Nat) (t : TypeId) (cur : Array Value) (hg : w.heap[g]? = some (.cells cur t (0, 0))) : w.setRow g cur = w := by
  have hv : ∀ h, w.heap[g]'h = .cells cur t (0, 0) := fun h => (Array.getElem?_eq_some_iff.1 hg).2
  unfold World.setRow
  cases w with
  | mk heap tape drawn os output =>
    congr 1
    apply Array.ext
    · simp
    · intro k h1 h2
      simp only [Array.getElem_modify]
      split
      · rename_i hk; subst hk; simp at hv; simp [hv h2]
      · rfl
theorem wpList_val {P : Program} {ops : Array Oper} {rest : List Oper} {o : Oper} {a : Act} {Q : Exit → Act → World → Prop} {w : World} (hg : o.guard = none) (v : Value) (w1 : World) (hrun : (execOp a.eval o).run P w = .ok (.value v) w1) (h : wpList P ops Q rest (a.put o.dst v) w1) : wpList P ops Q (o :: rest) a w :=
  wpList_plain hg fun K hK => by unfold Oper.wp; rw [hrun]; exact hK _ _ h
theorem perm_start (w : World) : Kd.R Kd.bool 130 (w.alloc (.cells Z24 130)) w.heap.size (fun _ => True) (.slice (some ⟨w.heap.size, 0, none⟩) 24 24) (List.replicate 24 false) := by
  have h := World.ownsRow_lit (base := w.heap.size) (e := 130) (size := 1) w Z24 24 (Nat.le_refl _) (by unfold maxLen; omega) rfl
  exact Kd.R_of_own (xs := List.replicate 24 false) h (fun _ _ => trivial)
set_option maxHeartbeats 8000000 in
set_option maxRecDepth 100000 in
theorem impl_PermOk.calls (k : Nat) (A0 : Option Addr) (c0 : Nat) (l0 : List Int) (r : Bool) (w : World) (hr0 : Kd.C (Kd.int .i64) w A0 l0.length l0) (hc0 : l0.length ≤ c0) (h : impl_PermOk.f k l0 = some r) :
    Calls Try.prog 107 #[.slice A0 l0.length c0] w fun e w' => e = .returned (.bool r) ∧ Below w.heap.size w w' := by
  have HR0 := Aside0.mk hr0
  have HC0 := Aside0.mk hc0
  clear hr0 hc0
  have hst := perm_start w
  have HST := Aside0.mk hst
  clear hst
  have hb0 : Below w.heap.size w (w.alloc (.cells Z24 130)) := (Below.refl _ _).alloc (Nat.le_refl _) _
  have HB0 := Aside0.mk hb0
  clear hb0
  unfold impl_PermOk.f at h
  by_cases c2 : (l0.length : Int) > 24
  · rw [if_pos c2] at h
    have c2b0 : decide (24 < (l0.length : Int)) = true := decide_eq_true c2
    have c2b1 : decide (24 < l0.length) = true := decide_eq_true (by omega)
    clear c2
    obtain rfl := Option.some.inj h
    go_enter Try.func107, Try.ntmps107
    go_upto_region 1 with (fail)
    refine wp_region_lit ?_
    refine wpList_val rfl (.agg Z24) w (by as_aux_lemma => kernel_rfl) ?_
    refine wpList_val rfl (.pointer (some ⟨w.heap.size, 0, none⟩)) (w.alloc (.cells Z24 130)) (by as_aux_lemma => kernel_rfl) ?_
    refine wpList_store_row rfl 130 (.tmp 3) (.tmp 6) rfl w.heap.size Z24 rfl rfl 130 Z24 (heap_alloc_new _ _) (by as_aux_lemma => kernel_rfl) rfl (by as_aux_lemma => kernel_rfl) ?_
    rw [row_same _ _ _ _ (heap_alloc_new _ _)]
    generalize w.alloc (.cells Z24 130) = wq at HB0 ⊢
    generalize Value.agg Z24 = ag
    go_wp2
    go_ret
    exact ⟨rfl, HB0.out⟩
  · rw [if_neg c2] at h
    have hn : l0.length ≤ 24 := by omega
    have HN := Aside0.mk hn
    clear hn
    have c2b0 : decide (24 < (l0.length : Int)) = false := decide_eq_false c2
    have c2b1 : decide (24 < l0.length) = false := decide_eq_false (by omega)
    clear c2
    have H' := Aside0.mk h
    clear h
    go_enter Try.func107, Try.ntmps107
    go_upto_region 1 with (fail)
    refine wp_region_lit ?_
    refine wpList_val rfl (.agg Z24) w (by as_aux_lemma => kernel_rfl) ?_
    refine wpList_val rfl (.pointer (some ⟨w.heap.size, 0, none⟩)) (w.alloc (.cells Z24 130)) (by as_aux_lemma => kernel_rfl) ?_
    refine wpList_store_row rfl 130 (.tmp 3) (.tmp 6) rfl w.heap.size Z24 rfl rfl 130 Z24 (heap_alloc_new _ _) (by as_aux_lemma => kernel_rfl) rfl (by as_aux_lemma => kernel_rfl) ?_
    rw [row_same _ _ _ _ (heap_alloc_new _ _)]
    generalize w.alloc (.cells Z24 130) = wq at HB0 HST ⊢
    generalize Value.agg Z24 = ag
    go_wp2
    go_loopg [12] k (fun kq v12 w' => ∃ (s : List Bool) (i : Int), v12 = .int .i64 i ∧ Aside0 (impl_PermOk.l0 kq l0 s i = some r) ∧ Aside0 (kq ≤ k) ∧ Aside0 (s.length = 24) ∧ Aside0 (Kd.R Kd.bool 130 w' w.heap.size (fun _ => True) (.slice (some ⟨w.heap.size, 0, none⟩) 24 24) s) ∧ Aside0 (Below w.heap.size w w'))
    case atStart => exact ⟨List.replicate 24 false, 0, rfl, H', ⟨Nat.le_refl _⟩, ⟨rfl⟩, HST, HB0⟩
    case round =>
      clear H' HST HB0
      obtain ⟨s, i, rfl, HA, HK1, HS, HO, HB⟩ := hrel
      cases gk with
      | zero => exact absurd HA.out (by simp [impl_PermOk.l0])
      | succ k1 =>
        have H := HA.out
        clear HA
        simp only [impl_PermOk.l0] at H
        by_cases c3 : i < (l0.length : Int)
        · rw [if_pos c3] at H
          have c4 := cp_ H
          replace H := ca_ H
          have c3b0 := decide_eq_true c3
          have c4b0 := decide_eq_true c4
          obtain ⟨ad, e0, hx⟩ := Kd.at_int HR0.out i c4 c3
          cases e0
          replace hx := (HB.out.cell (World.block_lt_of_cell? w _ hx)).trans hx
          replace c3 := eq_true c3
          replace c4 := eq_true c4
          by_cases c5 : rd l0 i < 0
          · rw [if_pos c5] at H
            have c5b0 := decide_eq_true c5
            clear c5
            obtain rfl := Option.some.inj H
            go_wp2
            go_ret
            exact ⟨rfl, HB.out⟩
          · rw [if_neg c5] at H
            have c5b0 := decide_eq_false c5
            by_cases c6 : rd l0 i ≥ (l0.length : Int)
            · rw [if_pos c6] at H
              have c6b0 : decide ((l0.length : Int) ≤ rd l0 i) = true := decide_eq_true c6
              clear c5 c6
              obtain rfl := Option.some.inj H
              go_wp2
              go_ret
              exact ⟨rfl, HB.out⟩
            · rw [if_neg c6] at H
              have c6b0 : decide ((l0.length : Int) ≤ rd l0 i) = false := decide_eq_false c6
              have p1 : 0 ≤ rd l0 i := by omega
              have p2 : rd l0 i < ((24 : Nat) : Int) := by have := HN.out; omega
              have p2' : rd l0 i < 24 := p2
              obtain ⟨hy, hz⟩ := Kd.R_celln false HO.out (rd l0 i) p1 p2
              have p1b : decide (0 ≤ rd l0 i) = true := decide_eq_true p1
              have p2b : decide (rd l0 i < 24) = true := decide_eq_true p2'
              clear c5 c6
              by_cases c7 : rdOf false s (rd l0 i) = true
              · rw [if_pos c7] at H
                rw [c7] at hy
                clear c7
                obtain rfl := Option.some.inj H
                go_wp2
                go_ret
                exact ⟨rfl, HB.out⟩
              · rw [if_neg c7] at H
                replace c7 := Bool.eq_false_iff.mpr c7
                rw [c7] at hy
                clear c7
                have H' := Aside0.mk H
                clear H
                have HP := Kd.R_putg HO.out (rd l0 i) true
                have HP' := Aside0.mk HP
                clear HP
                go_wp2
                go_roundg k1
                case measure => have := HK1.out; omega
                case rel => exact ⟨s.set (rd l0 i).toNat true, wrap64 (i + 1), rfl, H', ⟨by have := HK1.out; omega⟩, ⟨by rw [List.length_set]; exact HS.out⟩, ⟨HP'.out.1⟩, ⟨below_set HB.out (Nat.le_refl _)⟩⟩
        · rw [if_neg c3] at H
          have c3b0 := decide_eq_false c3
          clear c3
          obtain rfl := Option.some.inj H
          go_wp2
          go_ret
          exact ⟨rfl, HB.out⟩
end Go.Proofs.Ytcggfjpnfodbaaa.A
end
section
namespace Go.Proofs.Ytcggfjpnfodbaaa.A
open Go.RowKit Go.Proofs.YtcggfjpnfodbaaaW.PrintWords Go.Proofs.YtcggfjpnfodbaaaW.PrintLast Go.Proofs.YtcggfjpnfodbaaaW.PrintMore
attribute [local go_sem] max2_int min2_int max_two min_two max_three min_three max_four min_four
set_option linter.unusedVariables false
set_option linter.unusedSimpArgs false
mutual
def impl_IsTransitive.j0 : Nat → List Int → List Int → Bool → Option (Bool)
  | 0, _, _, _ => none
  | k + 1, x0, x1, x29 => if x29 = true then (some false) else (if 0 ≤ (x0.length : Int) then (if ((x0.length : Int) : Int).toNat ≤ 281474976710656 then ((some (List.replicate ((x0.length : Int) : Int).toNat false : List Bool)).bind fun y217 => (if 0 < (y217.length : Int) then (impl_IsTransitive.l0 k x0 x1 (y217.set (0 : Int).toNat true) (([0] : List Int)) 0) else (none))) else (none)) else (none))
def impl_IsTransitive.l0 : Nat → List Int → List Int → List Bool → List Int → Int → Option (Bool)
  | 0, _, _, _, _, _ => none
  | k + 1, x0, x1, x5, x6, x7 => if x7 < (x6.length : Int) then (if 0 ≤ x7 then (if 0 ≤ (rd x6 x7) then (if (rd x6 x7) < (x0.length : Int) then (if (rd x6 x7) < (x1.length : Int) then ((some (([rd x0 (rd x6 x7), rd x1 (rd x6 x7)] : List Int) : List Int)).bind fun y228 => (impl_IsTransitive.l1 k x0 x1 x5 x6 x7 y228 (y228.length : Int) 0)) else (none)) else (none)) else (none)) else (none)) else (some ((x6.length : Int) == (x0.length : Int)))
def impl_IsTransitive.l1 : Nat → List Int → List Int → List Bool → List Int → Int → List Int → Int → Int → Option (Bool)
  | 0, _, _, _, _, _, _, _, _ => none
  | k + 1, x0, x1, x5, x6, x7, x56, x57, x58 => if x58 < x57 then (if 0 ≤ x58 then (if x58 < (x56.length : Int) then (if 0 ≤ (rd x56 x58) then (if (rd x56 x58) < (x5.length : Int) then (if (rdOf false x5 (rd x56 x58) = true) then (impl_IsTransitive.l1 k x0 x1 x5 x6 x7 x56 x57 (wrap64 (x58 + 1))) else (if x6.length < 17592186044416 then (impl_IsTransitive.l1 k x0 x1 (x5.set ((rd x56 x58) : Int).toNat true) (x6 ++ [rd x56 x58]) x7 x56 x57 (wrap64 (x58 + 1))) else (none))) else (none)) else (none)) else (none)) else (none)) else (impl_IsTransitive.l0 k x0 x1 x5 x6 (wrap64 (x7 + 1)))
end
def impl_IsTransitive.f (k : Nat) (l0 : List Int) (l1 : List Int) : Option (Bool) := (impl_PermOk.f k l0).bind fun t215 => (if t215 = true then ((impl_PermOk.f k l1).bind fun t216 => (if t216 = true then (if (l0.length : Int) = (l1.length : Int) then (impl_IsTransitive.j0 k l0 l1 ((l0.length : Int) == 0)) else (impl_IsTransitive.j0 k l0 l1 true)) else (impl_IsTransitive.j0 k l0 l1 true))) else (impl_IsTransitive.j0 k l0 l1 true))
theorem impl_IsTransitive.mono_l : ∀ k, (∀ y0 y1 y2, LeO (impl_IsTransitive.j0 k y0 y1 y2) (impl_IsTransitive.j0 (k + 1) y0 y1 y2)) ∧ (∀ y0 y1 y2 y3 y4, LeO (impl_IsTransitive.l0 k y0 y1 y2 y3 y4) (impl_IsTransitive.l0 (k + 1) y0 y1 y2 y3 y4)) ∧ (∀ y0 y1 y2 y3 y4 y5 y6 y7, LeO (impl_IsTransitive.l1 k y0 y1 y2 y3 y4 y5 y6 y7) (impl_IsTransitive.l1 (k + 1) y0 y1 y2 y3 y4 y5 y6 y7))
  | 0 => ⟨fun _ _ _ r h => by simp [impl_IsTransitive.j0] at h, fun _ _ _ _ _ r h => by simp [impl_IsTransitive.l0] at h, fun _ _ _ _ _ _ _ _ r h => by simp [impl_IsTransitive.l1] at h⟩
  | k + 1 => by
    obtain ⟨ih0, ih1, ih2⟩ := impl_IsTransitive.mono_l k
    refine ⟨?_, ?_, ?_⟩
    · intro y0 y1 y2
      unfold impl_IsTransitive.j0
      repeat' first|exact ih0 _ _ _|exact ih1 _ _ _ _ _|exact ih2 _ _ _ _ _ _ _ _|exact impl_PermOk.mono _ _|exact lo_|refine LeO.ite ?_ ?_|refine LeO.bind ?_ (fun _ => ?_)
    · intro y0 y1 y2 y3 y4
      unfold impl_IsTransitive.l0
      repeat' first|exact ih0 _ _ _|exact ih1 _ _ _ _ _|exact ih2 _ _ _ _ _ _ _ _|exact impl_PermOk.mono _ _|exact lo_|refine LeO.ite ?_ ?_|refine LeO.bind ?_ (fun _ => ?_)
    · intro y0 y1 y2 y3 y4 y5 y6 y7
      unfold impl_IsTransitive.l1
      repeat' first|exact ih0 _ _ _|exact ih1 _ _ _ _ _|exact ih2 _ _ _ _ _ _ _ _|exact impl_PermOk.mono _ _|exact lo_|refine LeO.ite ?_ ?_|refine LeO.bind ?_ (fun _ => ?_)
theorem impl_IsTransitive.mono : ∀ a0 a1 k, LeO (impl_IsTransitive.f k a0 a1) (impl_IsTransitive.f (k + 1) a0 a1) := by
  intro a0 a1 k
  obtain ⟨ih0, ih1, ih2⟩ := impl_IsTransitive.mono_l k
  unfold impl_IsTransitive.f
  repeat' first|exact ih0 _ _ _|exact ih1 _ _ _ _ _|exact ih2 _ _ _ _ _ _ _ _|exact impl_PermOk.mono _ _|exact lo_|refine LeO.ite ?_ ?_|refine LeO.bind ?_ (fun _ => ?_)
def impl_IsTransitive.T9 : Bool × List (List Nat × List Nat) := (true, [([], []), ([], []), ([], []), ([1, 2], [1, 2]), ([3], [3]), ([0, 4], [0, 4]), ([5], [5]), ([], []), ([], []), ([], []), ([8, 9], [8, 9]), ([10], [10]), ([7, 11], [7, 11]), ([12], [12]), ([6, 13], [6, 13]), ([14], [14]), ([], [])])
def impl_IsTransitive.B9 : List Nat := [0, 0, 0, 6, 14, 31, 63, 0, 0, 0, 768, 1792, 3968, 8064, 16383, 32767, 0]
theorem impl_IsTransitive.tab9 : rtab .any (opsOf Try.f106 9) = impl_IsTransitive.T9 := by kernel_rfl
theorem impl_IsTransitive.bits9 : waitsOk impl_IsTransitive.T9.2 impl_IsTransitive.B9 = true := by kernel_rfl
set_option maxHeartbeats 8000000 in
set_option maxRecDepth 100000 in
theorem impl_IsTransitive.calls (k : Nat) (A0 : Option Addr) (c0 : Nat) (l0 : List Int) (A1 : Option Addr) (c1 : Nat) (l1 : List Int) (r : Bool) (w : World) (hr0 : Kd.C (Kd.int .i64) w A0 l0.length l0) (hc0 : l0.length ≤ c0) (hr1 : Kd.C (Kd.int .i64) w A1 l1.length l1) (hc1 : l1.length ≤ c1) (h : impl_IsTransitive.f k l0 l1 = some r) :
    Calls Try.prog 106 #[.slice A0 l0.length c0, .slice A1 l1.length c1] w fun e w' => e = .returned (.bool r) ∧ Below w.heap.size w w' := by
  have HR0 := Aside0.mk hr0
  have HC0 := Aside0.mk hc0
  clear hr0 hc0
  have HR1 := Aside0.mk hr1
  have HC1 := Aside0.mk hc1
  clear hr1 hc1
  have HB := Aside0.mk (Below.refl w.heap.size w)
  have H := h
  unfold impl_IsTransitive.f at H
  clear h
  have HC3 := Aside0.mk H
  clear H
  go_enter Try.func106, Try.ntmps106
  go_upto_region 1 with (fail)
  go_cut [29] (fun v29 wc => ∃ (kq : Nat) (x29_2 : Bool), v29 = .bool x29_2 ∧ Aside0 (impl_IsTransitive.j0 kq l0 l1 x29_2 = some r) ∧ Aside0 (kq ≤ k) ∧ Aside0 (Below w.heap.size w wc))
  case first =>
    have H := HC3.out
    clear HC3
    obtain ⟨t215, A4, H⟩ := bi_ H
    by_cases c5 : t215 = true
    · subst c5
      rw [if_pos rfl] at H
      obtain ⟨t216, A6, H⟩ := bi_ H
      by_cases c7 : t216 = true
      · subst c7
        rw [if_pos rfl] at H
        by_cases c8 : (l0.length : Int) = (l1.length : Int)
        · rw [if_pos c8] at H
          have c8b0 : ((l0.length : Int) == (l1.length : Int)) = true := beq_iff_eq.mpr c8
          have c8b1 : ((l0.length : Int) != (l1.length : Int)) = false := bne_eq_false_iff_eq.mpr c8
          have c8b2 : (l0.length == l1.length) = true := by first | simpa using c8 | (simp at c8 ⊢; omega)
          clear c8
          (first | rw [c8b0] | (simp only [i64_w, i32_w]; rw [c8b0]) | skip)
          have H' := Aside0.mk H
          clear H
          go_wp2_with (first | ((with_reducible refine gate_callee (f := 107) rfl ?_); refine gL_ (some 11) Try.func107 #[.slice A0 l0.length c0] rfl qa_ ?_; (with_reducible refine (impl_PermOk.calls k _ _ l0 true _ (cb_ HR0) HC0.out A4.out).mono ?_); rintro e w9 ⟨rfl, hb⟩; refine ⟨_, rfl, ?_⟩; replace HB := b1_ hb; clear hb) | (go_at_call 107; (with_reducible refine (impl_PermOk.calls k _ _ l1 true _ (cb_ HR1) HC1.out A6.out).mono ?_); rintro e w10 ⟨rfl, hb⟩; replace HB := b1_ hb; clear hb))
          go_meet
          case rel => exact ⟨_, (((l0.length : Int) == 0)), qc_, H', ⟨qd_⟩, ⟨hB_⟩⟩
        · rw [if_neg c8] at H
          have c8b0 : ((l0.length : Int) == (l1.length : Int)) = false := beq_eq_false_iff_ne.mpr c8
          have c8b1 : ((l0.length : Int) != (l1.length : Int)) = true := bne_iff_ne.mpr c8
          have c8b2 : (l0.length == l1.length) = false := by first | simpa using c8 | (simp at c8 ⊢; omega)
          (first | rw [c8b0] | (simp only [i64_w, i32_w]; rw [c8b0]) | skip)
          have H' := Aside0.mk H
          clear H
          go_wp2_with (first | ((with_reducible refine gate_callee (f := 107) rfl ?_); refine gL_ (some 11) Try.func107 #[.slice A0 l0.length c0] rfl qa_ ?_; (with_reducible refine (impl_PermOk.calls k _ _ l0 true _ (cb_ HR0) HC0.out A4.out).mono ?_); rintro e w11 ⟨rfl, hb⟩; refine ⟨_, rfl, ?_⟩; replace HB := b1_ hb; clear hb) | (go_at_call 107; (with_reducible refine (impl_PermOk.calls k _ _ l1 true _ (cb_ HR1) HC1.out A6.out).mono ?_); rintro e w12 ⟨rfl, hb⟩; replace HB := b1_ hb; clear hb))
          go_meet
          case rel => exact ⟨_, (true), qc_, H', ⟨qd_⟩, ⟨hB_⟩⟩
      · replace c7 := Bool.eq_false_iff.mpr c7
        subst c7
        have H1 : (impl_IsTransitive.j0 k l0 l1 true) = some r := by rw [if_neg (show ¬ (false = true) by decide)] at H; exact H
        clear H
        have H := H1
        clear H1
        have H' := Aside0.mk H
        clear H
        go_wp2_with (first | ((with_reducible refine gate_callee (f := 107) rfl ?_); refine gL_ (some 11) Try.func107 #[.slice A0 l0.length c0] rfl qa_ ?_; (with_reducible refine (impl_PermOk.calls k _ _ l0 true _ (cb_ HR0) HC0.out A4.out).mono ?_); rintro e w13 ⟨rfl, hb⟩; refine ⟨_, rfl, ?_⟩; replace HB := b1_ hb; clear hb) | (go_at_call 107; (with_reducible refine (impl_PermOk.calls k _ _ l1 false _ (cb_ HR1) HC1.out A6.out).mono ?_); rintro e w14 ⟨rfl, hb⟩; replace HB := b1_ hb; clear hb))
        go_meet
        case rel => exact ⟨_, (true), qc_, H', ⟨qd_⟩, ⟨hB_⟩⟩
    · replace c5 := Bool.eq_false_iff.mpr c5
      subst c5
      have H1 : (impl_IsTransitive.j0 k l0 l1 true) = some r := by rw [if_neg (show ¬ (false = true) by decide)] at H; exact H
      clear H
      have H := H1
      clear H1
      have H' := Aside0.mk H
      clear H
      go_wp2_with (first | ((with_reducible refine gate_callee (f := 107) rfl ?_); refine gL_ (some 11) Try.func107 #[.slice A0 l0.length c0] rfl qa_ ?_; (with_reducible refine (impl_PermOk.calls k _ _ l0 false _ (cb_ HR0) HC0.out A4.out).mono ?_); rintro e w15 ⟨rfl, hb⟩; refine ⟨_, rfl, ?_⟩; replace HB := b1_ hb; clear hb))
      go_meet
      case rel => exact ⟨_, (true), qc_, H', ⟨qd_⟩, ⟨hB_⟩⟩
  case rest =>
    clear HC3
    obtain ⟨kq, x29_2, rfl, HA, HJ2, HB⟩ := hcut
    cases kq with
    | zero => exact absurd HA.out (by simp [impl_IsTransitive.j0])
    | succ kj2 =>
      have H := HA.out
      clear HA
      simp only [impl_IsTransitive.j0] at H
      by_cases c16 : x29_2 = true
      · subst c16
        rw [if_pos rfl] at H
        obtain rfl := Option.some.inj H
        go_wp2
        go_ret
        exact ⟨qb_, hB_⟩
      · replace c16 := Bool.eq_false_iff.mpr c16
        subst c16
        have H1 : (if 0 ≤ (l0.length : Int) then (if ((l0.length : Int) : Int).toNat ≤ 281474976710656 then ((some (List.replicate ((l0.length : Int) : Int).toNat false : List Bool)).bind fun y217 => (if 0 < (y217.length : Int) then (impl_IsTransitive.l0 kj2 l0 l1 (y217.set (0 : Int).toNat true) (([0] : List Int)) 0) else (none))) else (none)) else (none)) = some r := by rw [if_neg (show ¬ (false = true) by decide)] at H; exact H
        clear H
        have H := H1
        clear H1
        have c17 := cp_ H
        replace H := ca_ H
        have c17b0 := eq_true c17
        have c17b1 := decide_eq_true c17
        clear c17
        have c18 := cp_ H
        replace H := ca_ H
        have c18b0 := eq_true c18
        have c18b1 := decide_eq_true c18
        clear c18
        obtain ⟨y217, hy217⟩ : ∃ y_ : List Bool, y_ = (List.replicate ((l0.length : Int) : Int).toNat false) := ⟨_, rfl⟩
        replace H : (if 0 < (y217.length : Int) then (impl_IsTransitive.l0 kj2 l0 l1 (y217.set (0 : Int).toNat true) (([0] : List Int)) 0) else (none)) = some r := by first | (rw [hy217]; exact H) | exact H
        have Ny217 := Aside0.mk hy217
        clear hy217
        have c19 := cp_ H
        replace H := ca_ H
        have c19b0 := decide_eq_true c19
        have c19b1 : decide (0 < y217.length) = true := decide_eq_true (by omega)
        clear c19
        obtain ⟨y220, hy220⟩ : ∃ y_ : List Bool, y_ = (y217.set (0 : Int).toNat true) := ⟨_, rfl⟩
        replace H : (impl_IsTransitive.l0 kj2 l0 l1 y220 (([0] : List Int)) 0) = some r := by first | (rw [hy220]; exact H) | exact H
        have Ny220 := Aside0.mk hy220
        clear hy220
        obtain ⟨y221, hy221⟩ : ∃ y_ : List Int, y_ = (([0] : List Int)) := ⟨_, rfl⟩
        replace H : (impl_IsTransitive.l0 kj2 l0 l1 y220 y221 0) = some r := by first | (rw [hy221]; exact H) | exact H
        have Ny221 := Aside0.mk hy221
        clear hy221
        have H' := Aside0.mk H
        clear H
        go_wp2_with (first | ((with_reducible refine gate_dst (N := 32) rfl ?_); (try (refine gate_guard (by rfl) ?_; dsimp only)); refine Kd.R_make Kd.bool _ 4 rfl (N := 32) rfl 66 _ _ rfl (l0.length : Int) rfl rfl Try.underlying66 (.bool false) 1 info4 rfl (by decide) (by omega) false (ok := fun _ => True) (okp := fun _ => True) rfl (fun _ hk => hk) trivial (of_decide_eq_true qe_) (Nat.le_trans (Nat.mul_le_mul_right _ (of_decide_eq_true qe_ : (l0.length : Int).toNat ≤ 281474976710656)) (by omega)) (Below.refl _ _) (Nat.le_refl _) ?_; intro v218 w21 ho22 hb hg_ hnew_; clear hg_ hnew_; (first | rw [← Ny217.out] at ho22 | (simp only [Int.reduceToNat] at ho22; rw [← Ny217.out] at ho22)); have HO219 := rl_ w ho22; replace HB := b1_ hb; clear hb ho22; have p20 : 0 ≤ (0 : Int) := (by omega); have q20 : (0 : Int) < ((y217.length : Int) : Int) := of_decide_eq_true qe_; have qi20 : (0 < y217.length) = True := eq_true (by omega); obtain ⟨go20, co20, eo20, gb20, gl20, cl20, HG20⟩ := Kd.R_form HO219.out (by omega); (first | cases eo20 | (injection eo20 with ea_ en_ ec_; (first | subst ea_ | (injection ea_ with ea_; subst ea_)); subst ec_; clear en_)); have GB20 := Aside0.mk gb20; have GG20 := Aside0.mk HG20; clear gb20 gl20 HG20; obtain ⟨hx20_0, hf20_0⟩ := Kd.R_celln false HO219.out (0 : Int) p20 q20; (try rw [show ((0 : Int)).toNat = 0 from rfl] at hx20_0); (try simp only [Nat.reduceMul, Nat.zero_mul, Nat.zero_add, Nat.reduceAdd] at hx20_0); (try rw [show ((0 : Int)).toNat = 0 from rfl] at hf20_0); (try simp only [Nat.reduceMul, Nat.zero_mul, Nat.zero_add, Nat.reduceAdd] at hf20_0); replace p20 := eq_true p20; replace q20 := eq_true q20; obtain ⟨hy23_, hz23_⟩ := Kd.R_celln false HO219.out (0 : Int) (by omega) (of_decide_eq_true qe_); (try simp only [Int.reduceToNat, Int.toNat_zero, Int.toNat_ofNat, Nat.reduceMul, Nat.zero_mul, Nat.zero_add] at hy23_ hz23_); (try rw [show ((0 : Int)).toNat = 0 from rfl] at hy23_); (try rw [show ((0 : Int)).toNat = 0 from rfl] at hz23_); have HP23 := Kd.R_putg HO219.out (0 : Int) true) | ((with_reducible refine gate_store (t := 4) (p := 34) rfl ?_); refine store_event (t := 4) (p := 34) (v := ?vo_w24) (w1 := (w21.setCell ⟨go20, (0 : Int).toNat, none⟩ (.bool true))) ?hg ?ho ?hn ?hr ?_; (case ho => rfl); (case hg => rfl); (case hn => rfl); (case hr => first | (go_simp; done) | (go_simp; rfl)); intro w24 hw; have hg : w21.grownBy w24 (some go20) := (by rw [hw]; exact HP23.2); have hp_ : Kd.R Kd.bool 4 w24 w.heap.size (fun _ => True) (.slice (some ⟨go20, 0, none⟩) y217.length co20) y220 := (by rw [hw, Ny220.out]; exact HP23.1); clear HP23; replace HO219 := Aside0.mk (hp_); replace HB := Aside0.mk ((by rw [hw]; exact below_set (HB.out) GB20.out : Below w.heap.size w w24)); clear hg hw hp_) | ((with_reducible refine gate_dst (N := 35) rfl ?_); (try (refine gate_guard (by rfl) ?_; dsimp only)); refine Kd.R_lit (Kd.int .i64) _ 3 ?hg (N := 35) ?hd (xs := ([0] : List Int)) (inner := [.int .i64 0]) (ok := fun _ => True) (okp := fun _ => True) ?hr ?hp (fun _ hk => hk) trivial (Below.refl _ _) (Nat.le_refl _) (by simp) ?_; (case hd => rfl); (case hg => rfl); (case hr => first | (go_simp; done) | (go_simp; rfl)); (case hp => exact (Reps.one (show Kd.M (Kd.int .i64) _ _ _ 0 [.int .i64 0] from rfl) (Reps.none _ _))); intro v222 w25 ho26 hb hg_ hnew_; clear hg_ hnew_; (first | rw [← Ny221.out] at ho26 | (simp only [Int.reduceToNat] at ho26; rw [← Ny221.out] at ho26)); replace HO219 := rb_ HO219 hb; have HO223 := rl_ w ho26; replace HB := b1_ hb; clear hb ho26))
        go_loopg [6, 7] kj2 (fun kq v6 v7 w' => ∃ (x5_2 : List Bool) (x6_2 : List Int) (x7_2 : Int), v7 = .int .i64 x7_2 ∧ Aside0 (impl_IsTransitive.l0 kq l0 l1 x5_2 x6_2 x7_2 = some r) ∧ Aside0 (kq ≤ kj2) ∧ Aside0 (Kd.R Kd.bool 4 w' w.heap.size (fun _ => True) (.slice (some ⟨go20, 0, none⟩) y217.length co20) x5_2) ∧ Aside0 (Kd.R (Kd.int .i64) 3 w' w.heap.size (fun _ => True) v6 x6_2) ∧ Aside0 (Below w.heap.size w w'))
        case atStart => exact ⟨(y220), (y221), (0), qc_, H', ⟨Nat.le_refl _⟩, ⟨(rr_ HO219)⟩, ⟨(rr_ HO223)⟩, ⟨hB_⟩⟩
        case round =>
          clear H'
          obtain ⟨x5_2, x6_2, x7_2, rfl, HA, HK2, HO_5, HO_6, HB⟩ := hrel
          have hl5_2 := (Kd.R_reads' HO_5.out).1
          rw [hl5_2] at HO_5
          (try simp only [hl5_2])
          (try simp only [hl5_2] at HO_6)
          cases gk with
          | zero => exact absurd HA.out (by simp [impl_IsTransitive.l0])
          | succ k2 =>
            have H := HA.out
            clear HA
            simp only [impl_IsTransitive.l0] at H
            by_cases c27 : x7_2 < (x6_2.length : Int)
            · rw [if_pos c27] at H
              have c27b0 := decide_eq_true c27
              clear c27
              have c28 := cp_ H
              replace H := ca_ H
              have c28b0 := decide_eq_true c28
              clear c28
              have c29 := cp_ H
              replace H := ca_ H
              have c29b0 := decide_eq_true c29
              clear c29
              have c30 := cp_ H
              replace H := ca_ H
              have c30b0 := decide_eq_true c30
              clear c30
              have c31 := cp_ H
              replace H := ca_ H
              have c31b0 := decide_eq_true c31
              clear c31
              obtain ⟨y228, hy228⟩ : ∃ y_ : List Int, y_ = (([rd l0 (rd x6_2 x7_2), rd l1 (rd x6_2 x7_2)] : List Int)) := ⟨_, rfl⟩
              replace H : (impl_IsTransitive.l1 k2 l0 l1 x5_2 x6_2 x7_2 y228 (y228.length : Int) 0) = some r := by first | (rw [hy228]; exact H) | exact H
              have Ny228 := Aside0.mk hy228
              clear hy228
              have H' := Aside0.mk H
              clear H
              obtain ⟨Ao32, co32, eo32⟩ := Kd.R_slice HO_6.out
              subst eo32
              try go_wp2
              replace HO_5 := Aside0.mk (Kd.R_drew HO_5.out)
              replace HO_6 := Aside0.mk (Kd.R_drew HO_6.out)
              replace HB := Aside0.mk (below_drew1 HB.out)
              have p224 : 0 ≤ (x7_2 : Int) := of_decide_eq_true qe_
              have q224 : x7_2 < (x6_2.length : Int) := of_decide_eq_true qe_
              obtain ⟨ad224, e224, hx224_0⟩ := Kd.at_int (Kd.R_reads' HO_6.out).2.2 x7_2 p224 q224
              cases e224
              replace p224 := eq_true p224
              replace q224 := eq_true q224
              have p225 : 0 ≤ ((rd x6_2 x7_2) : Int) := of_decide_eq_true qe_
              have q225 : (rd x6_2 x7_2) < (l0.length : Int) := of_decide_eq_true qe_
              obtain ⟨ad225, e225, hx225_0⟩ := Kd.at_int HR0.out (rd x6_2 x7_2) p225 q225
              have hw225_0 := hx225_0
              cases e225
              replace hx225_0 := (HB.out.cell (World.block_lt_of_cell? w _ hx225_0)).trans hx225_0
              replace p225 := eq_true p225
              replace q225 := eq_true q225
              have p226 : 0 ≤ (x7_2 : Int) := of_decide_eq_true qe_
              have q226 : x7_2 < (x6_2.length : Int) := of_decide_eq_true qe_
              obtain ⟨ad226, e226, hx226_0⟩ := Kd.at_int (Kd.R_reads' HO_6.out).2.2 x7_2 p226 q226
              obtain rfl : ad224 = ad226 := (by injection e226)
              replace p226 := eq_true p226
              replace q226 := eq_true q226
              have p227 : 0 ≤ ((rd x6_2 x7_2) : Int) := of_decide_eq_true qe_
              have q227 : (rd x6_2 x7_2) < (l1.length : Int) := of_decide_eq_true qe_
              obtain ⟨ad227, e227, hx227_0⟩ := Kd.at_int HR1.out (rd x6_2 x7_2) p227 q227
              have hw227_0 := hx227_0
              cases e227
              replace hx227_0 := (HB.out.cell (World.block_lt_of_cell? w _ hx227_0)).trans hx227_0
              replace p227 := eq_true p227
              replace q227 := eq_true q227
              refine start_ (n := 17) (S := fun w' => w'.cell? (ad224.add (x7_2).toNat) = some (.int .i64 (rd x6_2 x7_2)) ∧ w'.cell? (ad225.add ((rd x6_2 x7_2)).toNat) = some (.int .i64 (rd l0 (rd x6_2 x7_2))) ∧ w'.cell? (ad224.add (x7_2).toNat) = some (.int .i64 (rd x6_2 x7_2)) ∧ w'.cell? (ad227.add ((rd x6_2 x7_2)).toNat) = some (.int .i64 (rd l1 (rd x6_2 x7_2)))) (ds := []) (bl_ 17 0) (by kernel_rfl) rfl (by kernel_rfl) ⟨hx224_0, ((HB.out.cell (World.block_lt_of_cell? w _ hw225_0)).trans hw225_0), hx226_0, ((HB.out.cell (World.block_lt_of_cell? w _ hw227_0)).trans hw227_0)⟩ (fun hHeld => ?_); refine with_tabW impl_IsTransitive.tab9 impl_IsTransitive.bits9 (fun HT_ HW_ => ?_)
              generalize wr.drew = w33 at HO_5 HO_6 HB hx224_0 hx225_0 hx226_0 hx227_0 hHeld ⊢
              refine pu_ 0 (some 42) (bl_ 17 1) HT_ ?_
              refine pu_ 1 (some 43) (bl_ 17 3) HT_ ?_
              refine pu_ 2 (some 44) (bl_ 17 7) HT_ ?_
              refine pu_ 3 (some 45) (bl_ 17 15) HT_ ?_
              refine pu_ 7 (some 49) (bl_ 17 143) HT_ ?_
              refine pu_ 8 (some 50) (bl_ 17 399) HT_ ?_
              refine pu_ 9 (some 51) (bl_ 17 911) HT_ ?_
              refine pu_ 10 (some 52) (bl_ 17 1935) HT_ ?_
              refine pu_ 16 (some 58) (bl_ 17 67471) HT_ ?_
              refine ta_ 4 (some 46) (bl_ 17 67487) HT_ HW_ hHeld ?_
              refine pu_ 5 (some 47) (bl_ 17 67519) HT_ ?_
              refine ta_ 6 (some 48) (bl_ 17 67583) HT_ HW_ hHeld ?_
              refine ta_ 11 (some 53) (bl_ 17 69631) HT_ HW_ hHeld ?_
              refine pu_ 12 (some 54) (bl_ 17 73727) HT_ ?_
              refine ta_ 13 (some 55) (bl_ 17 81919) HT_ HW_ hHeld ?_
              refine on_ 14 (some 56) (bl_ 17 98303) HT_ (fun K hK => ?_)
              refine Kd.R_lit_step (Kd.int .i64) _ 3 ?hg (N := 56) ?hd (xs := ([rd l0 (rd x6_2 x7_2), rd l1 (rd x6_2 x7_2)] : List Int)) (inner := [.int .i64 (rd l0 (rd x6_2 x7_2)), .int .i64 (rd l1 (rd x6_2 x7_2))]) (ok := fun _ => True) (okp := fun _ => True) ?hr ?hp (fun _ hk => hk) trivial (Below.refl _ _) (Nat.le_refl _) (by simp) ?_; (case hd => rfl); (case hg => rfl); (case hr => first | (go_simp; done) | (go_simp; rfl)); (case hp => exact (Reps.one (show Kd.M (Kd.int .i64) _ _ _ (rd l0 (rd x6_2 x7_2)) [.int .i64 (rd l0 (rd x6_2 x7_2))] from rfl) (Reps.one (show Kd.M (Kd.int .i64) _ _ _ (rd l1 (rd x6_2 x7_2)) [.int .i64 (rd l1 (rd x6_2 x7_2))] from rfl) (Reps.none _ _))))
              intro v229 w34 ho35 hb hg_ hnew_
              have HS0_ := (hb.cell (World.block_lt_of_cell? _ _ (hHeld.1))).trans (hHeld.1)
              have HS2_ := (hb.cell (World.block_lt_of_cell? _ _ (hHeld.2.2.1))).trans (hHeld.2.2.1)
              clear hg_ hnew_
              (first | rw [← Ny228.out] at ho35 | (simp only [Int.reduceToNat] at ho35; rw [← Ny228.out] at ho35))
              replace HO_5 := rb_ HO_5 hb
              have HO230 := Aside0.mk (Kd.R_lower (Kd.R_new' ho35 (Kd.R_lt (rr_ HO_6))) (below_size hB_))
              replace HO_6 := Aside0.mk (Kd.R_elder' (rr_ HO_6) (Kd.R_base ho35) hb)
              replace HB := b1_ hb
              clear hb ho35
              obtain ⟨Ao36, co36, eo36⟩ := Kd.R_slice HO230.out
              (first | subst eo36 | (injection eo36 with f1_ f2_ f3_; have f4_ := f1_.symm; have f5_ := f3_.symm; clear f1_ f2_ f3_; subst f4_; subst f5_))
              refine hK.out _ _ ⟨HS0_, ((HB.out.cell (World.block_lt_of_cell? w _ hw225_0)).trans hw225_0), HS2_, ((HB.out.cell (World.block_lt_of_cell? w _ hw227_0)).trans hw227_0)⟩ (fun hHeld => ?_)
              clear hK K
              refine no_ (some 56) ?_
              refine pu_ 15 (some 57) (bl_ 17 131071) HT_ ?_
              refine done_ (done_of HT_.out (by kernel_rfl)) ?_
              try go_wp2
              go_loopg [6, 58] k2 (fun kq v6 v58 w' => ∃ (x5_3 : List Bool) (x6_3 : List Int) (x58_3 : Int), v58 = .int .i64 x58_3 ∧ Aside0 (impl_IsTransitive.l1 kq l0 l1 x5_3 x6_3 x7_2 y228 (y228.length : Int) x58_3 = some r) ∧ Aside0 (kq ≤ k2) ∧ Aside0 (Kd.R Kd.bool 4 w' w.heap.size (fun _ => True) (.slice (some ⟨go20, 0, none⟩) x5_2.length co20) x5_3) ∧ Aside0 (Kd.R (Kd.int .i64) 3 w' w.heap.size (fun k_ => some k_ ≠ ((.slice Ao36 y228.length co36) : Value).ownBlock) v6 x6_3) ∧ Aside0 (Kd.R (Kd.int .i64) 3 w' w.heap.size (fun k_ => some k_ ≠ (v6 : Value).ownBlock) (.slice Ao36 y228.length co36) y228) ∧ Aside0 (Below w.heap.size w w'))
              case atStart => exact ⟨(x5_2), (x6_2), (0), qc_, H', ⟨Nat.le_refl _⟩, ⟨by (try simp only [hl5_2]); (with_reducible repeat (first | apply Kd.R_alloc | apply Kd.R_drewN | apply Kd.R_drew)); exact HO_5.out⟩, ⟨by (try simp only [hl5_2]); (with_reducible repeat (first | apply Kd.R_alloc | apply Kd.R_drewN | apply Kd.R_drew)); exact Kd.R_mono HO_6.out (fun _ hk => hk.2)⟩, ⟨by (try simp only [hl5_2]); (with_reducible repeat (first | apply Kd.R_alloc | apply Kd.R_drewN | apply Kd.R_drew)); exact Kd.R_mono HO230.out (fun _ hk => hk.2)⟩, ⟨hB_⟩⟩
              case round =>
                clear H'
                obtain ⟨x5_3, x6_3, x58_3, rfl, HA, HK3, HO_5, HO_6, HO_56, HB⟩ := hrel
                have hl5_3 := (Kd.R_reads' HO_5.out).1
                rw [hl5_3] at HO_5
                (try simp only [hl5_3])
                (try simp only [hl5_3] at HO_6)
                (try simp only [hl5_3] at HO_56)
                cases gk with
                | zero => exact absurd HA.out (by simp [impl_IsTransitive.l1])
                | succ k3 =>
                  have H := HA.out
                  clear HA
                  simp only [impl_IsTransitive.l1] at H
                  by_cases c37 : x58_3 < (y228.length : Int)
                  · rw [if_pos c37] at H
                    have c37b0 := decide_eq_true c37
                    clear c37
                    have c38 := cp_ H
                    replace H := ca_ H
                    have c38b0 := decide_eq_true c38
                    clear c38
                    have c39 := cp_ H
                    replace H := ca_ H
                    have c39b0 := decide_eq_true c39
                    clear c39
                    have c40 := cp_ H
                    replace H := ca_ H
                    have c40b0 := decide_eq_true c40
                    clear c40
                    have c41 := cp_ H
                    replace H := ca_ H
                    have c41b0 := decide_eq_true c41
                    clear c41
                    obtain ⟨bq42, hbq42⟩ : ∃ b_ : Bool, b_ = (rdOf false x5_3 (rd y228 x58_3)) := ⟨_, rfl⟩
                    replace H : (if (bq42 = true) then (impl_IsTransitive.l1 k3 l0 l1 x5_3 x6_3 x7_2 y228 (y228.length : Int) (wrap64 (x58_3 + 1))) else (if x6_3.length < 17592186044416 then (impl_IsTransitive.l1 k3 l0 l1 (x5_3.set ((rd y228 x58_3) : Int).toNat true) (x6_3 ++ [rd y228 x58_3]) x7_2 y228 (y228.length : Int) (wrap64 (x58_3 + 1))) else (none))) = some r := by rw [← hbq42] at H; exact H
                    have Nbq42 := Aside0.mk hbq42
                    clear hbq42
                    by_cases c43 : (bq42 = true)
                    · subst c43
                      rw [if_pos rfl] at H
                      have H' := Aside0.mk H
                      clear H
                      have p231 : 0 ≤ (x58_3 : Int) := of_decide_eq_true qe_
                      have q231 : x58_3 < (y228.length : Int) := of_decide_eq_true qe_
                      obtain ⟨ad231, e231, hx231_0⟩ := Kd.at_int (Kd.R_reads' HO_56.out).2.2 x58_3 p231 q231
                      cases e231
                      replace p231 := eq_true p231
                      replace q231 := eq_true q231
                      have p232 : 0 ≤ ((rd y228 x58_3) : Int) := of_decide_eq_true qe_
                      have q232 : (rd y228 x58_3) < (x5_3.length : Int) := of_decide_eq_true qe_
                      obtain ⟨ad232, e232, hx232_0⟩ := Kd.at_bool (Kd.R_reads' HO_5.out).2.2 (rd y228 x58_3) p232 q232
                      (try rw [← Nbq42.out] at hx232_0)
                      obtain rfl : (⟨go20, 0, none⟩ : Addr) = ad232 := (by injection e232)
                      (first | simp only [add_plain] at hx232_0 | simp only [add_at] at hx232_0 | simp only [Addr.add, Nat.zero_add] at hx232_0 | skip)
                      replace p232 := eq_true p232
                      replace q232 := eq_true q232
                      go_wp2
                      (try simp only [← hl5_3])
                      go_roundg k3
                      case measure => have := HJ2.out; have := HK2.out; have := HK3.out; omega
                      case rel => exact ⟨(x5_3), (x6_3), (wrap64 (x58_3 + 1)), qc_, H', ⟨by have := HJ2.out; have := HK2.out; have := HK3.out; omega⟩, ⟨by (try simp only [hl5_2]); (try simp only [hl5_3]); (with_reducible repeat (first | apply Kd.R_alloc | apply Kd.R_drewN | apply Kd.R_drew)); exact HO_5.out⟩, ⟨by (try simp only [hl5_2]); (try simp only [hl5_3]); (with_reducible repeat (first | apply Kd.R_alloc | apply Kd.R_drewN | apply Kd.R_drew)); exact HO_6.out⟩, ⟨by (try simp only [hl5_2]); (try simp only [hl5_3]); (with_reducible repeat (first | apply Kd.R_alloc | apply Kd.R_drewN | apply Kd.R_drew)); exact HO_56.out⟩, ⟨hB_⟩⟩
                    · replace c43 := Bool.eq_false_iff.mpr c43
                      subst c43
                      have H1 : (if x6_3.length < 17592186044416 then (impl_IsTransitive.l1 k3 l0 l1 (x5_3.set ((rd y228 x58_3) : Int).toNat true) (x6_3 ++ [rd y228 x58_3]) x7_2 y228 (y228.length : Int) (wrap64 (x58_3 + 1))) else (none)) = some r := by rw [if_neg (show ¬ (false = true) by decide)] at H; exact H
                      clear H
                      have H := H1
                      clear H1
                      obtain ⟨y233, hy233⟩ : ∃ y_ : List Bool, y_ = (x5_3.set ((rd y228 x58_3) : Int).toNat true) := ⟨_, rfl⟩
                      replace H : (if x6_3.length < 17592186044416 then (impl_IsTransitive.l1 k3 l0 l1 y233 (x6_3 ++ [rd y228 x58_3]) x7_2 y228 (y228.length : Int) (wrap64 (x58_3 + 1))) else (none)) = some r := by first | (rw [hy233]; exact H) | exact H
                      have Ny233 := Aside0.mk hy233
                      clear hy233
                      have c45 := cp_ H
                      replace H := ca_ H
                      have LMc45 := Aside0.mk c45
                      clear c45
                      obtain ⟨y234, hy234⟩ : ∃ y_ : List Int, y_ = (x6_3 ++ [rd y228 x58_3]) := ⟨_, rfl⟩
                      replace H : (impl_IsTransitive.l1 k3 l0 l1 y233 y234 x7_2 y228 (y228.length : Int) (wrap64 (x58_3 + 1))) = some r := by first | (rw [hy234]; exact H) | exact H
                      have Ny234 := Aside0.mk hy234
                      clear hy234
                      have H' := Aside0.mk H
                      clear H
                      have p231 : 0 ≤ (x58_3 : Int) := of_decide_eq_true qe_
                      have q231 : x58_3 < (y228.length : Int) := of_decide_eq_true qe_
                      obtain ⟨ad231, e231, hx231_0⟩ := Kd.at_int (Kd.R_reads' HO_56.out).2.2 x58_3 p231 q231
                      cases e231
                      replace p231 := eq_true p231
                      replace q231 := eq_true q231
                      have p232 : 0 ≤ ((rd y228 x58_3) : Int) := of_decide_eq_true qe_
                      have q232 : (rd y228 x58_3) < (x5_3.length : Int) := of_decide_eq_true qe_
                      obtain ⟨ad232, e232, hx232_0⟩ := Kd.at_bool (Kd.R_reads' HO_5.out).2.2 (rd y228 x58_3) p232 q232
                      (try rw [← Nbq42.out] at hx232_0)
                      obtain rfl : (⟨go20, 0, none⟩ : Addr) = ad232 := (by injection e232)
                      (first | simp only [add_plain] at hx232_0 | simp only [add_at] at hx232_0 | simp only [Addr.add, Nat.zero_add] at hx232_0 | skip)
                      replace p232 := eq_true p232
                      replace q232 := eq_true q232
                      have p44 : 0 ≤ ((rd y228 x58_3) : Int) := of_decide_eq_true qe_
                      have q44 : ((rd y228 x58_3) : Int) < ((x5_3.length : Int) : Int) := of_decide_eq_true qe_
                      obtain ⟨hx44_0, hf44_0⟩ := Kd.R_celln false HO_5.out ((rd y228 x58_3) : Int) p44 q44
                      replace p44 := eq_true p44
                      replace q44 := eq_true q44
                      have HP46 := Kd.R_putg HO_5.out ((rd y228 x58_3) : Int) true
                      go_wp2_with (first | ((with_reducible refine gate_store (t := 4) (p := 69) rfl ?_); refine store_event (t := 4) (p := 69) (v := ?vo_w47) (w1 := (wr.setCell ⟨go20, ((rd y228 x58_3) : Int).toNat, none⟩ (.bool true))) ?hg ?ho ?hn ?hr ?_; (case ho => rfl); (case hg => rfl); (case hn => rfl); (case hr => first | (go_simp; done) | (go_simp; rfl)); intro w47 hw; have hg : wr.grownBy w47 (some go20) := (by rw [hw]; exact HP46.2); have hp_ : Kd.R Kd.bool 4 w47 w.heap.size (fun _ => True) (.slice (some ⟨go20, 0, none⟩) x5_3.length co20) y233 := (by rw [hw, Ny233.out]; exact HP46.1); clear HP46; replace HO_6 := Aside0.mk (Kd.R_over' (v := (.slice (some ⟨go20, 0, none⟩) x5_3.length co20)) (rr_ HO_6) (Kd.R_typed HO_5.out) (by decide) hg); replace HO_56 := Aside0.mk (Kd.R_over' (v := (.slice (some ⟨go20, 0, none⟩) x5_3.length co20)) (rr_ HO_56) (Kd.R_typed HO_5.out) (by decide) hg); replace HO_5 := Aside0.mk (hp_); replace HB := Aside0.mk ((by rw [hw]; exact below_set (HB.out) GB20.out : Below w.heap.size w w47)); clear hg hw hp_) | ((with_reducible refine gate_builtin (b := .append) (xs := #[.tmp 70, .tmp 72]) rfl ?_); (try (refine gate_guard (by rfl) ?_; dsimp only)); at_builtin; refine Kd.R_append (Kd.int .i64) (w0 := w) w.heap.size rfl (.tmp 70) (.tmp 72) 23 3 (.int .i64 0) 8 rfl Try.underlying23 info3 rfl (by decide) (by omega) u6 x6_3 (rd y228 x58_3) [.int .i64 (rd y228 x58_3)] (fun k_ => some k_ ≠ (.slice (some ad231) y228.length co36 : Value).ownBlock) (fun _ => False) rfl rfl ?aP (fun _ hk => hk.elim) ?aF ?aO ?aB ?aS ?aL ?_; (case aP => exact rfl); (case aB => exact hB_); (case aF => exact (fun k_ hk => Kd.fresh' (Kd.R_lt (rr_ HO_56)) k_ hk)); (case aO => exact (rr_ HO_6)); (case aS => exact (below_size hB_)); (case aL => have := LMc45.out; omega); intro v235 w48 ho hb hg hat; rw [← Ny234.out] at ho; replace HO_5 := Aside0.mk (Kd.R_over' (rr_ HO_5) (Kd.R_typed (rr_ HO_6)) (by decide) hg); replace HO_56 := Aside0.mk (Kd.R_after (ok := (fun _ => True)) (rw_ (Kd.R_mono HO_56.out (fun _ hk => ⟨trivial, hk⟩))) hg hat); replace HB := Aside0.mk hb; have HO236 := Aside0.mk ho; clear HO_6; clear ho hb hg hat))
                      (try simp only [← hl5_3])
                      go_roundg k3
                      case measure => have := HJ2.out; have := HK2.out; have := HK3.out; omega
                      case rel => exact ⟨(y233), (y234), (wrap64 (x58_3 + 1)), qc_, H', ⟨by have := HJ2.out; have := HK2.out; have := HK3.out; omega⟩, ⟨by (try simp only [hl5_2]); (try simp only [hl5_3]); (with_reducible repeat (first | apply Kd.R_alloc | apply Kd.R_drewN | apply Kd.R_drew)); exact HO_5.out⟩, ⟨by (try simp only [hl5_2]); (try simp only [hl5_3]); (with_reducible repeat (first | apply Kd.R_alloc | apply Kd.R_drewN | apply Kd.R_drew)); exact HO236.out⟩, ⟨by (try simp only [hl5_2]); (try simp only [hl5_3]); (with_reducible repeat (first | apply Kd.R_alloc | apply Kd.R_drewN | apply Kd.R_drew)); exact Kd.R_mono HO_56.out (fun _ hk => hk.2)⟩, ⟨hB_⟩⟩
                  · rw [if_neg c37] at H
                    have c37b0 := decide_eq_false c37
                    clear c37
                    have H' := Aside0.mk H
                    clear H
                    go_wp2
                    (try simp only [← hl5_2, ← hl5_3])
                    go_roundg k3
                    case measure => have := HJ2.out; have := HK2.out; have := HK3.out; omega
                    case rel => exact ⟨(x5_3), (x6_3), (wrap64 (x7_2 + 1)), qc_, H', ⟨by have := HJ2.out; have := HK2.out; have := HK3.out; omega⟩, ⟨by (try simp only [hl5_2]); (try simp only [hl5_3]); (with_reducible repeat (first | apply Kd.R_alloc | apply Kd.R_drewN | apply Kd.R_drew)); exact HO_5.out⟩, ⟨by (try simp only [hl5_2]); (try simp only [hl5_3]); (with_reducible repeat (first | apply Kd.R_alloc | apply Kd.R_drewN | apply Kd.R_drew)); exact Kd.R_mono HO_6.out (fun _ hk => trivial)⟩, ⟨hB_⟩⟩
            · rw [if_neg c27] at H
              have c27b0 := decide_eq_false c27
              clear c27
              obtain rfl := Option.some.inj H
              obtain ⟨Ao49, co49, eo49⟩ := Kd.R_slice HO_6.out
              subst eo49
              go_wp2
              go_ret
              exact ⟨qb_, hB_⟩
end Go.Proofs.Ytcggfjpnfodbaaa.A
end
section
namespace Go.Proofs.Ytcggfjpnfodbaaa.A
open Go.RowKit Go.Proofs.YtcggfjpnfodbaaaW.PrintWords Go.Proofs.YtcggfjpnfodbaaaW.PrintLast Go.Proofs.YtcggfjpnfodbaaaW.PrintMore
attribute [local go_sem] max2_int min2_int max_two min_two max_three min_three max_four min_four
set_option linter.unusedVariables false
set_option linter.unusedSimpArgs false
def impl_SurfaceOk.f (k : Nat) (l0_0 : List Int) (l0_1 : List Int) : Option (Bool) := (impl_IsTransitive.f k l0_0 l0_1).bind fun t238 => (some t238)
theorem impl_SurfaceOk.mono : ∀ a0 a1 k, LeO (impl_SurfaceOk.f k a0 a1) (impl_SurfaceOk.f (k + 1) a0 a1) := by
  intro a0 a1 k
  unfold impl_SurfaceOk.f
  repeat' first|exact impl_IsTransitive.mono _ _ _|exact lo_|refine LeO.ite ?_ ?_|refine LeO.bind ?_ (fun _ => ?_)
set_option maxHeartbeats 8000000 in
set_option maxRecDepth 100000 in
theorem impl_SurfaceOk.calls (k : Nat) (A0_0 : Option Addr) (c0_0 : Nat) (l0_0 : List Int) (A0_1 : Option Addr) (c0_1 : Nat) (l0_1 : List Int) (r : Bool) (w : World) (hr0_0 : Kd.C (Kd.int .i64) w A0_0 l0_0.length l0_0) (hc0_0 : l0_0.length ≤ c0_0) (hr0_1 : Kd.C (Kd.int .i64) w A0_1 l0_1.length l0_1) (hc0_1 : l0_1.length ≤ c0_1) (h : impl_SurfaceOk.f k l0_0 l0_1 = some r) :
    Calls Try.prog 66 #[.agg #[.slice A0_0 l0_0.length c0_0, .slice A0_1 l0_1.length c0_1]] w fun e w' => e = .returned (.bool r) ∧ Below w.heap.size w w' := by
  have hu25 := Try.underlying25
  have HR0_0 := Aside0.mk hr0_0
  have HC0_0 := Aside0.mk hc0_0
  clear hr0_0 hc0_0
  have HR0_1 := Aside0.mk hr0_1
  have HC0_1 := Aside0.mk hc0_1
  clear hr0_1 hc0_1
  have HB := Aside0.mk (Below.refl w.heap.size w)
  have H := h
  unfold impl_SurfaceOk.f at H
  clear h
  obtain ⟨t238, A2, H⟩ := bi_ H
  obtain rfl := Option.some.inj H
  go_enter Try.func66, Try.ntmps66
  go_wp2_with (first | ((with_reducible refine gate_dst (N := 1) rfl ?_); refine bx_ 1 #[.slice A0_0 l0_0.length c0_0, .slice A0_1 l0_1.length c0_1] 25 ?_; intro gb237 hg w3 hbox hb; have BK237 := Aside0.mk hbox; have GW237 := gw_ w hg; have GE237 := GW237; replace HB := b1_ hb; clear hb hbox hg; obtain ⟨hcz4_0, hcz4_1, hfz4_0, hfz4_1⟩ := c2_ BK237) | ((with_reducible refine gate_callee (f := 106) rfl ?_); refine gL_ (some 7) Try.func106 #[.slice A0_0 l0_0.length c0_0, .slice A0_1 l0_1.length c0_1] rfl qa_ ?_; (with_reducible refine (impl_IsTransitive.calls k _ _ l0_0 _ _ l0_1 t238 _ (cb_ HR0_0) HC0_0.out (cb_ HR0_1) HC0_1.out A2.out).mono ?_); rintro e w5 ⟨rfl, hb⟩; refine ⟨_, rfl, ?_⟩; replace BK237 := bb_ BK237 hb; replace HB := b1_ hb; clear hb))
  go_ret
  exact ⟨qb_, hB_⟩
end Go.Proofs.Ytcggfjpnfodbaaa.A
end
section
namespace Go.Proofs.Ytcggfjpnfodbaaa.A
open Go.RowKit Go.Proofs.YtcggfjpnfodbaaaW.PrintWords Go.Proofs.YtcggfjpnfodbaaaW.PrintLast Go.Proofs.YtcggfjpnfodbaaaW.PrintMore
attribute [local go_sem] max2_int min2_int max_two min_two max_three min_three max_four min_four
set_option linter.unusedVariables false
set_option linter.unusedSimpArgs false
def impl_CountSquares.f (k : Nat) (l0_0 : List Int) (l0_1 : List Int) : Option (Int) := (impl_SurfaceOk.f k l0_0 l0_1).bind fun t240 => (if t240 = true then (some (l0_0.length : Int)) else (some 0))
theorem impl_CountSquares.mono : ∀ a0 a1 k, LeO (impl_CountSquares.f k a0 a1) (impl_CountSquares.f (k + 1) a0 a1) := by
  intro a0 a1 k
  unfold impl_CountSquares.f
  repeat' first|exact impl_SurfaceOk.mono _ _ _|exact lo_|refine LeO.ite ?_ ?_|refine LeO.bind ?_ (fun _ => ?_)
set_option maxHeartbeats 8000000 in
set_option maxRecDepth 100000 in
theorem impl_CountSquares.calls (k : Nat) (A0_0 : Option Addr) (c0_0 : Nat) (l0_0 : List Int) (A0_1 : Option Addr) (c0_1 : Nat) (l0_1 : List Int) (r : Int) (w : World) (hr0_0 : Kd.C (Kd.int .i64) w A0_0 l0_0.length l0_0) (hc0_0 : l0_0.length ≤ c0_0) (hr0_1 : Kd.C (Kd.int .i64) w A0_1 l0_1.length l0_1) (hc0_1 : l0_1.length ≤ c0_1) (h : impl_CountSquares.f k l0_0 l0_1 = some r) :
    Calls Try.prog 112 #[.agg #[.slice A0_0 l0_0.length c0_0, .slice A0_1 l0_1.length c0_1]] w fun e w' => e = .returned (.int .i64 r) ∧ Below w.heap.size w w' := by
  have hu25 := Try.underlying25
  have HR0_0 := Aside0.mk hr0_0
  have HC0_0 := Aside0.mk hc0_0
  clear hr0_0 hc0_0
  have HR0_1 := Aside0.mk hr0_1
  have HC0_1 := Aside0.mk hc0_1
  clear hr0_1 hc0_1
  have HB := Aside0.mk (Below.refl w.heap.size w)
  have H := h
  unfold impl_CountSquares.f at H
  clear h
  obtain ⟨t240, A2, H⟩ := bi_ H
  by_cases c3 : t240 = true
  · subst c3
    rw [if_pos rfl] at H
    obtain rfl := Option.some.inj H
    go_enter Try.func112, Try.ntmps112
    go_wp2_with (first | ((with_reducible refine gate_dst (N := 1) rfl ?_); refine bx_ 1 #[.slice A0_0 l0_0.length c0_0, .slice A0_1 l0_1.length c0_1] 25 ?_; intro gb239 hg w4 hbox hb; have BK239 := Aside0.mk hbox; have GW239 := gw_ w hg; have GE239 := GW239; replace HB := b1_ hb; clear hb hbox hg; obtain ⟨hcz5_0, hcz5_1, hfz5_0, hfz5_1⟩ := c2_ BK239) | ((with_reducible refine gate_callee (f := 66) rfl ?_); refine gL_ (some 4) Try.func66 #[.agg #[.slice A0_0 l0_0.length c0_0, .slice A0_1 l0_1.length c0_1]] rfl qa_ ?_; (with_reducible refine (impl_SurfaceOk.calls k _ _ l0_0 _ _ l0_1 true _ (cb_ HR0_0) HC0_0.out (cb_ HR0_1) HC0_1.out A2.out).mono ?_); rintro e w6 ⟨rfl, hb⟩; refine ⟨_, rfl, ?_⟩; replace BK239 := bb_ BK239 hb; replace HB := b1_ hb; clear hb; obtain ⟨hcz7_0, hcz7_1, hfz7_0, hfz7_1⟩ := c2_ BK239))
    go_ret
    exact ⟨qb_, hB_⟩
  · replace c3 := Bool.eq_false_iff.mpr c3
    subst c3
    have H1 : (some 0) = some r := by rw [if_neg (show ¬ (false = true) by decide)] at H; exact H
    clear H
    have H := H1
    clear H1
    obtain rfl := Option.some.inj H
    go_enter Try.func112, Try.ntmps112
    go_wp2_with (first | ((with_reducible refine gate_dst (N := 1) rfl ?_); refine bx_ 1 #[.slice A0_0 l0_0.length c0_0, .slice A0_1 l0_1.length c0_1] 25 ?_; intro gb239 hg w8 hbox hb; have BK239 := Aside0.mk hbox; have GW239 := gw_ w hg; have GE239 := GW239; replace HB := b1_ hb; clear hb hbox hg; obtain ⟨hcz9_0, hcz9_1, hfz9_0, hfz9_1⟩ := c2_ BK239) | ((with_reducible refine gate_callee (f := 66) rfl ?_); refine gL_ (some 4) Try.func66 #[.agg #[.slice A0_0 l0_0.length c0_0, .slice A0_1 l0_1.length c0_1]] rfl qa_ ?_; (with_reducible refine (impl_SurfaceOk.calls k _ _ l0_0 _ _ l0_1 false _ (cb_ HR0_0) HC0_0.out (cb_ HR0_1) HC0_1.out A2.out).mono ?_); rintro e w10 ⟨rfl, hb⟩; refine ⟨_, rfl, ?_⟩; replace BK239 := bb_ BK239 hb; replace HB := b1_ hb; clear hb))
    go_ret
    exact ⟨qb_, hB_⟩
end Go.Proofs.Ytcggfjpnfodbaaa.A
end
section
namespace Go.Proofs.Ytcggfjpnfodbaaa.A
open Go.RowKit Go.Proofs.YtcggfjpnfodbaaaW.PrintWords Go.Proofs.YtcggfjpnfodbaaaW.PrintLast Go.Proofs.YtcggfjpnfodbaaaW.PrintMore
attribute [local go_sem] max2_int min2_int max_two min_two max_three min_three max_four min_four
set_option linter.unusedVariables false
set_option linter.unusedSimpArgs false
mutual
def impl_RenamePerm.j0 : Nat → List Int → List Int → Bool → Option (List Int)
  | 0, _, _, _ => none
  | k + 1, x0, x1, x22 => if x22 = true then (some ([] : List Int)) else (if 0 ≤ (x0.length : Int) then (if ((x0.length : Int) : Int).toNat ≤ 35184372088832 then (impl_RenamePerm.l0 k x1 (List.replicate ((x0.length : Int) : Int).toNat 0) x0 (x0.length : Int) 0) else (none)) else (none))
def impl_RenamePerm.l0 : Nat → List Int → List Int → List Int → Int → Int → Option (List Int)
  | 0, _, _, _, _, _ => none
  | k + 1, x1, x5, x26, x27, x28 => if x28 < x27 then (if 0 ≤ x28 then (if x28 < (x26.length : Int) then (if x28 < (x1.length : Int) then (if 0 ≤ (rd x26 x28) then (if (rd x26 x28) < (x1.length : Int) then (if 0 ≤ (rd x1 x28) then (if (rd x1 x28) < (x5.length : Int) then (impl_RenamePerm.l0 k x1 (x5.set ((rd x1 x28) : Int).toNat (rd x1 (rd x26 x28))) x26 x27 (wrap64 (x28 + 1))) else (none)) else (none)) else (none)) else (none)) else (none)) else (none)) else (none)) else (some x5)
end
def impl_RenamePerm.f (k : Nat) (l0 : List Int) (l1 : List Int) : Option (List Int) := (impl_PermOk.f k l0).bind fun t241 => (if t241 = true then ((impl_PermOk.f k l1).bind fun t242 => (if t242 = true then (impl_RenamePerm.j0 k l0 l1 ((l0.length : Int) != (l1.length : Int))) else (impl_RenamePerm.j0 k l0 l1 true))) else (impl_RenamePerm.j0 k l0 l1 true))
theorem impl_RenamePerm.mono_l : ∀ k, (∀ y0 y1 y2, LeO (impl_RenamePerm.j0 k y0 y1 y2) (impl_RenamePerm.j0 (k + 1) y0 y1 y2)) ∧ (∀ y0 y1 y2 y3 y4, LeO (impl_RenamePerm.l0 k y0 y1 y2 y3 y4) (impl_RenamePerm.l0 (k + 1) y0 y1 y2 y3 y4))
  | 0 => ⟨fun _ _ _ r h => by simp [impl_RenamePerm.j0] at h, fun _ _ _ _ _ r h => by simp [impl_RenamePerm.l0] at h⟩
  | k + 1 => by
    obtain ⟨ih0, ih1⟩ := impl_RenamePerm.mono_l k
    refine ⟨?_, ?_⟩
    · intro y0 y1 y2
      unfold impl_RenamePerm.j0
      repeat' first|exact ih0 _ _ _|exact ih1 _ _ _ _ _|exact impl_PermOk.mono _ _|exact lo_|refine LeO.ite ?_ ?_|refine LeO.bind ?_ (fun _ => ?_)
    · intro y0 y1 y2 y3 y4
      unfold impl_RenamePerm.l0
      repeat' first|exact ih0 _ _ _|exact ih1 _ _ _ _ _|exact impl_PermOk.mono _ _|exact lo_|refine LeO.ite ?_ ?_|refine LeO.bind ?_ (fun _ => ?_)
theorem impl_RenamePerm.mono : ∀ a0 a1 k, LeO (impl_RenamePerm.f k a0 a1) (impl_RenamePerm.f (k + 1) a0 a1) := by
  intro a0 a1 k
  obtain ⟨ih0, ih1⟩ := impl_RenamePerm.mono_l k
  unfold impl_RenamePerm.f
  repeat' first|exact ih0 _ _ _|exact ih1 _ _ _ _ _|exact impl_PermOk.mono _ _|exact lo_|refine LeO.ite ?_ ?_|refine LeO.bind ?_ (fun _ => ?_)
def impl_RenamePerm.T7 : Bool × List (List Nat × List Nat) := (true, [([], []), ([], []), ([], []), ([1, 2], [1, 2]), ([3], [3]), ([], []), ([], []), ([5, 6], [5, 6]), ([7], [7]), ([0, 4, 0, 1, 2, 3, 4, 5, 6, 7, 8], [0, 4]), ([9, 8, 0, 1, 2, 3, 4, 5, 6, 7, 8], [8, 9])])
def impl_RenamePerm.B7 : List Nat := [0, 0, 0, 6, 14, 0, 0, 96, 224, 511, 1023]
theorem impl_RenamePerm.tab7 : rtab .any (opsOf Try.f144 7) = impl_RenamePerm.T7 := by kernel_rfl
theorem impl_RenamePerm.bits7 : waitsOk impl_RenamePerm.T7.2 impl_RenamePerm.B7 = true := by kernel_rfl
set_option maxHeartbeats 8000000 in
set_option maxRecDepth 100000 in
theorem impl_RenamePerm.calls (k : Nat) (A0 : Option Addr) (c0 : Nat) (l0 : List Int) (A1 : Option Addr) (c1 : Nat) (l1 : List Int) (r : List Int) (w : World) (hr0 : Kd.C (Kd.int .i64) w A0 l0.length l0) (hc0 : l0.length ≤ c0) (hr1 : Kd.C (Kd.int .i64) w A1 l1.length l1) (hc1 : l1.length ≤ c1) (h : impl_RenamePerm.f k l0 l1 = some r) :
    Calls Try.prog 144 #[.slice A0 l0.length c0, .slice A1 l1.length c1] w fun e w' => ∃ v0_ : Value, e = .returned (v0_) ∧ Kd.R (Kd.int .i64) 3 w' w.heap.size (fun _ => True) v0_ r ∧ Below w.heap.size w w' := by
  have HR0 := Aside0.mk hr0
  have HC0 := Aside0.mk hc0
  clear hr0 hc0
  have HR1 := Aside0.mk hr1
  have HC1 := Aside0.mk hc1
  clear hr1 hc1
  have HB := Aside0.mk (Below.refl w.heap.size w)
  have H := h
  unfold impl_RenamePerm.f at H
  clear h
  have HC3 := Aside0.mk H
  clear H
  go_enter Try.func144, Try.ntmps144
  go_upto_region 1 with (fail)
  go_cut [22] (fun v22 wc => ∃ (kq : Nat) (x22_2 : Bool), v22 = .bool x22_2 ∧ Aside0 (impl_RenamePerm.j0 kq l0 l1 x22_2 = some r) ∧ Aside0 (kq ≤ k) ∧ Aside0 (Below w.heap.size w wc))
  case first =>
    have H := HC3.out
    clear HC3
    obtain ⟨t241, A4, H⟩ := bi_ H
    by_cases c5 : t241 = true
    · subst c5
      rw [if_pos rfl] at H
      obtain ⟨t242, A6, H⟩ := bi_ H
      by_cases c7 : t242 = true
      · subst c7
        rw [if_pos rfl] at H
        have H' := Aside0.mk H
        clear H
        go_wp2_with (first | ((with_reducible refine gate_callee (f := 107) rfl ?_); refine gL_ (some 9) Try.func107 #[.slice A0 l0.length c0] rfl qa_ ?_; (with_reducible refine (impl_PermOk.calls k _ _ l0 true _ (cb_ HR0) HC0.out A4.out).mono ?_); rintro e w8 ⟨rfl, hb⟩; refine ⟨_, rfl, ?_⟩; replace HB := b1_ hb; clear hb) | (go_at_call 107; (with_reducible refine (impl_PermOk.calls k _ _ l1 true _ (cb_ HR1) HC1.out A6.out).mono ?_); rintro e w9 ⟨rfl, hb⟩; replace HB := b1_ hb; clear hb))
        go_meet
        case rel => exact ⟨_, (((l0.length : Int) != (l1.length : Int))), qc_, H', ⟨qd_⟩, ⟨hB_⟩⟩
      · replace c7 := Bool.eq_false_iff.mpr c7
        subst c7
        have H1 : (impl_RenamePerm.j0 k l0 l1 true) = some r := by rw [if_neg (show ¬ (false = true) by decide)] at H; exact H
        clear H
        have H := H1
        clear H1
        have H' := Aside0.mk H
        clear H
        go_wp2_with (first | ((with_reducible refine gate_callee (f := 107) rfl ?_); refine gL_ (some 9) Try.func107 #[.slice A0 l0.length c0] rfl qa_ ?_; (with_reducible refine (impl_PermOk.calls k _ _ l0 true _ (cb_ HR0) HC0.out A4.out).mono ?_); rintro e w10 ⟨rfl, hb⟩; refine ⟨_, rfl, ?_⟩; replace HB := b1_ hb; clear hb) | (go_at_call 107; (with_reducible refine (impl_PermOk.calls k _ _ l1 false _ (cb_ HR1) HC1.out A6.out).mono ?_); rintro e w11 ⟨rfl, hb⟩; replace HB := b1_ hb; clear hb))
        go_meet
        case rel => exact ⟨_, (true), qc_, H', ⟨qd_⟩, ⟨hB_⟩⟩
    · replace c5 := Bool.eq_false_iff.mpr c5
      subst c5
      have H1 : (impl_RenamePerm.j0 k l0 l1 true) = some r := by rw [if_neg (show ¬ (false = true) by decide)] at H; exact H
      clear H
      have H := H1
      clear H1
      have H' := Aside0.mk H
      clear H
      go_wp2_with (first | ((with_reducible refine gate_callee (f := 107) rfl ?_); refine gL_ (some 9) Try.func107 #[.slice A0 l0.length c0] rfl qa_ ?_; (with_reducible refine (impl_PermOk.calls k _ _ l0 false _ (cb_ HR0) HC0.out A4.out).mono ?_); rintro e w12 ⟨rfl, hb⟩; refine ⟨_, rfl, ?_⟩; replace HB := b1_ hb; clear hb))
      go_meet
      case rel => exact ⟨_, (true), qc_, H', ⟨qd_⟩, ⟨hB_⟩⟩
  case rest =>
    clear HC3
    obtain ⟨kq, x22_2, rfl, HA, HJ2, HB⟩ := hcut
    cases kq with
    | zero => exact absurd HA.out (by simp [impl_RenamePerm.j0])
    | succ kj2 =>
      have H := HA.out
      clear HA
      simp only [impl_RenamePerm.j0] at H
      by_cases c13 : x22_2 = true
      · subst c13
        rw [if_pos rfl] at H
        obtain rfl := Option.some.inj H
        go_wp2
        go_ret
        exact ⟨_, qb_, by first | exact Kd.R_nil _ _ _ _ _ | exact Kd.N_nil _ _ _ _ _ | exact Kd.V_nil _ _ _ _ _ | exact Kd.Q_nil _ _ _ _ _ | exact Kd.S_nil _ _ _ _ _, hB_⟩
      · replace c13 := Bool.eq_false_iff.mpr c13
        subst c13
        have H1 : (if 0 ≤ (l0.length : Int) then (if ((l0.length : Int) : Int).toNat ≤ 35184372088832 then (impl_RenamePerm.l0 kj2 l1 (List.replicate ((l0.length : Int) : Int).toNat 0) l0 (l0.length : Int) 0) else (none)) else (none)) = some r := by rw [if_neg (show ¬ (false = true) by decide)] at H; exact H
        clear H
        have H := H1
        clear H1
        have c14 := cp_ H
        replace H := ca_ H
        have c14b0 := eq_true c14
        have c14b1 := decide_eq_true c14
        clear c14
        have c15 := cp_ H
        replace H := ca_ H
        have c15b0 := eq_true c15
        have c15b1 := decide_eq_true c15
        clear c15
        obtain ⟨y243, hy243⟩ : ∃ y_ : List Int, y_ = (List.replicate ((l0.length : Int) : Int).toNat 0) := ⟨_, rfl⟩
        replace H : (impl_RenamePerm.l0 kj2 l1 y243 l0 (l0.length : Int) 0) = some r := by first | (rw [hy243]; exact H) | exact H
        have Ny243 := Aside0.mk hy243
        clear hy243
        have H' := Aside0.mk H
        clear H
        go_wp2_with (first | ((with_reducible refine gate_dst (N := 25) rfl ?_); (try (refine gate_guard (by rfl) ?_; dsimp only)); refine Kd.R_make (Kd.int .i64) _ 3 rfl (N := 25) rfl 23 _ _ rfl (l0.length : Int) rfl rfl Try.underlying23 (.int .i64 0) 8 info3 rfl (by decide) (by omega) 0 (ok := fun _ => True) (okp := fun _ => True) rfl (fun _ hk => hk) trivial (of_decide_eq_true qe_) (Nat.le_trans (Nat.mul_le_mul_right _ (of_decide_eq_true qe_ : (l0.length : Int).toNat ≤ 35184372088832)) (by omega)) (Below.refl _ _) (Nat.le_refl _) ?_; intro v244 w16 ho17 hb hg_ hnew_; clear hg_ hnew_; (first | rw [← Ny243.out] at ho17 | (simp only [Int.reduceToNat] at ho17; rw [← Ny243.out] at ho17)); have HO245 := rl_ w ho17; replace HB := b1_ hb; clear hb ho17))
        go_loopg [28] kj2 (fun kq v28 w' => ∃ (x5_2 : List Int) (x28_2 : Int), v28 = .int .i64 x28_2 ∧ Aside0 (impl_RenamePerm.l0 kq l1 x5_2 l0 (l0.length : Int) x28_2 = some r) ∧ Aside0 (kq ≤ kj2) ∧ Aside0 (Kd.R (Kd.int .i64) 3 w' w.heap.size (fun _ => True) v244 x5_2) ∧ Aside0 (Below w.heap.size w w'))
        case atStart => exact ⟨(y243), (0), qc_, H', ⟨Nat.le_refl _⟩, ⟨(rr_ HO245)⟩, ⟨hB_⟩⟩
        case round =>
          clear H'
          obtain ⟨x5_2, x28_2, rfl, HA, HK2, HO_5, HB⟩ := hrel
          cases gk with
          | zero => exact absurd HA.out (by simp [impl_RenamePerm.l0])
          | succ k2 =>
            have H := HA.out
            clear HA
            simp only [impl_RenamePerm.l0] at H
            by_cases c18 : x28_2 < (l0.length : Int)
            · rw [if_pos c18] at H
              have c18b0 := decide_eq_true c18
              clear c18
              have c19 := cp_ H
              replace H := ca_ H
              have c19b0 := decide_eq_true c19
              clear c19
              have c20 := cp_ H
              replace H := ca_ H
              have c20b0 := decide_eq_true c20
              clear c20
              have c21 := cp_ H
              replace H := ca_ H
              have c21b0 := decide_eq_true c21
              clear c21
              have c22 := cp_ H
              replace H := ca_ H
              have c22b0 := decide_eq_true c22
              clear c22
              have c23 := cp_ H
              replace H := ca_ H
              have c23b0 := decide_eq_true c23
              clear c23
              have c24 := cp_ H
              replace H := ca_ H
              have c24b0 := decide_eq_true c24
              clear c24
              have c25 := cp_ H
              replace H := ca_ H
              have c25b0 := decide_eq_true c25
              clear c25
              obtain ⟨y249, hy249⟩ : ∃ y_ : List Int, y_ = (x5_2.set ((rd l1 x28_2) : Int).toNat (rd l1 (rd l0 x28_2))) := ⟨_, rfl⟩
              replace H : (impl_RenamePerm.l0 k2 l1 y249 l0 (l0.length : Int) (wrap64 (x28_2 + 1))) = some r := by first | (rw [hy249]; exact H) | exact H
              have Ny249 := Aside0.mk hy249
              clear hy249
              have H' := Aside0.mk H
              clear H
              have p246 : 0 ≤ (x28_2 : Int) := of_decide_eq_true qe_
              have q246 : x28_2 < (l0.length : Int) := of_decide_eq_true qe_
              obtain ⟨ad246, e246, hx246_0⟩ := Kd.at_int HR0.out x28_2 p246 q246
              cases e246
              replace hx246_0 := (HB.out.cell (World.block_lt_of_cell? w _ hx246_0)).trans hx246_0
              replace p246 := eq_true p246
              replace q246 := eq_true q246
              try go_wp2
              replace HO_5 := Aside0.mk (Kd.R_drew HO_5.out)
              replace HB := Aside0.mk (below_drew1 HB.out)
              have p247 : 0 ≤ (x28_2 : Int) := of_decide_eq_true qe_
              have q247 : x28_2 < (l1.length : Int) := of_decide_eq_true qe_
              obtain ⟨ad247, e247, hx247_0⟩ := Kd.at_int HR1.out x28_2 p247 q247
              have hw247_0 := hx247_0
              cases e247
              replace hx247_0 := (HB.out.cell (World.block_lt_of_cell? w _ hx247_0)).trans hx247_0
              replace p247 := eq_true p247
              replace q247 := eq_true q247
              have p248 : 0 ≤ ((rd l0 x28_2) : Int) := of_decide_eq_true qe_
              have q248 : (rd l0 x28_2) < (l1.length : Int) := of_decide_eq_true qe_
              obtain ⟨ad248, e248, hx248_0⟩ := Kd.at_int HR1.out (rd l0 x28_2) p248 q248
              have hw248_0 := hx248_0
              obtain rfl : ad247 = ad248 := (by injection e248)
              replace hx248_0 := (HB.out.cell (World.block_lt_of_cell? w _ hx248_0)).trans hx248_0
              replace p248 := eq_true p248
              replace q248 := eq_true q248
              have p26 : 0 ≤ ((rd l1 x28_2) : Int) := of_decide_eq_true qe_
              have q26 : ((rd l1 x28_2) : Int) < ((x5_2.length : Int) : Int) := of_decide_eq_true qe_
              obtain ⟨go26, co26, eo26, gb26, gl26, cl26, HG26⟩ := Kd.R_form HO_5.out (by omega)
              (first | cases eo26 | (injection eo26 with ea_ en_ ec_; (first | subst ea_ | (injection ea_ with ea_; subst ea_)); subst ec_; clear en_))
              have GB26 := Aside0.mk gb26
              have GG26 := Aside0.mk HG26
              clear gb26 gl26 HG26
              obtain ⟨hx26_0, hf26_0⟩ := Kd.R_celln 0 HO_5.out ((rd l1 x28_2) : Int) p26 q26
              replace p26 := eq_true p26
              replace q26 := eq_true q26
              have HP28 := Kd.R_putn HO_5.out ((rd l1 x28_2) : Int) (rd l1 (rd l0 x28_2))
              rw [← Ny249.out] at HP28
              have HQ28 := Aside0.mk HP28
              clear HP28
              refine start_ (n := 11) (S := fun w' => w'.cell? (ad247.add (x28_2).toNat) = some (.int .i64 (rd l1 x28_2)) ∧ w'.cell? (ad247.add ((rd l0 x28_2)).toNat) = some (.int .i64 (rd l1 (rd l0 x28_2)))) (ds := [10]) (bl_ 11 0) (by kernel_rfl) rfl (by kernel_rfl) ⟨((HB.out.cell (World.block_lt_of_cell? w _ hw247_0)).trans hw247_0), ((HB.out.cell (World.block_lt_of_cell? w _ hw248_0)).trans hw248_0)⟩ (fun hHeld => ?_); refine with_tabW impl_RenamePerm.tab7 impl_RenamePerm.bits7 (fun HT_ HW_ => ?_)
              generalize wr.drew = w27 at HO_5 HB GG26 HQ28 hf26_0 hx247_0 hx248_0 hx26_0 hHeld ⊢
              refine pu_ 0 (some 33) (bl_ 11 1) HT_ ?_
              refine pu_ 1 (some 34) (bl_ 11 3) HT_ ?_
              refine pu_ 2 (some 35) (bl_ 11 7) HT_ ?_
              refine pu_ 3 (some 36) (bl_ 11 15) HT_ ?_
              refine pu_ 5 (some 38) (bl_ 11 47) HT_ ?_
              refine pu_ 6 (some 39) (bl_ 11 111) HT_ ?_
              refine pu_ 7 (some 40) (bl_ 11 239) HT_ ?_
              refine ta_ 4 (some 37) (bl_ 11 255) HT_ HW_ hHeld ?_
              refine ta_ 8 (some 41) (bl_ 11 511) HT_ HW_ hHeld ?_
              refine pu_ 9 (some 42) (bl_ 11 1023) HT_ ?_
              refine last_ (i := 10) (N := none) (bl_ 11 2047) rfl rfl (one_of HT_.out (by kernel_rfl)) (by decide) (fun K hK => ?_)
              refine skip_ (w1 := ?_) (by rfl) rfl ?_ ?_
              rotate_left
              · go_simp
                rfl
              refine hK.out _ _ ?_
              clear hK K
              refine done_ (done_of HT_.out (by kernel_rfl)) ?_
              try go_wp2
              go_roundg k2
              case measure => have := HJ2.out; have := HK2.out; omega
              case rel => exact ⟨(y249), (wrap64 (x28_2 + 1)), qc_, H', ⟨by have := HJ2.out; have := HK2.out; omega⟩, ⟨(rr_ HQ28)⟩, ⟨by repeat (first | (with_reducible first | exact HB.out | apply below_alloc | apply pw_below_drewN | apply below_drew1 | refine below_set ?_ GB26.out) | exact HB.out)⟩⟩
            · rw [if_neg c18] at H
              have c18b0 := decide_eq_false c18
              clear c18
              obtain rfl := Option.some.inj H
              go_wp2
              go_ret
              exact ⟨_, qb_, (rr_ HO_5), hB_⟩
end Go.Proofs.Ytcggfjpnfodbaaa.A
end
section
namespace Go.Proofs.Ytcggfjpnfodbaaa.A
open Go.RowKit Go.Proofs.YtcggfjpnfodbaaaW.PrintWords Go.Proofs.YtcggfjpnfodbaaaW.PrintLast Go.Proofs.YtcggfjpnfodbaaaW.PrintMore
attribute [local go_sem] max2_int min2_int max_two min_two max_three min_three max_four min_four
set_option linter.unusedVariables false
set_option linter.unusedSimpArgs false
def impl_RenameSurface.j0 : Nat → List Int → Bool → List Int → List Int → Option (List Int × List Int × Bool)
  | 0, _, _, _, _ => none
  | k + 1, x1, x21, x251000, x251001 => if x21 = true then (some (([] : List Int), ([] : List Int), false)) else ((impl_RenamePerm.f k x251000 x1).bind fun t254 => ((impl_RenamePerm.f k x251001 x1).bind fun t257 => (some (t254, t257, true))))
def impl_RenameSurface.f (k : Nat) (l0_0 : List Int) (l0_1 : List Int) (l1 : List Int) : Option (List Int × List Int × Bool) := (impl_SurfaceOk.f k l0_0 l0_1).bind fun t252 => (if t252 = true then ((impl_PermOk.f k l1).bind fun t253 => (if t253 = true then (impl_RenameSurface.j0 k l1 ((l1.length : Int) != (l0_0.length : Int)) l0_0 l0_1) else (impl_RenameSurface.j0 k l1 true l0_0 l0_1))) else (impl_RenameSurface.j0 k l1 true l0_0 l0_1))
theorem impl_RenameSurface.mono_l : ∀ k, (∀ y0 y1 y2 y3, LeO (impl_RenameSurface.j0 k y0 y1 y2 y3) (impl_RenameSurface.j0 (k + 1) y0 y1 y2 y3))
  | 0 => fun _ _ _ _ r h => by simp [impl_RenameSurface.j0] at h
  | k + 1 => by
    have ih0 := impl_RenameSurface.mono_l k
    · intro y0 y1 y2 y3
      unfold impl_RenameSurface.j0
      repeat' first|exact ih0 _ _ _ _|exact impl_PermOk.mono _ _|exact impl_RenamePerm.mono _ _ _|exact impl_SurfaceOk.mono _ _ _|exact lo_|refine LeO.ite ?_ ?_|refine LeO.bind ?_ (fun _ => ?_)
theorem impl_RenameSurface.mono : ∀ a0 a1 a2 k, LeO (impl_RenameSurface.f k a0 a1 a2) (impl_RenameSurface.f (k + 1) a0 a1 a2) := by
  intro a0 a1 a2 k
  have ih0 := impl_RenameSurface.mono_l k
  unfold impl_RenameSurface.f
  repeat' first|exact ih0 _ _ _ _|exact impl_PermOk.mono _ _|exact impl_RenamePerm.mono _ _ _|exact impl_SurfaceOk.mono _ _ _|exact lo_|refine LeO.ite ?_ ?_|refine LeO.bind ?_ (fun _ => ?_)
def impl_RenameSurface.T3 : Bool × List (List Nat × List Nat) := (true, [([], []), ([0], [0]), ([], []), ([1, 2], [1, 2]), ([], []), ([4], [4]), ([], []), ([5, 6, 3], [5, 6]), ([3, 7], [3, 7]), ([8, 7, 0, 1, 2, 3, 4, 5, 6, 7, 8], [8]), ([9, 0, 1, 2, 3, 4, 5, 6, 7, 8, 9], [])])
def impl_RenameSurface.B3 : List Nat := [0, 1, 0, 7, 0, 16, 0, 127, 255, 511, 1023]
theorem impl_RenameSurface.tab3 : rtab .any (opsOf Try.f113 3) = impl_RenameSurface.T3 := by kernel_rfl
theorem impl_RenameSurface.bits3 : waitsOk impl_RenameSurface.T3.2 impl_RenameSurface.B3 = true := by kernel_rfl
set_option maxHeartbeats 8000000 in
set_option maxRecDepth 100000 in
theorem impl_RenameSurface.calls (k : Nat) (A0_0 : Option Addr) (c0_0 : Nat) (l0_0 : List Int) (A0_1 : Option Addr) (c0_1 : Nat) (l0_1 : List Int) (A1 : Option Addr) (c1 : Nat) (l1 : List Int) (r1 : List Int) (r2 : List Int) (r3 : Bool) (w : World) (hr0_0 : Kd.C (Kd.int .i64) w A0_0 l0_0.length l0_0) (hc0_0 : l0_0.length ≤ c0_0) (hr0_1 : Kd.C (Kd.int .i64) w A0_1 l0_1.length l0_1) (hc0_1 : l0_1.length ≤ c0_1) (hr1 : Kd.C (Kd.int .i64) w A1 l1.length l1) (hc1 : l1.length ≤ c1) (h : impl_RenameSurface.f k l0_0 l0_1 l1 = some (r1, r2, r3)) :
    Calls Try.prog 113 #[.agg #[.slice A0_0 l0_0.length c0_0, .slice A0_1 l0_1.length c0_1], .slice A1 l1.length c1] w fun e w' => ∃ v0_ v1_ : Value, e = .returned (.tuple #[.agg #[v0_, v1_], .bool r3]) ∧ Kd.R (Kd.int .i64) 3 w' w.heap.size (fun k_ => some k_ ≠ (v1_ : Value).ownBlock) v0_ r1 ∧ Kd.R (Kd.int .i64) 3 w' w.heap.size (fun k_ => some k_ ≠ (v0_ : Value).ownBlock) v1_ r2 ∧ Below w.heap.size w w' := by
  have hu25 := Try.underlying25
  have HR0_0 := Aside0.mk hr0_0
  have HC0_0 := Aside0.mk hc0_0
  clear hr0_0 hc0_0
  have HR0_1 := Aside0.mk hr0_1
  have HC0_1 := Aside0.mk hc0_1
  clear hr0_1 hc0_1
  have HR1 := Aside0.mk hr1
  have HC1 := Aside0.mk hc1
  clear hr1 hc1
  have HB := Aside0.mk (Below.refl w.heap.size w)
  have H := h
  unfold impl_RenameSurface.f at H
  clear h
  have HC3 := Aside0.mk H
  clear H
  go_enter Try.func113, Try.ntmps113
  go_upto_region 1 with (first | ((with_reducible refine gate_dst (N := 2) rfl ?_); (try (refine gate_guard (by rfl) ?_; dsimp only)); refine bx_ 2 #[.slice A0_0 l0_0.length c0_0, .slice A0_1 l0_1.length c0_1] 25 ?_; intro gb250 hg w4 hbox hb; have BK250 := Aside0.mk hbox; have GW250 := gw_ w hg; have GE250 := GW250; replace HB := b1_ hb; clear hb hbox hg) | ((with_reducible refine gate_dst (N := 4) rfl ?_); (try (refine gate_guard (by rfl) ?_; dsimp only)); refine bx_ 4 #[.slice none 0 0, .slice none 0 0] 25 ?_; intro gb251 hg w5 hbox hb; have BK251 := Aside0.mk hbox; have GW251 := gw_ w hg; have GE251 := GW251; replace HB := b1_ hb; have NB250_251 := gN_ BK250 hg; have NB251_250 := gP_ BK250 hg; replace BK250 := bb_ BK250 hb; clear hb hbox hg))
  (try simp only [Act.put, List.setIfInBounds_toArray, List.set_cons_zero, List.set_cons_succ])
  go_cut [21] (fun v21 wc => ∃ (kq : Nat) (x21_2 : Bool), v21 = .bool x21_2 ∧ Aside0 (impl_RenameSurface.j0 kq l1 x21_2 l0_0 l0_1 = some (r1, r2, r3)) ∧ Aside0 (kq ≤ k) ∧ Aside0 (wc.heap[gb250]? = some (.cells #[(.slice A0_0 l0_0.length c0_0), (.slice A0_1 l0_1.length c0_1)] 25 (0, 0))) ∧ Aside0 (wc.heap[gb251]? = some (.cells #[(.slice none 0 0), (.slice none 0 0)] 25 (0, 0))) ∧ Aside0 (Below w.heap.size w wc))
  case first =>
    have H := HC3.out
    clear HC3
    obtain ⟨t252, A6, H⟩ := bi_ H
    by_cases c7 : t252 = true
    · subst c7
      rw [if_pos rfl] at H
      obtain ⟨t253, A8, H⟩ := bi_ H
      by_cases c9 : t253 = true
      · subst c9
        rw [if_pos rfl] at H
        have H' := Aside0.mk H
        clear H
        have hnb10 := NB250_251.out
        have hnc10 := NB251_250.out
        obtain ⟨hcz11_0, hcz11_1, hfz11_0, hfz11_1⟩ := c2_ BK250
        go_wp2_with (first | ((with_reducible refine gate_callee (f := 66) rfl ?_); refine gL_ (some 7) Try.func66 #[.agg #[.slice A0_0 l0_0.length c0_0, .slice A0_1 l0_1.length c0_1]] rfl qa_ ?_; (with_reducible refine (impl_SurfaceOk.calls k _ _ l0_0 _ _ l0_1 true _ (cb_ HR0_0) HC0_0.out (cb_ HR0_1) HC0_1.out A6.out).mono ?_); rintro e w12 ⟨rfl, hb⟩; refine ⟨_, rfl, ?_⟩; replace BK250 := bb_ BK250 hb; replace BK251 := bb_ BK251 hb; replace HB := b1_ hb; clear hb) | (go_at_call 107; (with_reducible refine (impl_PermOk.calls k _ _ l1 true _ (cb_ HR1) HC1.out A8.out).mono ?_); rintro e w13 ⟨rfl, hb⟩; replace BK250 := bb_ BK250 hb; replace BK251 := bb_ BK251 hb; replace HB := b1_ hb; clear hb; obtain ⟨hcz14_0, hcz14_1, hfz14_0, hfz14_1⟩ := c2_ BK250))
        go_meet
        case rel => exact ⟨_, (((l1.length : Int) != (l0_0.length : Int))), qc_, H', ⟨qd_⟩, ⟨(kk_ BK250)⟩, ⟨(kk_ BK251)⟩, ⟨hB_⟩⟩
      · replace c9 := Bool.eq_false_iff.mpr c9
        subst c9
        have H1 : (impl_RenameSurface.j0 k l1 true l0_0 l0_1) = some (r1, r2, r3) := by rw [if_neg (show ¬ (false = true) by decide)] at H; exact H
        clear H
        have H := H1
        clear H1
        have H' := Aside0.mk H
        clear H
        have hnb15 := NB250_251.out
        have hnc15 := NB251_250.out
        obtain ⟨hcz16_0, hcz16_1, hfz16_0, hfz16_1⟩ := c2_ BK250
        go_wp2_with (first | ((with_reducible refine gate_callee (f := 66) rfl ?_); refine gL_ (some 7) Try.func66 #[.agg #[.slice A0_0 l0_0.length c0_0, .slice A0_1 l0_1.length c0_1]] rfl qa_ ?_; (with_reducible refine (impl_SurfaceOk.calls k _ _ l0_0 _ _ l0_1 true _ (cb_ HR0_0) HC0_0.out (cb_ HR0_1) HC0_1.out A6.out).mono ?_); rintro e w17 ⟨rfl, hb⟩; refine ⟨_, rfl, ?_⟩; replace BK250 := bb_ BK250 hb; replace BK251 := bb_ BK251 hb; replace HB := b1_ hb; clear hb) | (go_at_call 107; (with_reducible refine (impl_PermOk.calls k _ _ l1 false _ (cb_ HR1) HC1.out A8.out).mono ?_); rintro e w18 ⟨rfl, hb⟩; replace BK250 := bb_ BK250 hb; replace BK251 := bb_ BK251 hb; replace HB := b1_ hb; clear hb))
        go_meet
        case rel => exact ⟨_, (true), qc_, H', ⟨qd_⟩, ⟨(kk_ BK250)⟩, ⟨(kk_ BK251)⟩, ⟨hB_⟩⟩
    · replace c7 := Bool.eq_false_iff.mpr c7
      subst c7
      have H1 : (impl_RenameSurface.j0 k l1 true l0_0 l0_1) = some (r1, r2, r3) := by rw [if_neg (show ¬ (false = true) by decide)] at H; exact H
      clear H
      have H := H1
      clear H1
      have H' := Aside0.mk H
      clear H
      have hnb19 := NB250_251.out
      have hnc19 := NB251_250.out
      obtain ⟨hcz20_0, hcz20_1, hfz20_0, hfz20_1⟩ := c2_ BK250
      go_wp2_with (first | ((with_reducible refine gate_callee (f := 66) rfl ?_); refine gL_ (some 7) Try.func66 #[.agg #[.slice A0_0 l0_0.length c0_0, .slice A0_1 l0_1.length c0_1]] rfl qa_ ?_; (with_reducible refine (impl_SurfaceOk.calls k _ _ l0_0 _ _ l0_1 false _ (cb_ HR0_0) HC0_0.out (cb_ HR0_1) HC0_1.out A6.out).mono ?_); rintro e w21 ⟨rfl, hb⟩; refine ⟨_, rfl, ?_⟩; replace BK250 := bb_ BK250 hb; replace BK251 := bb_ BK251 hb; replace HB := b1_ hb; clear hb))
      go_meet
      case rel => exact ⟨_, (true), qc_, H', ⟨qd_⟩, ⟨(kk_ BK250)⟩, ⟨(kk_ BK251)⟩, ⟨hB_⟩⟩
  case rest =>
    clear HC3
    obtain ⟨kq, x21_2, rfl, HA, HJ2, BK250, BK251, HB⟩ := hcut
    cases kq with
    | zero => exact absurd HA.out (by simp [impl_RenameSurface.j0])
    | succ kj2 =>
      have H := HA.out
      clear HA
      simp only [impl_RenameSurface.j0] at H
      by_cases c22 : x21_2 = true
      · subst c22
        rw [if_pos rfl] at H
        simp only [Option.some.injEq, Prod.mk.injEq] at H
        obtain ⟨rfl, rfl, rfl⟩ := H
        have hnb23 := NB251_250.out
        have hnc23 := NB250_251.out
        obtain ⟨hcz24_0, hcz24_1, hfz24_0, hfz24_1⟩ := c2_ BK251
        go_wp2
        refine bodyPost_ret (results_ct rfl _ _ gb251 25 #[.slice none 0 0, .slice none 0 0] (0, 0) _ rfl qp_ Try.underlying25 rfl (by kernel_rfl)) rfl ?_
        exact ⟨_, _, qb_, by first | exact Kd.R_nil _ _ _ _ _ | exact Kd.N_nil _ _ _ _ _ | exact Kd.V_nil _ _ _ _ _ | exact Kd.Q_nil _ _ _ _ _ | exact Kd.S_nil _ _ _ _ _, by first | exact Kd.R_nil _ _ _ _ _ | exact Kd.N_nil _ _ _ _ _ | exact Kd.V_nil _ _ _ _ _ | exact Kd.Q_nil _ _ _ _ _ | exact Kd.S_nil _ _ _ _ _, hB_⟩
      · replace c22 := Bool.eq_false_iff.mpr c22
        subst c22
        have H1 : ((impl_RenamePerm.f kj2 l0_0 l1).bind fun t254 => ((impl_RenamePerm.f kj2 l0_1 l1).bind fun t257 => (some (t254, t257, true)))) = some (r1, r2, r3) := by rw [if_neg (show ¬ (false = true) by decide)] at H; exact H
        clear H
        have H := H1
        clear H1
        obtain ⟨t254, A25, H⟩ := bi_ H
        obtain ⟨t257, A26, H⟩ := bi_ H
        simp only [Option.some.injEq, Prod.mk.injEq] at H
        obtain ⟨rfl, rfl, rfl⟩ := H
        try go_wp2
        replace BK250 := Aside0.mk (blk_drew BK250.out)
        replace BK251 := Aside0.mk (blk_drew BK251.out)
        replace HB := Aside0.mk (below_drew1 HB.out)
        refine start_ (n := 11) (S := fun w' => w'.cell? ⟨gb250, 0, none⟩ = some (.slice A0_0 l0_0.length c0_0) ∧ w'.cell? ⟨gb250, 1, none⟩ = some (.slice A0_1 l0_1.length c0_1)) (ds := []) (bl_ 11 0) (by kernel_rfl) rfl (by kernel_rfl) ⟨cz0_ BK250, cz1_ BK250⟩ (fun hHeld => ?_); refine with_tabW impl_RenameSurface.tab3 impl_RenameSurface.bits3 (fun HT_ HW_ => ?_)
        generalize wc.drew = w27 at BK250 BK251 HB hHeld ⊢
        refine pu_ 0 (some 23) (bl_ 11 1) HT_ ?_
        refine pu_ 2 (some 25) (bl_ 11 5) HT_ ?_
        refine pu_ 4 (some 27) (bl_ 11 21) HT_ ?_
        refine pu_ 6 (some 29) (bl_ 11 85) HT_ ?_
        refine ta_ 1 (some 24) (bl_ 11 87) HT_ HW_ hHeld ?_
        refine ta_ 5 (some 28) (bl_ 11 119) HT_ HW_ hHeld ?_
        refine on_ 3 (some 26) (bl_ 11 127) HT_ (fun K hK => ?_)
        refine gO_ Try.func144 #[.slice A0_0 l0_0.length c0_0, .slice A1 l1.length c1] (by rfl) rfl rfl qa_ ?_
        with_reducible refine (impl_RenamePerm.calls kj2 _ _ l0_0 _ _ l1 t254 _ (cb_ HR0_0) HC0_0.out (cb_ HR1) HC1.out A25.out).mono ?_
        rintro e w28 ⟨v255, rfl, ho0, hb⟩
        refine ⟨_, rfl, ?_⟩
        have HO256 := rl_ w ho0
        replace BK250 := bb_ BK250 hb
        replace BK251 := bb_ BK251 hb
        replace HB := b1_ hb
        clear hb ho0
        refine hK.out _ _ ⟨cz0_ BK250, cz1_ BK250⟩ (fun hHeld => ?_)
        clear hK K
        refine no_ (some 26) ?_
        refine on_ 7 (some 30) (bl_ 11 255) HT_ (fun K hK => ?_)
        refine gO_ Try.func144 #[.slice A0_1 l0_1.length c0_1, .slice A1 l1.length c1] (by rfl) rfl rfl qa_ ?_
        with_reducible refine (impl_RenamePerm.calls kj2 _ _ l0_1 _ _ l1 t257 _ (cb_ HR0_1) HC0_1.out (cb_ HR1) HC1.out A26.out).mono ?_
        rintro e w29 ⟨v258, rfl, ho0, hb⟩
        refine ⟨_, rfl, ?_⟩
        have HO259 := Aside0.mk (Kd.R_lower (Kd.R_new' ho0 (Kd.R_lt (rr_ HO256))) (below_size hB_))
        replace HO256 := Aside0.mk (Kd.R_elder' (rr_ HO256) (Kd.R_base ho0) hb)
        replace BK250 := bb_ BK250 hb
        replace BK251 := bb_ BK251 hb
        replace HB := b1_ hb
        clear hb ho0
        obtain ⟨Ao30, co30, eo30⟩ := Kd.R_slice HO259.out
        (first | subst eo30 | (injection eo30 with f1_ f2_ f3_; have f4_ := f1_.symm; have f5_ := f3_.symm; clear f1_ f2_ f3_; subst f4_; subst f5_))
        obtain ⟨Ao31, co31, eo31⟩ := Kd.R_slice HO256.out
        (first | subst eo31 | (injection eo31 with f1_ f2_ f3_; have f4_ := f1_.symm; have f5_ := f3_.symm; clear f1_ f2_ f3_; subst f4_; subst f5_))
        refine hK.out _ _ ⟨cz0_ BK250, cz1_ BK250⟩ (fun hHeld => ?_)
        clear hK K
        refine no_ (some 30) ?_
        refine pu_ 8 (some 31) (bl_ 11 511) HT_ ?_
        refine on_ 9 (none) (bl_ 11 1023) HT_ (fun K hK => ?_)
        have hs32 : w29.cell? ⟨gb251, 0, none⟩ = some (.slice none 0 0) := cz0_ BK251
        have hfs32 := blk_frozen BK251.out 0
        have hns32_0 := NB250_251.out
        have hms32_0 := NB251_250.out
        have hs33 : w29.cell? ⟨gb251, 1, none⟩ = some (.slice none 0 0) := cz1_ BK251
        have hfs33 := blk_frozen BK251.out 1
        have hns33_0 := NB250_251.out
        have hms33_0 := NB251_250.out
        refine skip_ (w1 := ?_) (by rfl) rfl ?_ ?_
        rotate_left
        · go_simp
          rfl
        refine hK.out _ _ ⟨((cell_far (p := ⟨gb251, _, none⟩) NB250_251.out _).trans (((cell_far (p := ⟨gb251, _, none⟩) NB250_251.out _).trans (hHeld.1)))), ((cell_far (p := ⟨gb251, _, none⟩) NB250_251.out _).trans (((cell_far (p := ⟨gb251, _, none⟩) NB250_251.out _).trans (hHeld.2))))⟩ (fun hHeld => ?_)
        clear hK K
        refine pu_ 10 (some 5) (bl_ 11 2047) HT_ ?_
        refine done_ (done_of HT_.out (by kernel_rfl)) ?_
        try go_wp2
        refine bodyPost_ret (results_ct rfl _ _ gb251 25 #[.slice Ao31 t254.length co31, .slice Ao30 t257.length co30] (0, 0) _ rfl qp_ Try.underlying25 rfl (by kernel_rfl)) rfl ?_
        exact ⟨_, _, qb_, (rw_ (Kd.R_mono (fa_ HO256 BK251) (fun _ hk => hk.2))), (rw_ (Kd.R_mono (fa_ HO259 BK251) (fun _ hk => hk.2))), hB_⟩
end Go.Proofs.Ytcggfjpnfodbaaa.A
end
