/- Lemmas for the row FnExactIsOneCylinder: the program's functions told as plain functions, and plain mathematics. No conditions. -/
import Derived.Test.YtbdnellgioimbaaQFnExactIsOneCylinder1
section
namespace Go.Proofs.Ytbdnellgioimbaa.A
open Go.RowKit Go.Proofs.YtbdnellgioimbaaW.PrintWords Go.Proofs.YtbdnellgioimbaaW.PrintLast Go.Proofs.YtbdnellgioimbaaW.PrintMore
attribute [local go_sem] max2_int min2_int max_two min_two max_three min_three max_four min_four
set_option linter.unusedVariables false
set_option linter.unusedSimpArgs false
def spec_l05Unturn.f (k : Nat) (l0_0 : List Int) (l0_1 : List Int) : Option (List Int × List Int) := (some (([] : List Int) : List Int)).bind fun y1266 => (if y1266.length + l0_1.length < 17592186044416 then ((spec_l02Inverse.f k l0_0).bind fun t1272 => (some ((y1266 ++ l0_1), t1272))) else (none))
theorem spec_l05Unturn.mono : ∀ a0 a1 k, LeO (spec_l05Unturn.f k a0 a1) (spec_l05Unturn.f (k + 1) a0 a1) := by
  intro a0 a1 k
  unfold spec_l05Unturn.f
  repeat' first|exact spec_l02Inverse.mono _ _|exact lo_|refine LeO.ite ?_ ?_|refine LeO.bind ?_ (fun _ => ?_)
def spec_l05Unturn.T1 : Bool × List (List Nat × List Nat) := (true, [([], []), ([], []), ([1], [1]), ([0, 2], [0, 2]), ([], []), ([4], [4]), ([5, 3], [5]), ([3, 6], [3, 6]), ([7, 6, 0, 1, 2, 3, 4, 5, 6, 7], [7])])
def spec_l05Unturn.B1 : List Nat := [0, 0, 2, 7, 0, 16, 63, 127, 255]
theorem spec_l05Unturn.tab1 : rtab .any (opsOf Try.f153 1) = spec_l05Unturn.T1 := by kernel_rfl
theorem spec_l05Unturn.bits1 : waitsOk spec_l05Unturn.T1.2 spec_l05Unturn.B1 = true := by kernel_rfl
set_option maxHeartbeats 8000000 in
set_option maxRecDepth 100000 in
theorem spec_l05Unturn.calls (k : Nat) (A0_0 : Option Addr) (c0_0 : Nat) (l0_0 : List Int) (A0_1 : Option Addr) (c0_1 : Nat) (l0_1 : List Int) (r1 : List Int) (r2 : List Int) (w : World) (hr0_0 : Kd.C (Kd.int .i64) w A0_0 l0_0.length l0_0) (hc0_0 : l0_0.length ≤ c0_0) (hr0_1 : Kd.C (Kd.int .i64) w A0_1 l0_1.length l0_1) (hc0_1 : l0_1.length ≤ c0_1) (h : spec_l05Unturn.f k l0_0 l0_1 = some (r1, r2)) :
    Calls Try.prog 153 #[.agg #[.slice A0_0 l0_0.length c0_0, .slice A0_1 l0_1.length c0_1]] w fun e w' => ∃ v0_ v1_ : Value, e = .returned (.agg #[v0_, v1_]) ∧ Kd.R (Kd.int .i64) 3 w' w.heap.size (fun k_ => some k_ ≠ (v1_ : Value).ownBlock) v0_ r1 ∧ Kd.R (Kd.int .i64) 3 w' w.heap.size (fun k_ => some k_ ≠ (v0_ : Value).ownBlock) v1_ r2 ∧ Below w.heap.size w w' := by
  have hu27 := Try.underlying27
  have HR0_0 := Aside0.mk hr0_0
  have HC0_0 := Aside0.mk hc0_0
  clear hr0_0 hc0_0
  have HR0_1 := Aside0.mk hr0_1
  have HC0_1 := Aside0.mk hc0_1
  clear hr0_1 hc0_1
  have HB := Aside0.mk (Below.refl w.heap.size w)
  have H := h
  unfold spec_l05Unturn.f at H
  clear h
  obtain ⟨y1266, hy1266⟩ : ∃ y_ : List Int, y_ = (([] : List Int)) := ⟨_, rfl⟩
  replace H : (if y1266.length + l0_1.length < 17592186044416 then ((spec_l02Inverse.f k l0_0).bind fun t1272 => (some ((y1266 ++ l0_1), t1272))) else (none)) = some (r1, r2) := by first | (rw [hy1266]; exact H) | exact H
  have Ny1266 := Aside0.mk hy1266
  clear hy1266
  have c2 := cp_ H
  replace H := ca_ H
  have LMc2 := Aside0.mk c2
  clear c2
  obtain ⟨y1269, hy1269⟩ : ∃ y_ : List Int, y_ = (y1266 ++ l0_1) := ⟨_, rfl⟩
  replace H : ((spec_l02Inverse.f k l0_0).bind fun t1272 => (some (y1269, t1272))) = some (r1, r2) := by first | (rw [hy1269]; exact H) | exact H
  have Ny1269 := Aside0.mk hy1269
  clear hy1269
  obtain ⟨t1272, A3, H⟩ := bi_ H
  simp only [Option.some.injEq, Prod.mk.injEq] at H
  obtain ⟨rfl, rfl⟩ := H
  go_enter Try.func153, Try.ntmps153
  try go_wp2_with (first | ((with_reducible refine gate_dst (N := 1) rfl ?_); refine bx_ 1 #[.slice A0_0 l0_0.length c0_0, .slice A0_1 l0_1.length c0_1] 27 ?_; intro gb1264 hg w4 hbox hb; have BK1264 := Aside0.mk hbox; have GW1264 := gw_ w hg; have GE1264 := GW1264; replace HB := b1_ hb; clear hb hbox hg) | ((with_reducible refine gate_dst (N := 2) rfl ?_); refine bx_ 2 #[.slice none 0 0, .slice none 0 0] 27 ?_; intro gb1265 hg w5 hbox hb; have BK1265 := Aside0.mk hbox; have GW1265 := gw_ w hg; have GE1265 := GW1265; replace HB := b1_ hb; have NB1264_1265 := gN_ BK1264 hg; have NB1265_1264 := gP_ BK1264 hg; replace BK1264 := bb_ BK1264 hb; clear hb hbox hg))
  replace BK1264 := Aside0.mk (blk_drew BK1264.out)
  replace BK1265 := Aside0.mk (blk_drew BK1265.out)
  replace HB := Aside0.mk (below_drew1 HB.out)
  refine start_ (n := 9) (S := fun w' => w'.cell? ⟨gb1264, 0, none⟩ = some (.slice A0_0 l0_0.length c0_0) ∧ w'.cell? ⟨gb1264, 1, none⟩ = some (.slice A0_1 l0_1.length c0_1)) (ds := []) (bl_ 9 0) (by kernel_rfl) rfl (by kernel_rfl) ⟨cz0_ BK1264, cz1_ BK1264⟩ (fun hHeld => ?_); refine with_tabW spec_l05Unturn.tab1 spec_l05Unturn.bits1 (fun HT_ HW_ => ?_)
  generalize w5.drew = w6 at BK1264 BK1265 HB hHeld ⊢
  refine pu_ 1 (some 4) (bl_ 9 2) HT_ ?_
  refine pu_ 4 (some 7) (bl_ 9 18) HT_ ?_
  refine ta_ 2 (some 5) (bl_ 9 22) HT_ HW_ hHeld ?_
  refine ta_ 5 (some 8) (bl_ 9 54) HT_ HW_ hHeld ?_
  refine on_ 0 (some 3) (bl_ 9 55) HT_ (fun K hK => ?_)
  refine Kd.R_lit_step (Kd.int .i64) _ 3 ?hg (N := 3) ?hd (xs := ([] : List Int)) (inner := []) (ok := fun _ => True) (okp := fun _ => True) ?hr ?hp (fun _ hk => hk) trivial (Below.refl _ _) (Nat.le_refl _) (by simp) ?_; (case hd => rfl); (case hg => rfl); (case hr => first | (go_simp; done) | (go_simp; rfl)); (case hp => exact (Reps.none _ _))
  intro v1267 w7 ho8 hb hg_ hnew_
  clear hg_ hnew_
  (first | rw [← Ny1266.out] at ho8 | (simp only [Int.reduceToNat] at ho8; rw [← Ny1266.out] at ho8))
  have HO1268 := rl_ w ho8
  replace BK1264 := bb_ BK1264 hb
  replace BK1265 := bb_ BK1265 hb
  replace HB := b1_ hb
  clear hb ho8
  refine hK.out _ _ ⟨cz0_ BK1264, cz1_ BK1264⟩ (fun hHeld => ?_)
  clear hK K
  refine no_ (some 3) ?_
  refine on_ 3 (some 6) (bl_ 9 63) HT_ (fun K hK => ?_)
  refine Kd.R_append_rows_step (Kd.int .i64) (w0 := w) w.heap.size (by rfl) (.tmp 3) (.tmp 5) 22 3 (.int .i64 0) 8 rfl Try.underlying22 info3 rfl (by decide) (by omega) v1267 y1266 l0_1 _ _ _ (fun _ => True) (fun _ => False) rfl rfl ?aO ?aR (fun _ _ h => h) (fun _ h => h.elim) ?aF ?aB ?aS ?aL ?_
  (case aR => exact cb_ HR0_1)
  (case aB => exact hB_)
  (case aF => exact (fun _ _ => trivial))
  (case aO => exact (rr_ HO1268))
  (case aS => exact (below_size hB_))
  (case aL => have := LMc2.out; omega)
  intro v1270 w9 ho hb hg hat
  rw [← Ny1269.out] at ho
  replace BK1264 := Aside0.mk (blk_grown (kk_ BK1264) hg (Kd.R_ne HO1268.out BK1264.out (by decide)))
  replace BK1265 := Aside0.mk (blk_grown (kk_ BK1265) hg (Kd.R_ne HO1268.out BK1265.out (by decide)))
  replace HB := Aside0.mk hb
  have HO1271 := Aside0.mk ho
  clear HO1268
  clear ho hb hg hat
  refine hK.out _ _ ⟨cz0_ BK1264, cz1_ BK1264⟩ (fun hHeld => ?_)
  clear hK K
  refine no_ (some 6) ?_
  refine on_ 6 (some 9) (bl_ 9 127) HT_ (fun K hK => ?_)
  refine gO_ Try.func116 #[.slice A0_0 l0_0.length c0_0] (by rfl) rfl rfl qa_ ?_
  with_reducible refine (spec_l02Inverse.calls k _ _ l0_0 t1272 _ (cb_ HR0_0) HC0_0.out A3.out).mono ?_
  rintro e w10 ⟨v1273, rfl, ho0, hb⟩
  refine ⟨_, rfl, ?_⟩
  have HO1274 := Aside0.mk (Kd.R_lower (Kd.R_new' ho0 (Kd.R_lt (rr_ HO1271))) (below_size hB_))
  replace HO1271 := Aside0.mk (Kd.R_elder' (rr_ HO1271) (Kd.R_base ho0) hb)
  replace BK1264 := bb_ BK1264 hb
  replace BK1265 := bb_ BK1265 hb
  replace HB := b1_ hb
  clear hb ho0
  obtain ⟨Ao11, co11, eo11⟩ := Kd.R_slice HO1274.out
  (first | subst eo11 | (injection eo11 with f1_ f2_ f3_; have f4_ := f1_.symm; have f5_ := f3_.symm; clear f1_ f2_ f3_; subst f4_; subst f5_))
  obtain ⟨Ao12, co12, eo12⟩ := Kd.R_slice HO1271.out
  (first | subst eo12 | (injection eo12 with f1_ f2_ f3_; have f4_ := f1_.symm; have f5_ := f3_.symm; clear f1_ f2_ f3_; subst f4_; subst f5_))
  refine hK.out _ _ ⟨cz0_ BK1264, cz1_ BK1264⟩ (fun hHeld => ?_)
  clear hK K
  refine no_ (some 9) ?_
  refine pu_ 7 (some 10) (bl_ 9 255) HT_ ?_
  refine on_ 8 (none) (bl_ 9 511) HT_ (fun K hK => ?_)
  have hs13 : w10.cell? ⟨gb1265, 0, none⟩ = some (.slice none 0 0) := cz0_ BK1265
  have hfs13 := blk_frozen BK1265.out 0
  have hns13_0 := NB1264_1265.out
  have hms13_0 := NB1265_1264.out
  have hs14 : w10.cell? ⟨gb1265, 1, none⟩ = some (.slice none 0 0) := cz1_ BK1265
  have hfs14 := blk_frozen BK1265.out 1
  have hns14_0 := NB1264_1265.out
  have hms14_0 := NB1265_1264.out
  refine skip_ (w1 := ?_) (by rfl) rfl ?_ ?_
  rotate_left
  · go_simp
    rfl
  refine hK.out _ _ ⟨((cell_far (p := ⟨gb1265, _, none⟩) NB1264_1265.out _).trans (((cell_far (p := ⟨gb1265, _, none⟩) NB1264_1265.out _).trans (hHeld.1)))), ((cell_far (p := ⟨gb1265, _, none⟩) NB1264_1265.out _).trans (((cell_far (p := ⟨gb1265, _, none⟩) NB1264_1265.out _).trans (hHeld.2))))⟩ (fun hHeld => ?_)
  clear hK K
  refine done_ (done_of HT_.out (by kernel_rfl)) ?_
  try go_wp2
  refine bodyPost_ret (results_cell_row rfl _ _ gb1265 27 #[.slice Ao12 y1269.length co12, .slice Ao11 t1272.length co11] (0, 0) _ rfl qp_ Try.underlying27 rfl (by kernel_rfl)) rfl ?_
  exact ⟨_, _, qb_, (rw_ (Kd.R_mono (fa_ HO1271 BK1265) (fun _ hk => hk.2))), (rw_ (Kd.R_mono (fa_ HO1274 BK1265) (fun _ hk => hk.2))), hB_⟩
end Go.Proofs.Ytbdnellgioimbaa.A
end
section
namespace Go.Proofs.Ytbdnellgioimbaa.A
open Go.RowKit Go.Proofs.YtbdnellgioimbaaW.PrintWords Go.Proofs.YtbdnellgioimbaaW.PrintLast Go.Proofs.YtbdnellgioimbaaW.PrintMore
attribute [local go_sem] max2_int min2_int max_two min_two max_three min_three max_four min_four
set_option linter.unusedVariables false
set_option linter.unusedSimpArgs false
def spec_l05Letter.f (k : Nat) (l0_0 : List Int) (l0_1 : List Int) (a1 : Int) : Option (List Int × List Int) := if a1 = 84 then ((spec_l05Shear.f k l0_0 l0_1).bind fun bt1277 => (some (bt1277.1, bt1277.2))) else (if a1 = 116 then ((spec_l05Unshear.f k l0_0 l0_1).bind fun bt1283 => (some (bt1283.1, bt1283.2))) else (if a1 = 83 then ((spec_l05Turn.f k l0_0 l0_1).bind fun bt1289 => (some (bt1289.1, bt1289.2))) else ((spec_l05Unturn.f k l0_0 l0_1).bind fun bt1295 => (some (bt1295.1, bt1295.2)))))
theorem spec_l05Letter.mono : ∀ a0 a1 a2 k, LeO (spec_l05Letter.f k a0 a1 a2) (spec_l05Letter.f (k + 1) a0 a1 a2) := by
  intro a0 a1 a2 k
  unfold spec_l05Letter.f
  repeat' first|exact spec_l05Shear.mono _ _ _|exact spec_l05Turn.mono _ _ _|exact spec_l05Unshear.mono _ _ _|exact spec_l05Unturn.mono _ _ _|exact lo_|refine LeO.ite ?_ ?_|refine LeO.bind ?_ (fun _ => ?_)
set_option maxHeartbeats 8000000 in
set_option maxRecDepth 100000 in
theorem spec_l05Letter.calls (k : Nat) (A0_0 : Option Addr) (c0_0 : Nat) (l0_0 : List Int) (A0_1 : Option Addr) (c0_1 : Nat) (l0_1 : List Int) (a1 : Int) (r1 : List Int) (r2 : List Int) (w : World) (hr0_0 : Kd.C (Kd.int .i64) w A0_0 l0_0.length l0_0) (hc0_0 : l0_0.length ≤ c0_0) (hr0_1 : Kd.C (Kd.int .i64) w A0_1 l0_1.length l0_1) (hc0_1 : l0_1.length ≤ c0_1) (h : spec_l05Letter.f k l0_0 l0_1 a1 = some (r1, r2)) :
    Calls Try.prog 128 #[.agg #[.slice A0_0 l0_0.length c0_0, .slice A0_1 l0_1.length c0_1], .int .u8 a1] w fun e w' => ∃ v0_ v1_ : Value, e = .returned (.agg #[v0_, v1_]) ∧ Kd.R (Kd.int .i64) 3 w' w.heap.size (fun k_ => some k_ ≠ (v1_ : Value).ownBlock) v0_ r1 ∧ Kd.R (Kd.int .i64) 3 w' w.heap.size (fun k_ => some k_ ≠ (v0_ : Value).ownBlock) v1_ r2 ∧ Below w.heap.size w w' := by
  have hu27 := Try.underlying27
  have HR0_0 := Aside0.mk hr0_0
  have HC0_0 := Aside0.mk hc0_0
  clear hr0_0 hc0_0
  have HR0_1 := Aside0.mk hr0_1
  have HC0_1 := Aside0.mk hc0_1
  clear hr0_1 hc0_1
  have HB := Aside0.mk (Below.refl w.heap.size w)
  have H := h
  unfold spec_l05Letter.f at H
  clear h
  by_cases c3 : a1 = 84
  · rw [if_pos c3] at H
    have c3b0 : (a1 == 84) = true := beq_iff_eq.mpr c3
    have c3b1 : (a1 != 84) = false := bne_eq_false_iff_eq.mpr c3
    clear c3
    obtain ⟨⟨t1277, t1280⟩, A4, H⟩ := bi_ H
    try dsimp only at H
    simp only [Option.some.injEq, Prod.mk.injEq] at H
    obtain ⟨rfl, rfl⟩ := H
    go_enter Try.func128, Try.ntmps128
    go_wp2_with (first | ((with_reducible refine gate_dst (N := 2) rfl ?_); refine bx_ 2 #[.slice A0_0 l0_0.length c0_0, .slice A0_1 l0_1.length c0_1] 27 ?_; intro gb1275 hg w5 hbox hb; have BK1275 := Aside0.mk hbox; have GW1275 := gw_ w hg; have GE1275 := GW1275; replace HB := b1_ hb; clear hb hbox hg) | ((with_reducible refine gate_dst (N := 4) rfl ?_); refine bx_ 4 #[.slice none 0 0, .slice none 0 0] 27 ?_; intro gb1276 hg w6 hbox hb; have BK1276 := Aside0.mk hbox; have GW1276 := gw_ w hg; have GE1276 := GW1276; replace HB := b1_ hb; have NB1275_1276 := gN_ BK1275 hg; have NB1276_1275 := gP_ BK1275 hg; replace BK1275 := bb_ BK1275 hb; clear hb hbox hg; have hnb7 := NB1275_1276.out; have hnc7 := NB1276_1275.out; obtain ⟨hcz8_0, hcz8_1, hfz8_0, hfz8_1⟩ := c2_ BK1275) | ((with_reducible refine gate_callee (f := 74) rfl ?_); refine gL_ (some 9) Try.func74 #[.agg #[.slice A0_0 l0_0.length c0_0, .slice A0_1 l0_1.length c0_1]] rfl qa_ ?_; (with_reducible refine (spec_l05Shear.calls k _ _ l0_0 _ _ l0_1 t1277 t1280 _ (cb_ HR0_0) HC0_0.out (cb_ HR0_1) HC0_1.out A4.out).mono ?_); rintro e w9 ⟨v1278, v1281, rfl, ho0, ho1, hb⟩; refine ⟨_, rfl, ?_⟩; have HO1279 := rl_ w ho0; have HO1282 := rl_ w ho1; replace BK1275 := bb_ BK1275 hb; replace BK1276 := bb_ BK1276 hb; replace HB := b1_ hb; clear hb ho0 ho1; obtain ⟨Ao10, co10, eo10⟩ := Kd.R_slice HO1279.out; subst eo10; obtain ⟨hcz11_0, hcz11_1, hfz11_0, hfz11_1⟩ := c2_ BK1276; obtain ⟨Ao12, co12, eo12⟩ := Kd.R_slice HO1282.out; subst eo12))
    refine bodyPost_ret (results_cell_row rfl _ _ gb1276 27 #[.slice Ao10 t1277.length co10, .slice Ao12 t1280.length co12] (0, 0) _ rfl qp_ Try.underlying27 rfl (by kernel_rfl)) rfl ?_
    exact ⟨_, _, qb_, (rw_ (fa_ HO1279 BK1276)), (rw_ (fa_ HO1282 BK1276)), hB_⟩
  · rw [if_neg c3] at H
    have c3b0 : (a1 == 84) = false := beq_eq_false_iff_ne.mpr c3
    have c3b1 : (a1 != 84) = true := bne_iff_ne.mpr c3
    by_cases c13 : a1 = 116
    · rw [if_pos c13] at H
      have c13b0 : (a1 == 116) = true := beq_iff_eq.mpr c13
      have c13b1 : (a1 != 116) = false := bne_eq_false_iff_eq.mpr c13
      clear c13
      obtain ⟨⟨t1283, t1286⟩, A14, H⟩ := bi_ H
      try dsimp only at H
      simp only [Option.some.injEq, Prod.mk.injEq] at H
      obtain ⟨rfl, rfl⟩ := H
      go_enter Try.func128, Try.ntmps128
      go_wp2_with (first | ((with_reducible refine gate_dst (N := 2) rfl ?_); refine bx_ 2 #[.slice A0_0 l0_0.length c0_0, .slice A0_1 l0_1.length c0_1] 27 ?_; intro gb1275 hg w15 hbox hb; have BK1275 := Aside0.mk hbox; have GW1275 := gw_ w hg; have GE1275 := GW1275; replace HB := b1_ hb; clear hb hbox hg) | ((with_reducible refine gate_dst (N := 4) rfl ?_); refine bx_ 4 #[.slice none 0 0, .slice none 0 0] 27 ?_; intro gb1276 hg w16 hbox hb; have BK1276 := Aside0.mk hbox; have GW1276 := gw_ w hg; have GE1276 := GW1276; replace HB := b1_ hb; have NB1275_1276 := gN_ BK1275 hg; have NB1276_1275 := gP_ BK1275 hg; replace BK1275 := bb_ BK1275 hb; clear hb hbox hg; have hnb17 := NB1275_1276.out; have hnc17 := NB1276_1275.out; obtain ⟨hcz18_0, hcz18_1, hfz18_0, hfz18_1⟩ := c2_ BK1275) | ((with_reducible refine gate_callee (f := 151) rfl ?_); refine gL_ (some 13) Try.func151 #[.agg #[.slice A0_0 l0_0.length c0_0, .slice A0_1 l0_1.length c0_1]] rfl qa_ ?_; (with_reducible refine (spec_l05Unshear.calls k _ _ l0_0 _ _ l0_1 t1283 t1286 _ (cb_ HR0_0) HC0_0.out (cb_ HR0_1) HC0_1.out A14.out).mono ?_); rintro e w19 ⟨v1284, v1287, rfl, ho0, ho1, hb⟩; refine ⟨_, rfl, ?_⟩; have HO1285 := rl_ w ho0; have HO1288 := rl_ w ho1; replace BK1275 := bb_ BK1275 hb; replace BK1276 := bb_ BK1276 hb; replace HB := b1_ hb; clear hb ho0 ho1; obtain ⟨Ao20, co20, eo20⟩ := Kd.R_slice HO1285.out; subst eo20; obtain ⟨hcz21_0, hcz21_1, hfz21_0, hfz21_1⟩ := c2_ BK1276; obtain ⟨Ao22, co22, eo22⟩ := Kd.R_slice HO1288.out; subst eo22))
      refine bodyPost_ret (results_cell_row rfl _ _ gb1276 27 #[.slice Ao20 t1283.length co20, .slice Ao22 t1286.length co22] (0, 0) _ rfl qp_ Try.underlying27 rfl (by kernel_rfl)) rfl ?_
      exact ⟨_, _, qb_, (rw_ (fa_ HO1285 BK1276)), (rw_ (fa_ HO1288 BK1276)), hB_⟩
    · rw [if_neg c13] at H
      have c13b0 : (a1 == 116) = false := beq_eq_false_iff_ne.mpr c13
      have c13b1 : (a1 != 116) = true := bne_iff_ne.mpr c13
      by_cases c23 : a1 = 83
      · rw [if_pos c23] at H
        have c23b0 : (a1 == 83) = true := beq_iff_eq.mpr c23
        have c23b1 : (a1 != 83) = false := bne_eq_false_iff_eq.mpr c23
        clear c23
        obtain ⟨⟨t1289, t1292⟩, A24, H⟩ := bi_ H
        try dsimp only at H
        simp only [Option.some.injEq, Prod.mk.injEq] at H
        obtain ⟨rfl, rfl⟩ := H
        go_enter Try.func128, Try.ntmps128
        go_wp2_with (first | ((with_reducible refine gate_dst (N := 2) rfl ?_); refine bx_ 2 #[.slice A0_0 l0_0.length c0_0, .slice A0_1 l0_1.length c0_1] 27 ?_; intro gb1275 hg w25 hbox hb; have BK1275 := Aside0.mk hbox; have GW1275 := gw_ w hg; have GE1275 := GW1275; replace HB := b1_ hb; clear hb hbox hg) | ((with_reducible refine gate_dst (N := 4) rfl ?_); refine bx_ 4 #[.slice none 0 0, .slice none 0 0] 27 ?_; intro gb1276 hg w26 hbox hb; have BK1276 := Aside0.mk hbox; have GW1276 := gw_ w hg; have GE1276 := GW1276; replace HB := b1_ hb; have NB1275_1276 := gN_ BK1275 hg; have NB1276_1275 := gP_ BK1275 hg; replace BK1275 := bb_ BK1275 hb; clear hb hbox hg; have hnb27 := NB1275_1276.out; have hnc27 := NB1276_1275.out; obtain ⟨hcz28_0, hcz28_1, hfz28_0, hfz28_1⟩ := c2_ BK1275) | ((with_reducible refine gate_callee (f := 152) rfl ?_); refine gL_ (some 17) Try.func152 #[.agg #[.slice A0_0 l0_0.length c0_0, .slice A0_1 l0_1.length c0_1]] rfl qa_ ?_; (with_reducible refine (spec_l05Turn.calls k _ _ l0_0 _ _ l0_1 t1289 t1292 _ (cb_ HR0_0) HC0_0.out (cb_ HR0_1) HC0_1.out A24.out).mono ?_); rintro e w29 ⟨v1290, v1293, rfl, ho0, ho1, hb⟩; refine ⟨_, rfl, ?_⟩; have HO1291 := rl_ w ho0; have HO1294 := rl_ w ho1; replace BK1275 := bb_ BK1275 hb; replace BK1276 := bb_ BK1276 hb; replace HB := b1_ hb; clear hb ho0 ho1; obtain ⟨Ao30, co30, eo30⟩ := Kd.R_slice HO1291.out; subst eo30; obtain ⟨hcz31_0, hcz31_1, hfz31_0, hfz31_1⟩ := c2_ BK1276; obtain ⟨Ao32, co32, eo32⟩ := Kd.R_slice HO1294.out; subst eo32))
        refine bodyPost_ret (results_cell_row rfl _ _ gb1276 27 #[.slice Ao30 t1289.length co30, .slice Ao32 t1292.length co32] (0, 0) _ rfl qp_ Try.underlying27 rfl (by kernel_rfl)) rfl ?_
        exact ⟨_, _, qb_, (rw_ (fa_ HO1291 BK1276)), (rw_ (fa_ HO1294 BK1276)), hB_⟩
      · rw [if_neg c23] at H
        have c23b0 : (a1 == 83) = false := beq_eq_false_iff_ne.mpr c23
        have c23b1 : (a1 != 83) = true := bne_iff_ne.mpr c23
        obtain ⟨⟨t1295, t1298⟩, A33, H⟩ := bi_ H
        try dsimp only at H
        simp only [Option.some.injEq, Prod.mk.injEq] at H
        obtain ⟨rfl, rfl⟩ := H
        go_enter Try.func128, Try.ntmps128
        go_wp2_with (first | ((with_reducible refine gate_dst (N := 2) rfl ?_); refine bx_ 2 #[.slice A0_0 l0_0.length c0_0, .slice A0_1 l0_1.length c0_1] 27 ?_; intro gb1275 hg w34 hbox hb; have BK1275 := Aside0.mk hbox; have GW1275 := gw_ w hg; have GE1275 := GW1275; replace HB := b1_ hb; clear hb hbox hg) | ((with_reducible refine gate_dst (N := 4) rfl ?_); refine bx_ 4 #[.slice none 0 0, .slice none 0 0] 27 ?_; intro gb1276 hg w35 hbox hb; have BK1276 := Aside0.mk hbox; have GW1276 := gw_ w hg; have GE1276 := GW1276; replace HB := b1_ hb; have NB1275_1276 := gN_ BK1275 hg; have NB1276_1275 := gP_ BK1275 hg; replace BK1275 := bb_ BK1275 hb; clear hb hbox hg; have hnb36 := NB1275_1276.out; have hnc36 := NB1276_1275.out; obtain ⟨hcz37_0, hcz37_1, hfz37_0, hfz37_1⟩ := c2_ BK1275) | ((with_reducible refine gate_callee (f := 153) rfl ?_); refine gL_ (some 19) Try.func153 #[.agg #[.slice A0_0 l0_0.length c0_0, .slice A0_1 l0_1.length c0_1]] rfl qa_ ?_; (with_reducible refine (spec_l05Unturn.calls k _ _ l0_0 _ _ l0_1 t1295 t1298 _ (cb_ HR0_0) HC0_0.out (cb_ HR0_1) HC0_1.out A33.out).mono ?_); rintro e w38 ⟨v1296, v1299, rfl, ho0, ho1, hb⟩; refine ⟨_, rfl, ?_⟩; have HO1297 := rl_ w ho0; have HO1300 := rl_ w ho1; replace BK1275 := bb_ BK1275 hb; replace BK1276 := bb_ BK1276 hb; replace HB := b1_ hb; clear hb ho0 ho1; obtain ⟨Ao39, co39, eo39⟩ := Kd.R_slice HO1297.out; subst eo39; obtain ⟨hcz40_0, hcz40_1, hfz40_0, hfz40_1⟩ := c2_ BK1276; obtain ⟨Ao41, co41, eo41⟩ := Kd.R_slice HO1300.out; subst eo41))
        refine bodyPost_ret (results_cell_row rfl _ _ gb1276 27 #[.slice Ao39 t1295.length co39, .slice Ao41 t1298.length co41] (0, 0) _ rfl qp_ Try.underlying27 rfl (by kernel_rfl)) rfl ?_
        exact ⟨_, _, qb_, (rw_ (fa_ HO1297 BK1276)), (rw_ (fa_ HO1300 BK1276)), hB_⟩
end Go.Proofs.Ytbdnellgioimbaa.A
end
section
namespace Go.Proofs.Ytbdnellgioimbaa.A
open Go.RowKit Go.Proofs.YtbdnellgioimbaaW.PrintWords Go.Proofs.YtbdnellgioimbaaW.PrintLast Go.Proofs.YtbdnellgioimbaaW.PrintMore
attribute [local go_sem] max2_int min2_int max_two min_two max_three min_three max_four min_four
set_option linter.unusedVariables false
set_option linter.unusedSimpArgs false
def spec_l05Run.l0 : Nat → ByteArray → Int → List Int → List Int → Option (List Int × List Int)
  | 0, _, _, _, _ => none
  | k + 1, x1, x6, x1316000, x1316001 => if x6 < (x1.size : Int) then (if 0 ≤ x6 then ((spec_l05Letter.f k x1316000 x1316001 (bt x1 x6)).bind fun bt1316 => (spec_l05Run.l0 k x1 (wrap64 (x6 + 1)) bt1316.1 bt1316.2)) else (none)) else (some (x1316000, x1316001))
def spec_l05Run.f (k : Nat) (l0_0 : List Int) (l0_1 : List Int) (a1 : ByteArray) : Option (List Int × List Int) := (some (([] : List Int) : List Int)).bind fun y1303 => (if y1303.length + l0_0.length < 17592186044416 then ((some (([] : List Int) : List Int)).bind fun y1309 => (if y1309.length + l0_1.length < 17592186044416 then (spec_l05Run.l0 k a1 0 (y1303 ++ l0_0) (y1309 ++ l0_1)) else (none))) else (none))
theorem spec_l05Run.mono_l : ∀ k, (∀ y0 y1 y2 y3, LeO (spec_l05Run.l0 k y0 y1 y2 y3) (spec_l05Run.l0 (k + 1) y0 y1 y2 y3))
  | 0 => fun _ _ _ _ r h => by simp [spec_l05Run.l0] at h
  | k + 1 => by
    have ih0 := spec_l05Run.mono_l k
    · intro y0 y1 y2 y3
      unfold spec_l05Run.l0
      repeat' first|exact ih0 _ _ _ _|exact spec_l05Letter.mono _ _ _ _|exact lo_|refine LeO.ite ?_ ?_|refine LeO.bind ?_ (fun _ => ?_)
theorem spec_l05Run.mono : ∀ a0 a1 a2 k, LeO (spec_l05Run.f k a0 a1 a2) (spec_l05Run.f (k + 1) a0 a1 a2) := by
  intro a0 a1 a2 k
  have ih0 := spec_l05Run.mono_l k
  unfold spec_l05Run.f
  repeat' first|exact ih0 _ _ _ _|exact spec_l05Letter.mono _ _ _ _|exact lo_|refine LeO.ite ?_ ?_|refine LeO.bind ?_ (fun _ => ?_)
def spec_l05Run.T1 : Bool × List (List Nat × List Nat) := (true, [([], []), ([], []), ([1], [1]), ([0, 2], [0, 2]), ([], []), ([], []), ([5], [5]), ([4, 6, 3], [4, 6]), ([3, 7], [3, 7]), ([], []), ([9, 8, 7, 0, 1, 2, 3, 4, 5, 6, 7, 8, 9], [8, 9])])
def spec_l05Run.B1 : List Nat := [0, 0, 2, 7, 0, 0, 32, 127, 255, 0, 1023]
theorem spec_l05Run.tab1 : rtab .any (opsOf Try.f90 1) = spec_l05Run.T1 := by kernel_rfl
theorem spec_l05Run.bits1 : waitsOk spec_l05Run.T1.2 spec_l05Run.B1 = true := by kernel_rfl
set_option maxHeartbeats 8000000 in
set_option maxRecDepth 100000 in
theorem spec_l05Run.calls (k : Nat) (A0_0 : Option Addr) (c0_0 : Nat) (l0_0 : List Int) (A0_1 : Option Addr) (c0_1 : Nat) (l0_1 : List Int) (a1 : ByteArray) (r1 : List Int) (r2 : List Int) (w : World) (hr0_0 : Kd.C (Kd.int .i64) w A0_0 l0_0.length l0_0) (hc0_0 : l0_0.length ≤ c0_0) (hr0_1 : Kd.C (Kd.int .i64) w A0_1 l0_1.length l0_1) (hc0_1 : l0_1.length ≤ c0_1) (h : spec_l05Run.f k l0_0 l0_1 a1 = some (r1, r2)) :
    Calls Try.prog 90 #[.agg #[.slice A0_0 l0_0.length c0_0, .slice A0_1 l0_1.length c0_1], .string a1] w fun e w' => ∃ v0_ v1_ : Value, e = .returned (.agg #[v0_, v1_]) ∧ Kd.R (Kd.int .i64) 3 w' w.heap.size (fun k_ => some k_ ≠ (v1_ : Value).ownBlock) v0_ r1 ∧ Kd.R (Kd.int .i64) 3 w' w.heap.size (fun k_ => some k_ ≠ (v0_ : Value).ownBlock) v1_ r2 ∧ Below w.heap.size w w' := by
  have hu27 := Try.underlying27
  have HR0_0 := Aside0.mk hr0_0
  have HC0_0 := Aside0.mk hc0_0
  clear hr0_0 hc0_0
  have HR0_1 := Aside0.mk hr0_1
  have HC0_1 := Aside0.mk hc0_1
  clear hr0_1 hc0_1
  have HB := Aside0.mk (Below.refl w.heap.size w)
  have H := h
  unfold spec_l05Run.f at H
  clear h
  obtain ⟨y1303, hy1303⟩ : ∃ y_ : List Int, y_ = (([] : List Int)) := ⟨_, rfl⟩
  replace H : (if y1303.length + l0_0.length < 17592186044416 then ((some (([] : List Int) : List Int)).bind fun y1309 => (if y1309.length + l0_1.length < 17592186044416 then (spec_l05Run.l0 k a1 0 (y1303 ++ l0_0) (y1309 ++ l0_1)) else (none))) else (none)) = some (r1, r2) := by first | (rw [hy1303]; exact H) | exact H
  have Ny1303 := Aside0.mk hy1303
  clear hy1303
  have c3 := cp_ H
  replace H := ca_ H
  have LMc3 := Aside0.mk c3
  clear c3
  obtain ⟨y1306, hy1306⟩ : ∃ y_ : List Int, y_ = (y1303 ++ l0_0) := ⟨_, rfl⟩
  replace H : ((some (([] : List Int) : List Int)).bind fun y1309 => (if y1309.length + l0_1.length < 17592186044416 then (spec_l05Run.l0 k a1 0 y1306 (y1309 ++ l0_1)) else (none))) = some (r1, r2) := by first | (rw [hy1306]; exact H) | exact H
  have Ny1306 := Aside0.mk hy1306
  clear hy1306
  obtain ⟨y1309, hy1309⟩ : ∃ y_ : List Int, y_ = (([] : List Int)) := ⟨_, rfl⟩
  replace H : (if y1309.length + l0_1.length < 17592186044416 then (spec_l05Run.l0 k a1 0 y1306 (y1309 ++ l0_1)) else (none)) = some (r1, r2) := by first | (rw [hy1309]; exact H) | exact H
  have Ny1309 := Aside0.mk hy1309
  clear hy1309
  have c4 := cp_ H
  replace H := ca_ H
  have LMc4 := Aside0.mk c4
  clear c4
  obtain ⟨y1312, hy1312⟩ : ∃ y_ : List Int, y_ = (y1309 ++ l0_1) := ⟨_, rfl⟩
  replace H : (spec_l05Run.l0 k a1 0 y1306 y1312) = some (r1, r2) := by first | (rw [hy1312]; exact H) | exact H
  have Ny1312 := Aside0.mk hy1312
  clear hy1312
  have H' := Aside0.mk H
  clear H
  go_enter Try.func90, Try.ntmps90
  try go_wp2_with (first | ((with_reducible refine gate_dst (N := 2) rfl ?_); refine bx_ 2 #[.slice A0_0 l0_0.length c0_0, .slice A0_1 l0_1.length c0_1] 27 ?_; intro gb1301 hg w5 hbox hb; have BK1301 := Aside0.mk hbox; have GW1301 := gw_ w hg; have GE1301 := GW1301; replace HB := b1_ hb; clear hb hbox hg) | ((with_reducible refine gate_dst (N := 4) rfl ?_); refine bx_ 4 #[.slice none 0 0, .slice none 0 0] 27 ?_; intro gb1302 hg w6 hbox hb; have BK1302 := Aside0.mk hbox; have GW1302 := gw_ w hg; have GE1302 := GW1302; replace HB := b1_ hb; have NB1301_1302 := gN_ BK1301 hg; have NB1302_1301 := gP_ BK1301 hg; replace BK1301 := bb_ BK1301 hb; clear hb hbox hg))
  replace BK1301 := Aside0.mk (blk_drew BK1301.out)
  replace BK1302 := Aside0.mk (blk_drew BK1302.out)
  replace HB := Aside0.mk (below_drew1 HB.out)
  refine start_ (n := 11) (S := fun w' => w'.cell? ⟨gb1301, 0, none⟩ = some (.slice A0_0 l0_0.length c0_0) ∧ w'.cell? ⟨gb1301, 1, none⟩ = some (.slice A0_1 l0_1.length c0_1)) (ds := []) (bl_ 11 0) (by kernel_rfl) rfl (by kernel_rfl) ⟨cz0_ BK1301, cz1_ BK1301⟩ (fun hHeld => ?_); refine with_tabW spec_l05Run.tab1 spec_l05Run.bits1 (fun HT_ HW_ => ?_)
  generalize w6.drew = w7 at BK1301 BK1302 HB hHeld ⊢
  refine pu_ 1 (some 8) (bl_ 11 2) HT_ ?_
  refine pu_ 5 (some 12) (bl_ 11 34) HT_ ?_
  refine ta_ 2 (some 9) (bl_ 11 38) HT_ HW_ hHeld ?_
  refine ta_ 6 (some 13) (bl_ 11 102) HT_ HW_ hHeld ?_
  refine join_ (σ := Value × Value × Value × Value × Nat) 1 (bl_ 11 1023) (fun s_ => [(7, s_.1), (10, s_.2.1), (11, s_.2.2.1), (14, s_.2.2.2.1), (5, .pointer (some ⟨s_.2.2.2.2, 0, none⟩)), (15, .agg #[s_.2.1, s_.2.2.2.1])]) (fun s_ w' => (w'.cell? ⟨gb1301, 0, none⟩ = some (.slice A0_0 l0_0.length c0_0) ∧ w'.cell? ⟨gb1301, 1, none⟩ = some (.slice A0_1 l0_1.length c0_1)) ∧ (Kd.R (Kd.int .i64) 3 w' w.heap.size (fun k_ => some k_ ≠ (s_.2.2.2.1 : Value).ownBlock) s_.2.1 y1306) ∧ (Kd.R (Kd.int .i64) 3 w' w.heap.size (fun k_ => some k_ ≠ (s_.2.1 : Value).ownBlock) s_.2.2.2.1 y1312) ∧ (w'.heap[gb1301]? = some (.cells #[.slice A0_0 l0_0.length c0_0, .slice A0_1 l0_1.length c0_1] 27 (0, 0))) ∧ (w'.heap[gb1302]? = some (.cells #[.slice none 0 0, .slice none 0 0] 27 (0, 0))) ∧ (w'.heap[s_.2.2.2.2]? = some (.cells #[.slice none 0 0, .slice none 0 0] 27 (0, 0))) ∧ (w.heap.size ≤ s_.2.2.2.2) ∧ (w.heap.size ≤ s_.2.2.2.2) ∧ (gb1301 ≠ s_.2.2.2.2) ∧ (s_.2.2.2.2 ≠ gb1301) ∧ (gb1302 ≠ s_.2.2.2.2) ∧ (s_.2.2.2.2 ≠ gb1302) ∧ (Below w.heap.size w w')) ?_ ?_
  rotate_left
  · intro hJ0_3_4_7_9
    refine join_ (σ := Value × Value × Value × Value) 2 (bl_ 11 511) (fun s_ => [(7, s_.1), (10, s_.2.1), (11, s_.2.2.1), (14, s_.2.2.2), (15, .agg #[s_.2.1, s_.2.2.2])]) (fun s_ w' => (w'.cell? ⟨gb1301, 0, none⟩ = some (.slice A0_0 l0_0.length c0_0) ∧ w'.cell? ⟨gb1301, 1, none⟩ = some (.slice A0_1 l0_1.length c0_1)) ∧ (Kd.R (Kd.int .i64) 3 w' w.heap.size (fun k_ => some k_ ≠ (s_.2.2.2 : Value).ownBlock) s_.2.1 y1306) ∧ (Kd.R (Kd.int .i64) 3 w' w.heap.size (fun k_ => some k_ ≠ (s_.2.1 : Value).ownBlock) s_.2.2.2 y1312) ∧ (w'.heap[gb1301]? = some (.cells #[.slice A0_0 l0_0.length c0_0, .slice A0_1 l0_1.length c0_1] 27 (0, 0))) ∧ (w'.heap[gb1302]? = some (.cells #[.slice none 0 0, .slice none 0 0] 27 (0, 0))) ∧ (Below w.heap.size w w')) ?_ ?_
    rotate_left
    · intro hJ0_3_4_7
      refine join_ (σ := Value × Value × Value × Nat) 3 (bl_ 11 639) (fun s_ => [(7, s_.1), (10, s_.2.1), (11, s_.2.2.1), (5, .pointer (some ⟨s_.2.2.2, 0, none⟩))]) (fun s_ w' => (w'.cell? ⟨gb1301, 0, none⟩ = some (.slice A0_0 l0_0.length c0_0) ∧ w'.cell? ⟨gb1301, 1, none⟩ = some (.slice A0_1 l0_1.length c0_1)) ∧ (Kd.R (Kd.int .i64) 3 w' w.heap.size (fun k_ => some k_ ≠ (s_.2.2.1 : Value).ownBlock) s_.2.1 y1306) ∧ (Kd.R (Kd.int .i64) 3 w' w.heap.size (fun k_ => some k_ ≠ (s_.2.1 : Value).ownBlock) s_.2.2.1 y1309) ∧ (w'.heap[gb1301]? = some (.cells #[.slice A0_0 l0_0.length c0_0, .slice A0_1 l0_1.length c0_1] 27 (0, 0))) ∧ (w'.heap[gb1302]? = some (.cells #[.slice none 0 0, .slice none 0 0] 27 (0, 0))) ∧ (w'.heap[s_.2.2.2]? = some (.cells #[.slice none 0 0, .slice none 0 0] 27 (0, 0))) ∧ (w.heap.size ≤ s_.2.2.2) ∧ (w.heap.size ≤ s_.2.2.2) ∧ (gb1301 ≠ s_.2.2.2) ∧ (s_.2.2.2 ≠ gb1301) ∧ (gb1302 ≠ s_.2.2.2) ∧ (s_.2.2.2 ≠ gb1302) ∧ (Below w.heap.size w w')) ?_ ?_
      rotate_left
      · intro hJ0_3_4_9
        refine join_ (σ := Value × Value × Value) 4 (bl_ 11 127) (fun s_ => [(7, s_.1), (10, s_.2.1), (11, s_.2.2)]) (fun s_ w' => (w'.cell? ⟨gb1301, 0, none⟩ = some (.slice A0_0 l0_0.length c0_0) ∧ w'.cell? ⟨gb1301, 1, none⟩ = some (.slice A0_1 l0_1.length c0_1)) ∧ (Kd.R (Kd.int .i64) 3 w' w.heap.size (fun k_ => some k_ ≠ (s_.2.2 : Value).ownBlock) s_.2.1 y1306) ∧ (Kd.R (Kd.int .i64) 3 w' w.heap.size (fun k_ => some k_ ≠ (s_.2.1 : Value).ownBlock) s_.2.2 y1309) ∧ (w'.heap[gb1301]? = some (.cells #[.slice A0_0 l0_0.length c0_0, .slice A0_1 l0_1.length c0_1] 27 (0, 0))) ∧ (w'.heap[gb1302]? = some (.cells #[.slice none 0 0, .slice none 0 0] 27 (0, 0))) ∧ (Below w.heap.size w w')) ?_ ?_
        rotate_left
        · intro hJ0_3_4
          refine join_ (σ := Value × Value × Nat) 4 (bl_ 11 623) (fun s_ => [(7, s_.1), (10, s_.2.1), (5, .pointer (some ⟨s_.2.2, 0, none⟩))]) (fun s_ w' => (w'.cell? ⟨gb1301, 0, none⟩ = some (.slice A0_0 l0_0.length c0_0) ∧ w'.cell? ⟨gb1301, 1, none⟩ = some (.slice A0_1 l0_1.length c0_1)) ∧ (Kd.R (Kd.int .i64) 3 w' w.heap.size (fun _ => True) s_.2.1 y1306) ∧ (w'.heap[gb1301]? = some (.cells #[.slice A0_0 l0_0.length c0_0, .slice A0_1 l0_1.length c0_1] 27 (0, 0))) ∧ (w'.heap[gb1302]? = some (.cells #[.slice none 0 0, .slice none 0 0] 27 (0, 0))) ∧ (w'.heap[s_.2.2]? = some (.cells #[.slice none 0 0, .slice none 0 0] 27 (0, 0))) ∧ (w.heap.size ≤ s_.2.2) ∧ (w.heap.size ≤ s_.2.2) ∧ (gb1301 ≠ s_.2.2) ∧ (s_.2.2 ≠ gb1301) ∧ (gb1302 ≠ s_.2.2) ∧ (s_.2.2 ≠ gb1302) ∧ (Below w.heap.size w w')) ?_ ?_
          rotate_left
          · intro hJ0_3_9
            refine join_ (σ := Value × Value × Nat) 4 (bl_ 11 631) (fun s_ => [(7, s_.1), (11, s_.2.1), (5, .pointer (some ⟨s_.2.2, 0, none⟩))]) (fun s_ w' => (w'.cell? ⟨gb1301, 0, none⟩ = some (.slice A0_0 l0_0.length c0_0) ∧ w'.cell? ⟨gb1301, 1, none⟩ = some (.slice A0_1 l0_1.length c0_1)) ∧ (Kd.R (Kd.int .i64) 3 w' w.heap.size (fun k_ => some k_ ≠ (s_.2.1 : Value).ownBlock) s_.1 y1303) ∧ (Kd.R (Kd.int .i64) 3 w' w.heap.size (fun k_ => some k_ ≠ (s_.1 : Value).ownBlock) s_.2.1 y1309) ∧ (w'.heap[gb1301]? = some (.cells #[.slice A0_0 l0_0.length c0_0, .slice A0_1 l0_1.length c0_1] 27 (0, 0))) ∧ (w'.heap[gb1302]? = some (.cells #[.slice none 0 0, .slice none 0 0] 27 (0, 0))) ∧ (w'.heap[s_.2.2]? = some (.cells #[.slice none 0 0, .slice none 0 0] 27 (0, 0))) ∧ (w.heap.size ≤ s_.2.2) ∧ (w.heap.size ≤ s_.2.2) ∧ (gb1301 ≠ s_.2.2) ∧ (s_.2.2 ≠ gb1301) ∧ (gb1302 ≠ s_.2.2) ∧ (s_.2.2 ≠ gb1302) ∧ (Below w.heap.size w w')) ?_ ?_
            rotate_left
            · intro hJ0_4_9
              refine join_ (σ := Value × Value) 5 (bl_ 11 111) (fun s_ => [(7, s_.1), (10, s_.2)]) (fun s_ w' => (w'.cell? ⟨gb1301, 0, none⟩ = some (.slice A0_0 l0_0.length c0_0) ∧ w'.cell? ⟨gb1301, 1, none⟩ = some (.slice A0_1 l0_1.length c0_1)) ∧ (Kd.R (Kd.int .i64) 3 w' w.heap.size (fun _ => True) s_.2 y1306) ∧ (w'.heap[gb1301]? = some (.cells #[.slice A0_0 l0_0.length c0_0, .slice A0_1 l0_1.length c0_1] 27 (0, 0))) ∧ (w'.heap[gb1302]? = some (.cells #[.slice none 0 0, .slice none 0 0] 27 (0, 0))) ∧ (Below w.heap.size w w')) ?_ ?_
              rotate_left
              · intro hJ0_3
                refine join_ (σ := Value × Value) 5 (bl_ 11 119) (fun s_ => [(7, s_.1), (11, s_.2)]) (fun s_ w' => (w'.cell? ⟨gb1301, 0, none⟩ = some (.slice A0_0 l0_0.length c0_0) ∧ w'.cell? ⟨gb1301, 1, none⟩ = some (.slice A0_1 l0_1.length c0_1)) ∧ (Kd.R (Kd.int .i64) 3 w' w.heap.size (fun k_ => some k_ ≠ (s_.2 : Value).ownBlock) s_.1 y1303) ∧ (Kd.R (Kd.int .i64) 3 w' w.heap.size (fun k_ => some k_ ≠ (s_.1 : Value).ownBlock) s_.2 y1309) ∧ (w'.heap[gb1301]? = some (.cells #[.slice A0_0 l0_0.length c0_0, .slice A0_1 l0_1.length c0_1] 27 (0, 0))) ∧ (w'.heap[gb1302]? = some (.cells #[.slice none 0 0, .slice none 0 0] 27 (0, 0))) ∧ (Below w.heap.size w w')) ?_ ?_
                rotate_left
                · intro hJ0_4
                  refine join_ (σ := Value × Nat) 5 (bl_ 11 615) (fun s_ => [(7, s_.1), (5, .pointer (some ⟨s_.2, 0, none⟩))]) (fun s_ w' => (w'.cell? ⟨gb1301, 0, none⟩ = some (.slice A0_0 l0_0.length c0_0) ∧ w'.cell? ⟨gb1301, 1, none⟩ = some (.slice A0_1 l0_1.length c0_1)) ∧ (Kd.R (Kd.int .i64) 3 w' w.heap.size (fun _ => True) s_.1 y1303) ∧ (w'.heap[gb1301]? = some (.cells #[.slice A0_0 l0_0.length c0_0, .slice A0_1 l0_1.length c0_1] 27 (0, 0))) ∧ (w'.heap[gb1302]? = some (.cells #[.slice none 0 0, .slice none 0 0] 27 (0, 0))) ∧ (w'.heap[s_.2]? = some (.cells #[.slice none 0 0, .slice none 0 0] 27 (0, 0))) ∧ (w.heap.size ≤ s_.2) ∧ (w.heap.size ≤ s_.2) ∧ (gb1301 ≠ s_.2) ∧ (s_.2 ≠ gb1301) ∧ (gb1302 ≠ s_.2) ∧ (s_.2 ≠ gb1302) ∧ (Below w.heap.size w w')) ?_ ?_
                  rotate_left
                  · intro hJ0_9
                    refine join_ (σ := Value × Nat) 5 (bl_ 11 630) (fun s_ => [(11, s_.1), (5, .pointer (some ⟨s_.2, 0, none⟩))]) (fun s_ w' => (w'.cell? ⟨gb1301, 0, none⟩ = some (.slice A0_0 l0_0.length c0_0) ∧ w'.cell? ⟨gb1301, 1, none⟩ = some (.slice A0_1 l0_1.length c0_1)) ∧ (Kd.R (Kd.int .i64) 3 w' w.heap.size (fun _ => True) s_.1 y1309) ∧ (w'.heap[gb1301]? = some (.cells #[.slice A0_0 l0_0.length c0_0, .slice A0_1 l0_1.length c0_1] 27 (0, 0))) ∧ (w'.heap[gb1302]? = some (.cells #[.slice none 0 0, .slice none 0 0] 27 (0, 0))) ∧ (w'.heap[s_.2]? = some (.cells #[.slice none 0 0, .slice none 0 0] 27 (0, 0))) ∧ (w.heap.size ≤ s_.2) ∧ (w.heap.size ≤ s_.2) ∧ (gb1301 ≠ s_.2) ∧ (s_.2 ≠ gb1301) ∧ (gb1302 ≠ s_.2) ∧ (s_.2 ≠ gb1302) ∧ (Below w.heap.size w w')) ?_ ?_
                    rotate_left
                    · intro hJ4_9
                      refine join_ (σ := Value) 6 (bl_ 11 103) (fun s_ => [(7, s_)]) (fun s_ w' => (w'.cell? ⟨gb1301, 0, none⟩ = some (.slice A0_0 l0_0.length c0_0) ∧ w'.cell? ⟨gb1301, 1, none⟩ = some (.slice A0_1 l0_1.length c0_1)) ∧ (Kd.R (Kd.int .i64) 3 w' w.heap.size (fun _ => True) s_ y1303) ∧ (w'.heap[gb1301]? = some (.cells #[.slice A0_0 l0_0.length c0_0, .slice A0_1 l0_1.length c0_1] 27 (0, 0))) ∧ (w'.heap[gb1302]? = some (.cells #[.slice none 0 0, .slice none 0 0] 27 (0, 0))) ∧ (Below w.heap.size w w')) ?_ ?_
                      rotate_left
                      · intro hJ0
                        refine join_ (σ := Value) 6 (bl_ 11 118) (fun s_ => [(11, s_)]) (fun s_ w' => (w'.cell? ⟨gb1301, 0, none⟩ = some (.slice A0_0 l0_0.length c0_0) ∧ w'.cell? ⟨gb1301, 1, none⟩ = some (.slice A0_1 l0_1.length c0_1)) ∧ (Kd.R (Kd.int .i64) 3 w' w.heap.size (fun _ => True) s_ y1309) ∧ (w'.heap[gb1301]? = some (.cells #[.slice A0_0 l0_0.length c0_0, .slice A0_1 l0_1.length c0_1] 27 (0, 0))) ∧ (w'.heap[gb1302]? = some (.cells #[.slice none 0 0, .slice none 0 0] 27 (0, 0))) ∧ (Below w.heap.size w w')) ?_ ?_
                        rotate_left
                        · intro hJ4
                          refine join_ (σ := Nat) 6 (bl_ 11 614) (fun s_ => [(5, .pointer (some ⟨s_, 0, none⟩))]) (fun s_ w' => (w'.cell? ⟨gb1301, 0, none⟩ = some (.slice A0_0 l0_0.length c0_0) ∧ w'.cell? ⟨gb1301, 1, none⟩ = some (.slice A0_1 l0_1.length c0_1)) ∧ (w'.heap[gb1301]? = some (.cells #[.slice A0_0 l0_0.length c0_0, .slice A0_1 l0_1.length c0_1] 27 (0, 0))) ∧ (w'.heap[gb1302]? = some (.cells #[.slice none 0 0, .slice none 0 0] 27 (0, 0))) ∧ (w'.heap[s_]? = some (.cells #[.slice none 0 0, .slice none 0 0] 27 (0, 0))) ∧ (w.heap.size ≤ s_) ∧ (w.heap.size ≤ s_) ∧ (gb1301 ≠ s_) ∧ (s_ ≠ gb1301) ∧ (gb1302 ≠ s_) ∧ (s_ ≠ gb1302) ∧ (Below w.heap.size w w')) ?_ ?_
                          rotate_left
                          · intro hJ9
                            refine three_ (i := 0) (j := 4) (k := 9) (Ni := some 7) (Nj := some 11) (Nk := some 5) (bl_ 11 103) (bl_ 11 118) (bl_ 11 614) rfl rfl rfl rfl rfl rfl (three_of HT_.out (by kernel_rfl)) (by decide) (by decide) (by decide) (fun K hK => ?_) (fun K hK => ?_) (fun K hK => ?_)
                            · skip
                              refine Kd.R_lit_step (Kd.int .i64) _ 3 ?hg (N := 7) ?hd (xs := ([] : List Int)) (inner := []) (ok := fun _ => True) (okp := fun _ => True) ?hr ?hp (fun _ hk => hk) trivial (Below.refl _ _) (Nat.le_refl _) (by simp) ?_; (case hd => rfl); (case hg => rfl); (case hr => first | (go_simp; done) | (go_simp; rfl)); (case hp => exact (Reps.none _ _))
                              intro v1304 w8 ho9 hb hg_ hnew_
                              clear hg_ hnew_
                              (first | rw [← Ny1303.out] at ho9 | (simp only [Int.reduceToNat] at ho9; rw [← Ny1303.out] at ho9))
                              have HO1305 := rl_ w ho9
                              replace BK1301 := bb_ BK1301 hb
                              replace BK1302 := bb_ BK1302 hb
                              replace HB := b1_ hb
                              clear hb ho9
                              refine hK.out _ _ ⟨cz0_ BK1301, cz1_ BK1301⟩ (fun hHeld => ?_)
                              clear hK K
                              refine no_ (some 7) ?_
                              exact norm_ (by first | (simp only [putAll, Act.put, List.setIfInBounds_toArray, List.set_cons_zero, List.set_cons_succ]; done) | (simp only [putAll, Act.put, List.setIfInBounds_toArray, List.set_cons_zero, List.set_cons_succ]; rfl)) (hJ0 (v1304) _ ⟨hHeld, (rr_ HO1305), (kk_ BK1301), (kk_ BK1302), hB_⟩)
                            · skip
                              refine Kd.R_lit_step (Kd.int .i64) _ 3 ?hg (N := 11) ?hd (xs := ([] : List Int)) (inner := []) (ok := fun _ => True) (okp := fun _ => True) ?hr ?hp (fun _ hk => hk) trivial (Below.refl _ _) (Nat.le_refl _) (by simp) ?_; (case hd => rfl); (case hg => rfl); (case hr => first | (go_simp; done) | (go_simp; rfl)); (case hp => exact (Reps.none _ _))
                              intro v1310 w8 ho9 hb hg_ hnew_
                              clear hg_ hnew_
                              (first | rw [← Ny1309.out] at ho9 | (simp only [Int.reduceToNat] at ho9; rw [← Ny1309.out] at ho9))
                              have HO1311 := rl_ w ho9
                              replace BK1301 := bb_ BK1301 hb
                              replace BK1302 := bb_ BK1302 hb
                              replace HB := b1_ hb
                              clear hb ho9
                              refine hK.out _ _ ⟨cz0_ BK1301, cz1_ BK1301⟩ (fun hHeld => ?_)
                              clear hK K
                              refine no_ (some 11) ?_
                              exact norm_ (by first | (simp only [putAll, Act.put, List.setIfInBounds_toArray, List.set_cons_zero, List.set_cons_succ]; done) | (simp only [putAll, Act.put, List.setIfInBounds_toArray, List.set_cons_zero, List.set_cons_succ]; rfl)) (hJ4 (v1310) _ ⟨hHeld, (rr_ HO1311), (kk_ BK1301), (kk_ BK1302), hB_⟩)
                            · skip
                              refine box_step ?hg (N := 5) ?hd (cs := #[.slice none 0 0, .slice none 0 0]) (t := 27) ?hr ?_; (case hd => rfl); (case hg => rfl); (case hr => first | (go_simp; done) | (go_simp; rfl))
                              intro gb1315 hg w8 hbox hb
                              have BK1315 := Aside0.mk hbox
                              have GW1315 := gw_ w hg
                              have GE1315 := GW1315
                              replace HB := b1_ hb
                              have NB1301_1315 := gN_ BK1301 hg
                              have NB1315_1301 := gP_ BK1301 hg
                              replace BK1301 := bb_ BK1301 hb
                              have NB1302_1315 := gN_ BK1302 hg
                              have NB1315_1302 := gP_ BK1302 hg
                              replace BK1302 := bb_ BK1302 hb
                              clear hb hbox hg
                              refine hK.out _ _ ⟨cz0_ BK1301, cz1_ BK1301⟩ (fun hHeld => ?_)
                              clear hK K
                              refine no_ (some 5) ?_
                              exact norm_ (by first | (simp only [putAll, Act.put, List.setIfInBounds_toArray, List.set_cons_zero, List.set_cons_succ]; done) | (simp only [putAll, Act.put, List.setIfInBounds_toArray, List.set_cons_zero, List.set_cons_succ]; rfl)) (hJ9 (gb1315) _ ⟨hHeld, (kk_ BK1301), (kk_ BK1302), (kk_ BK1315), GW1315.out, GE1315.out, NB1301_1315.out, NB1315_1301.out, NB1302_1315.out, NB1315_1302.out, hB_⟩)
                          · skip
                            rintro gb1315 w9 ⟨hS_, h0_, h1_, h2_, h3_, h4_, h5_, h6_, h7_, h8_, h9_⟩
                            have n0_ : Aside0 (w9.heap[gb1301]? = some (.cells #[.slice A0_0 l0_0.length c0_0, .slice A0_1 l0_1.length c0_1] 27 (0, 0))) := ⟨h0_⟩
                            have n1_ : Aside0 (w9.heap[gb1302]? = some (.cells #[.slice none 0 0, .slice none 0 0] 27 (0, 0))) := ⟨h1_⟩
                            have n2_ : Aside0 (w9.heap[gb1315]? = some (.cells #[.slice none 0 0, .slice none 0 0] 27 (0, 0))) := ⟨h2_⟩
                            have n3_ : Aside0 (w.heap.size ≤ gb1315) := ⟨h3_⟩
                            have n4_ : Aside0 (w.heap.size ≤ gb1315) := ⟨h4_⟩
                            have n5_ : Aside0 (gb1301 ≠ gb1315) := ⟨h5_⟩
                            have n6_ : Aside0 (gb1315 ≠ gb1301) := ⟨h6_⟩
                            have n7_ : Aside0 (gb1302 ≠ gb1315) := ⟨h7_⟩
                            have n8_ : Aside0 (gb1315 ≠ gb1302) := ⟨h8_⟩
                            have n9_ : Aside0 (Below w.heap.size w w9) := ⟨h9_⟩
                            clear BK1301
                            clear BK1302
                            clear HB
                            clear h0_ h1_ h2_ h3_ h4_ h5_ h6_ h7_ h8_ h9_
                            have BK1301 := n0_
                            have BK1302 := n1_
                            have BK1315 := n2_
                            have GW1315 := n3_
                            have GE1315 := n4_
                            have NB1301_1315 := n5_
                            have NB1315_1301 := n6_
                            have NB1302_1315 := n7_
                            have NB1315_1302 := n8_
                            have HB := n9_
                            clear n0_ n1_ n2_ n3_ n4_ n5_ n6_ n7_ n8_ n9_
                            have hHeld : w9.cell? ⟨gb1301, 0, none⟩ = some (.slice A0_0 l0_0.length c0_0) ∧ w9.cell? ⟨gb1301, 1, none⟩ = some (.slice A0_1 l0_1.length c0_1) := hS_
                            refine norm_ (a' := ?_) ?_ ?_
                            rotate_left
                            · simp only [putAll, Act.put, List.setIfInBounds_toArray, List.set_cons_zero, List.set_cons_succ]
                              rfl
                            refine two_ (i := 0) (j := 4) (Ni := some 7) (Nj := some 11) (bl_ 11 615) (bl_ 11 630) rfl rfl rfl rfl (two_of HT_.out (by kernel_rfl)) (by decide) (by decide) (fun K hK => ?_) (fun K hK => ?_)
                            · skip
                              refine Kd.R_lit_step (Kd.int .i64) _ 3 ?hg (N := 7) ?hd (xs := ([] : List Int)) (inner := []) (ok := fun _ => True) (okp := fun _ => True) ?hr ?hp (fun _ hk => hk) trivial (Below.refl _ _) (Nat.le_refl _) (by simp) ?_; (case hd => rfl); (case hg => rfl); (case hr => first | (go_simp; done) | (go_simp; rfl)); (case hp => exact (Reps.none _ _))
                              intro v1304 w10 ho11 hb hg_ hnew_
                              clear hg_ hnew_
                              (first | rw [← Ny1303.out] at ho11 | (simp only [Int.reduceToNat] at ho11; rw [← Ny1303.out] at ho11))
                              have HO1305 := rl_ w ho11
                              replace BK1301 := bb_ BK1301 hb
                              replace BK1302 := bb_ BK1302 hb
                              replace BK1315 := bb_ BK1315 hb
                              replace HB := b1_ hb
                              clear hb ho11
                              refine hK.out _ _ ⟨cz0_ BK1301, cz1_ BK1301⟩ (fun hHeld => ?_)
                              clear hK K
                              refine no_ (some 7) ?_
                              exact norm_ (by first | (simp only [putAll, Act.put, List.setIfInBounds_toArray, List.set_cons_zero, List.set_cons_succ]; done) | (simp only [putAll, Act.put, List.setIfInBounds_toArray, List.set_cons_zero, List.set_cons_succ]; rfl)) (hJ0_9 (v1304, gb1315) _ ⟨hHeld, (rr_ HO1305), (kk_ BK1301), (kk_ BK1302), (kk_ BK1315), GW1315.out, GE1315.out, NB1301_1315.out, NB1315_1301.out, NB1302_1315.out, NB1315_1302.out, hB_⟩)
                            · skip
                              refine Kd.R_lit_step (Kd.int .i64) _ 3 ?hg (N := 11) ?hd (xs := ([] : List Int)) (inner := []) (ok := fun _ => True) (okp := fun _ => True) ?hr ?hp (fun _ hk => hk) trivial (Below.refl _ _) (Nat.le_refl _) (by simp) ?_; (case hd => rfl); (case hg => rfl); (case hr => first | (go_simp; done) | (go_simp; rfl)); (case hp => exact (Reps.none _ _))
                              intro v1310 w10 ho11 hb hg_ hnew_
                              clear hg_ hnew_
                              (first | rw [← Ny1309.out] at ho11 | (simp only [Int.reduceToNat] at ho11; rw [← Ny1309.out] at ho11))
                              have HO1311 := rl_ w ho11
                              replace BK1301 := bb_ BK1301 hb
                              replace BK1302 := bb_ BK1302 hb
                              replace BK1315 := bb_ BK1315 hb
                              replace HB := b1_ hb
                              clear hb ho11
                              refine hK.out _ _ ⟨cz0_ BK1301, cz1_ BK1301⟩ (fun hHeld => ?_)
                              clear hK K
                              refine no_ (some 11) ?_
                              exact norm_ (by first | (simp only [putAll, Act.put, List.setIfInBounds_toArray, List.set_cons_zero, List.set_cons_succ]; done) | (simp only [putAll, Act.put, List.setIfInBounds_toArray, List.set_cons_zero, List.set_cons_succ]; rfl)) (hJ4_9 (v1310, gb1315) _ ⟨hHeld, (rr_ HO1311), (kk_ BK1301), (kk_ BK1302), (kk_ BK1315), GW1315.out, GE1315.out, NB1301_1315.out, NB1315_1301.out, NB1302_1315.out, NB1315_1302.out, hB_⟩)
                        · skip
                          rintro v1310 w10 ⟨hS_, h0_, h1_, h2_, h3_⟩
                          have n0_ : Aside0 (Kd.R (Kd.int .i64) 3 w10 w.heap.size (fun _ => True) v1310 y1309) := ⟨h0_⟩
                          have n1_ : Aside0 (w10.heap[gb1301]? = some (.cells #[.slice A0_0 l0_0.length c0_0, .slice A0_1 l0_1.length c0_1] 27 (0, 0))) := ⟨h1_⟩
                          have n2_ : Aside0 (w10.heap[gb1302]? = some (.cells #[.slice none 0 0, .slice none 0 0] 27 (0, 0))) := ⟨h2_⟩
                          have n3_ : Aside0 (Below w.heap.size w w10) := ⟨h3_⟩
                          clear BK1301
                          clear BK1302
                          clear HB
                          clear h0_ h1_ h2_ h3_
                          have HO1311 := n0_
                          have BK1301 := n1_
                          have BK1302 := n2_
                          have HB := n3_
                          clear n0_ n1_ n2_ n3_
                          have hHeld : w10.cell? ⟨gb1301, 0, none⟩ = some (.slice A0_0 l0_0.length c0_0) ∧ w10.cell? ⟨gb1301, 1, none⟩ = some (.slice A0_1 l0_1.length c0_1) := hS_
                          refine norm_ (a' := ?_) ?_ ?_
                          rotate_left
                          · simp only [putAll, Act.put, List.setIfInBounds_toArray, List.set_cons_zero, List.set_cons_succ]
                            rfl
                          refine two_ (i := 0) (j := 9) (Ni := some 7) (Nj := some 5) (bl_ 11 119) (bl_ 11 630) rfl rfl rfl rfl (two_of HT_.out (by kernel_rfl)) (by decide) (by decide) (fun K hK => ?_) (fun K hK => ?_)
                          · skip
                            refine Kd.R_lit_step (Kd.int .i64) _ 3 ?hg (N := 7) ?hd (xs := ([] : List Int)) (inner := []) (ok := fun _ => True) (okp := fun _ => True) ?hr ?hp (fun _ hk => hk) trivial (Below.refl _ _) (Nat.le_refl _) (by simp) ?_; (case hd => rfl); (case hg => rfl); (case hr => first | (go_simp; done) | (go_simp; rfl)); (case hp => exact (Reps.none _ _))
                            intro v1304 w11 ho12 hb hg_ hnew_
                            clear hg_ hnew_
                            (first | rw [← Ny1303.out] at ho12 | (simp only [Int.reduceToNat] at ho12; rw [← Ny1303.out] at ho12))
                            have HO1305 := Aside0.mk (Kd.R_lower (Kd.R_new' ho12 (Kd.R_lt (rr_ HO1311))) (below_size hB_))
                            replace HO1311 := Aside0.mk (Kd.R_elder' (rr_ HO1311) (Kd.R_base ho12) hb)
                            replace BK1301 := bb_ BK1301 hb
                            replace BK1302 := bb_ BK1302 hb
                            replace HB := b1_ hb
                            clear hb ho12
                            refine hK.out _ _ ⟨cz0_ BK1301, cz1_ BK1301⟩ (fun hHeld => ?_)
                            clear hK K
                            refine no_ (some 7) ?_
                            exact norm_ (by first | (simp only [putAll, Act.put, List.setIfInBounds_toArray, List.set_cons_zero, List.set_cons_succ]; done) | (simp only [putAll, Act.put, List.setIfInBounds_toArray, List.set_cons_zero, List.set_cons_succ]; rfl)) (hJ0_4 (v1304, v1310) _ ⟨hHeld, (rw_ (Kd.R_mono HO1305.out (fun _ hk => hk.2))), (rw_ (Kd.R_mono HO1311.out (fun _ hk => hk.2))), (kk_ BK1301), (kk_ BK1302), hB_⟩)
                          · skip
                            refine box_step ?hg (N := 5) ?hd (cs := #[.slice none 0 0, .slice none 0 0]) (t := 27) ?hr ?_; (case hd => rfl); (case hg => rfl); (case hr => first | (go_simp; done) | (go_simp; rfl))
                            intro gb1315 hg w11 hbox hb
                            replace HO1311 := rb_ HO1311 hb
                            have BK1315 := Aside0.mk hbox
                            have GW1315 := gw_ w hg
                            have GE1315 := GW1315
                            replace HB := b1_ hb
                            have NB1301_1315 := gN_ BK1301 hg
                            have NB1315_1301 := gP_ BK1301 hg
                            replace BK1301 := bb_ BK1301 hb
                            have NB1302_1315 := gN_ BK1302 hg
                            have NB1315_1302 := gP_ BK1302 hg
                            replace BK1302 := bb_ BK1302 hb
                            clear hb hbox hg
                            refine hK.out _ _ ⟨cz0_ BK1301, cz1_ BK1301⟩ (fun hHeld => ?_)
                            clear hK K
                            refine no_ (some 5) ?_
                            exact norm_ (by first | (simp only [putAll, Act.put, List.setIfInBounds_toArray, List.set_cons_zero, List.set_cons_succ]; done) | (simp only [putAll, Act.put, List.setIfInBounds_toArray, List.set_cons_zero, List.set_cons_succ]; rfl)) (hJ4_9 (v1310, gb1315) _ ⟨hHeld, (rr_ HO1311), (kk_ BK1301), (kk_ BK1302), (kk_ BK1315), GW1315.out, GE1315.out, NB1301_1315.out, NB1315_1301.out, NB1302_1315.out, NB1315_1302.out, hB_⟩)
                      · skip
                        rintro v1304 w10 ⟨hS_, h0_, h1_, h2_, h3_⟩
                        have n0_ : Aside0 (Kd.R (Kd.int .i64) 3 w10 w.heap.size (fun _ => True) v1304 y1303) := ⟨h0_⟩
                        have n1_ : Aside0 (w10.heap[gb1301]? = some (.cells #[.slice A0_0 l0_0.length c0_0, .slice A0_1 l0_1.length c0_1] 27 (0, 0))) := ⟨h1_⟩
                        have n2_ : Aside0 (w10.heap[gb1302]? = some (.cells #[.slice none 0 0, .slice none 0 0] 27 (0, 0))) := ⟨h2_⟩
                        have n3_ : Aside0 (Below w.heap.size w w10) := ⟨h3_⟩
                        clear BK1301
                        clear BK1302
                        clear HB
                        clear h0_ h1_ h2_ h3_
                        have HO1305 := n0_
                        have BK1301 := n1_
                        have BK1302 := n2_
                        have HB := n3_
                        clear n0_ n1_ n2_ n3_
                        have hHeld : w10.cell? ⟨gb1301, 0, none⟩ = some (.slice A0_0 l0_0.length c0_0) ∧ w10.cell? ⟨gb1301, 1, none⟩ = some (.slice A0_1 l0_1.length c0_1) := hS_
                        refine norm_ (a' := ?_) ?_ ?_
                        rotate_left
                        · simp only [putAll, Act.put, List.setIfInBounds_toArray, List.set_cons_zero, List.set_cons_succ]
                          rfl
                        refine three_ (i := 3) (j := 4) (k := 9) (Ni := some 10) (Nj := some 11) (Nk := some 5) (bl_ 11 111) (bl_ 11 119) (bl_ 11 615) rfl rfl rfl rfl rfl rfl (three_of HT_.out (by kernel_rfl)) (by decide) (by decide) (by decide) (fun K hK => ?_) (fun K hK => ?_) (fun K hK => ?_)
                        · skip
                          refine Kd.R_append_rows_step (Kd.int .i64) (w0 := w) w.heap.size (by rfl) (.tmp 7) (.tmp 9) 22 3 (.int .i64 0) 8 rfl Try.underlying22 info3 rfl (by decide) (by omega) v1304 y1303 l0_0 _ _ _ (fun _ => True) (fun _ => False) rfl rfl ?aO ?aR (fun _ _ h => h) (fun _ h => h.elim) ?aF ?aB ?aS ?aL ?_
                          (case aR => exact cb_ HR0_0)
                          (case aB => exact hB_)
                          (case aF => exact (fun _ _ => trivial))
                          (case aO => exact (rr_ HO1305))
                          (case aS => exact (below_size hB_))
                          (case aL => have := LMc3.out; omega)
                          intro v1307 w11 ho hb hg hat
                          rw [← Ny1306.out] at ho
                          replace BK1301 := Aside0.mk (blk_grown (kk_ BK1301) hg (Kd.R_ne HO1305.out BK1301.out (by decide)))
                          replace BK1302 := Aside0.mk (blk_grown (kk_ BK1302) hg (Kd.R_ne HO1305.out BK1302.out (by decide)))
                          replace HB := Aside0.mk hb
                          have HO1308 := Aside0.mk ho
                          clear HO1305
                          clear ho hb hg hat
                          refine hK.out _ _ ⟨cz0_ BK1301, cz1_ BK1301⟩ (fun hHeld => ?_)
                          clear hK K
                          refine no_ (some 10) ?_
                          exact norm_ (by first | (simp only [putAll, Act.put, List.setIfInBounds_toArray, List.set_cons_zero, List.set_cons_succ]; done) | (simp only [putAll, Act.put, List.setIfInBounds_toArray, List.set_cons_zero, List.set_cons_succ]; rfl)) (hJ0_3 (v1304, v1307) _ ⟨hHeld, (rr_ HO1308), (kk_ BK1301), (kk_ BK1302), hB_⟩)
                        · skip
                          refine Kd.R_lit_step (Kd.int .i64) _ 3 ?hg (N := 11) ?hd (xs := ([] : List Int)) (inner := []) (ok := fun _ => True) (okp := fun _ => True) ?hr ?hp (fun _ hk => hk) trivial (Below.refl _ _) (Nat.le_refl _) (by simp) ?_; (case hd => rfl); (case hg => rfl); (case hr => first | (go_simp; done) | (go_simp; rfl)); (case hp => exact (Reps.none _ _))
                          intro v1310 w11 ho12 hb hg_ hnew_
                          clear hg_ hnew_
                          (first | rw [← Ny1309.out] at ho12 | (simp only [Int.reduceToNat] at ho12; rw [← Ny1309.out] at ho12))
                          have HO1311 := Aside0.mk (Kd.R_lower (Kd.R_new' ho12 (Kd.R_lt (rr_ HO1305))) (below_size hB_))
                          replace HO1305 := Aside0.mk (Kd.R_elder' (rr_ HO1305) (Kd.R_base ho12) hb)
                          replace BK1301 := bb_ BK1301 hb
                          replace BK1302 := bb_ BK1302 hb
                          replace HB := b1_ hb
                          clear hb ho12
                          refine hK.out _ _ ⟨cz0_ BK1301, cz1_ BK1301⟩ (fun hHeld => ?_)
                          clear hK K
                          refine no_ (some 11) ?_
                          exact norm_ (by first | (simp only [putAll, Act.put, List.setIfInBounds_toArray, List.set_cons_zero, List.set_cons_succ]; done) | (simp only [putAll, Act.put, List.setIfInBounds_toArray, List.set_cons_zero, List.set_cons_succ]; rfl)) (hJ0_4 (v1304, v1310) _ ⟨hHeld, (rw_ (Kd.R_mono HO1305.out (fun _ hk => hk.2))), (rw_ (Kd.R_mono HO1311.out (fun _ hk => hk.2))), (kk_ BK1301), (kk_ BK1302), hB_⟩)
                        · skip
                          refine box_step ?hg (N := 5) ?hd (cs := #[.slice none 0 0, .slice none 0 0]) (t := 27) ?hr ?_; (case hd => rfl); (case hg => rfl); (case hr => first | (go_simp; done) | (go_simp; rfl))
                          intro gb1315 hg w11 hbox hb
                          replace HO1305 := rb_ HO1305 hb
                          have BK1315 := Aside0.mk hbox
                          have GW1315 := gw_ w hg
                          have GE1315 := GW1315
                          replace HB := b1_ hb
                          have NB1301_1315 := gN_ BK1301 hg
                          have NB1315_1301 := gP_ BK1301 hg
                          replace BK1301 := bb_ BK1301 hb
                          have NB1302_1315 := gN_ BK1302 hg
                          have NB1315_1302 := gP_ BK1302 hg
                          replace BK1302 := bb_ BK1302 hb
                          clear hb hbox hg
                          refine hK.out _ _ ⟨cz0_ BK1301, cz1_ BK1301⟩ (fun hHeld => ?_)
                          clear hK K
                          refine no_ (some 5) ?_
                          exact norm_ (by first | (simp only [putAll, Act.put, List.setIfInBounds_toArray, List.set_cons_zero, List.set_cons_succ]; done) | (simp only [putAll, Act.put, List.setIfInBounds_toArray, List.set_cons_zero, List.set_cons_succ]; rfl)) (hJ0_9 (v1304, gb1315) _ ⟨hHeld, (rr_ HO1305), (kk_ BK1301), (kk_ BK1302), (kk_ BK1315), GW1315.out, GE1315.out, NB1301_1315.out, NB1315_1301.out, NB1302_1315.out, NB1315_1302.out, hB_⟩)
                    · skip
                      rintro ⟨v1310, gb1315⟩ w11 ⟨hS_, h0_, h1_, h2_, h3_, h4_, h5_, h6_, h7_, h8_, h9_, h10_⟩
                      have n0_ : Aside0 (Kd.R (Kd.int .i64) 3 w11 w.heap.size (fun _ => True) v1310 y1309) := ⟨h0_⟩
                      have n1_ : Aside0 (w11.heap[gb1301]? = some (.cells #[.slice A0_0 l0_0.length c0_0, .slice A0_1 l0_1.length c0_1] 27 (0, 0))) := ⟨h1_⟩
                      have n2_ : Aside0 (w11.heap[gb1302]? = some (.cells #[.slice none 0 0, .slice none 0 0] 27 (0, 0))) := ⟨h2_⟩
                      have n3_ : Aside0 (w11.heap[gb1315]? = some (.cells #[.slice none 0 0, .slice none 0 0] 27 (0, 0))) := ⟨h3_⟩
                      have n4_ : Aside0 (w.heap.size ≤ gb1315) := ⟨h4_⟩
                      have n5_ : Aside0 (w.heap.size ≤ gb1315) := ⟨h5_⟩
                      have n6_ : Aside0 (gb1301 ≠ gb1315) := ⟨h6_⟩
                      have n7_ : Aside0 (gb1315 ≠ gb1301) := ⟨h7_⟩
                      have n8_ : Aside0 (gb1302 ≠ gb1315) := ⟨h8_⟩
                      have n9_ : Aside0 (gb1315 ≠ gb1302) := ⟨h9_⟩
                      have n10_ : Aside0 (Below w.heap.size w w11) := ⟨h10_⟩
                      clear BK1301
                      clear BK1302
                      clear HB
                      clear h0_ h1_ h2_ h3_ h4_ h5_ h6_ h7_ h8_ h9_ h10_
                      have HO1311 := n0_
                      have BK1301 := n1_
                      have BK1302 := n2_
                      have BK1315 := n3_
                      have GW1315 := n4_
                      have GE1315 := n5_
                      have NB1301_1315 := n6_
                      have NB1315_1301 := n7_
                      have NB1302_1315 := n8_
                      have NB1315_1302 := n9_
                      have HB := n10_
                      clear n0_ n1_ n2_ n3_ n4_ n5_ n6_ n7_ n8_ n9_ n10_
                      have hHeld : w11.cell? ⟨gb1301, 0, none⟩ = some (.slice A0_0 l0_0.length c0_0) ∧ w11.cell? ⟨gb1301, 1, none⟩ = some (.slice A0_1 l0_1.length c0_1) := hS_
                      refine norm_ (a' := ?_) ?_ ?_
                      rotate_left
                      · simp only [putAll, Act.put, List.setIfInBounds_toArray, List.set_cons_zero, List.set_cons_succ]
                        rfl
                      refine on_ 0 (some 7) (bl_ 11 631) HT_ (fun K hK => ?_)
                      refine Kd.R_lit_step (Kd.int .i64) _ 3 ?hg (N := 7) ?hd (xs := ([] : List Int)) (inner := []) (ok := fun _ => True) (okp := fun _ => True) ?hr ?hp (fun _ hk => hk) trivial (Below.refl _ _) (Nat.le_refl _) (by simp) ?_; (case hd => rfl); (case hg => rfl); (case hr => first | (go_simp; done) | (go_simp; rfl)); (case hp => exact (Reps.none _ _))
                      intro v1304 w12 ho13 hb hg_ hnew_
                      clear hg_ hnew_
                      (first | rw [← Ny1303.out] at ho13 | (simp only [Int.reduceToNat] at ho13; rw [← Ny1303.out] at ho13))
                      have HO1305 := Aside0.mk (Kd.R_lower (Kd.R_new' ho13 (Kd.R_lt (rr_ HO1311))) (below_size hB_))
                      replace HO1311 := Aside0.mk (Kd.R_elder' (rr_ HO1311) (Kd.R_base ho13) hb)
                      replace BK1301 := bb_ BK1301 hb
                      replace BK1302 := bb_ BK1302 hb
                      replace BK1315 := bb_ BK1315 hb
                      replace HB := b1_ hb
                      clear hb ho13
                      refine hK.out _ _ ⟨cz0_ BK1301, cz1_ BK1301⟩ (fun hHeld => ?_)
                      clear hK K
                      refine no_ (some 7) ?_
                      exact norm_ (by first | (simp only [putAll, Act.put, List.setIfInBounds_toArray, List.set_cons_zero, List.set_cons_succ]; done) | (simp only [putAll, Act.put, List.setIfInBounds_toArray, List.set_cons_zero, List.set_cons_succ]; rfl)) (hJ0_4_9 (v1304, v1310, gb1315) _ ⟨hHeld, (rw_ (Kd.R_mono HO1305.out (fun _ hk => hk.2))), (rw_ (Kd.R_mono HO1311.out (fun _ hk => hk.2))), (kk_ BK1301), (kk_ BK1302), (kk_ BK1315), GW1315.out, GE1315.out, NB1301_1315.out, NB1315_1301.out, NB1302_1315.out, NB1315_1302.out, hB_⟩)
                  · skip
                    rintro ⟨v1304, gb1315⟩ w11 ⟨hS_, h0_, h1_, h2_, h3_, h4_, h5_, h6_, h7_, h8_, h9_, h10_⟩
                    have n0_ : Aside0 (Kd.R (Kd.int .i64) 3 w11 w.heap.size (fun _ => True) v1304 y1303) := ⟨h0_⟩
                    have n1_ : Aside0 (w11.heap[gb1301]? = some (.cells #[.slice A0_0 l0_0.length c0_0, .slice A0_1 l0_1.length c0_1] 27 (0, 0))) := ⟨h1_⟩
                    have n2_ : Aside0 (w11.heap[gb1302]? = some (.cells #[.slice none 0 0, .slice none 0 0] 27 (0, 0))) := ⟨h2_⟩
                    have n3_ : Aside0 (w11.heap[gb1315]? = some (.cells #[.slice none 0 0, .slice none 0 0] 27 (0, 0))) := ⟨h3_⟩
                    have n4_ : Aside0 (w.heap.size ≤ gb1315) := ⟨h4_⟩
                    have n5_ : Aside0 (w.heap.size ≤ gb1315) := ⟨h5_⟩
                    have n6_ : Aside0 (gb1301 ≠ gb1315) := ⟨h6_⟩
                    have n7_ : Aside0 (gb1315 ≠ gb1301) := ⟨h7_⟩
                    have n8_ : Aside0 (gb1302 ≠ gb1315) := ⟨h8_⟩
                    have n9_ : Aside0 (gb1315 ≠ gb1302) := ⟨h9_⟩
                    have n10_ : Aside0 (Below w.heap.size w w11) := ⟨h10_⟩
                    clear BK1301
                    clear BK1302
                    clear HB
                    clear h0_ h1_ h2_ h3_ h4_ h5_ h6_ h7_ h8_ h9_ h10_
                    have HO1305 := n0_
                    have BK1301 := n1_
                    have BK1302 := n2_
                    have BK1315 := n3_
                    have GW1315 := n4_
                    have GE1315 := n5_
                    have NB1301_1315 := n6_
                    have NB1315_1301 := n7_
                    have NB1302_1315 := n8_
                    have NB1315_1302 := n9_
                    have HB := n10_
                    clear n0_ n1_ n2_ n3_ n4_ n5_ n6_ n7_ n8_ n9_ n10_
                    have hHeld : w11.cell? ⟨gb1301, 0, none⟩ = some (.slice A0_0 l0_0.length c0_0) ∧ w11.cell? ⟨gb1301, 1, none⟩ = some (.slice A0_1 l0_1.length c0_1) := hS_
                    refine norm_ (a' := ?_) ?_ ?_
                    rotate_left
                    · simp only [putAll, Act.put, List.setIfInBounds_toArray, List.set_cons_zero, List.set_cons_succ]
                      rfl
                    refine two_ (i := 3) (j := 4) (Ni := some 10) (Nj := some 11) (bl_ 11 623) (bl_ 11 631) rfl rfl rfl rfl (two_of HT_.out (by kernel_rfl)) (by decide) (by decide) (fun K hK => ?_) (fun K hK => ?_)
                    · skip
                      refine Kd.R_append_rows_step (Kd.int .i64) (w0 := w) w.heap.size (by rfl) (.tmp 7) (.tmp 9) 22 3 (.int .i64 0) 8 rfl Try.underlying22 info3 rfl (by decide) (by omega) v1304 y1303 l0_0 _ _ _ (fun _ => True) (fun _ => False) rfl rfl ?aO ?aR (fun _ _ h => h) (fun _ h => h.elim) ?aF ?aB ?aS ?aL ?_
                      (case aR => exact cb_ HR0_0)
                      (case aB => exact hB_)
                      (case aF => exact (fun _ _ => trivial))
                      (case aO => exact (rr_ HO1305))
                      (case aS => exact (below_size hB_))
                      (case aL => have := LMc3.out; omega)
                      intro v1307 w12 ho hb hg hat
                      rw [← Ny1306.out] at ho
                      replace BK1301 := Aside0.mk (blk_grown (kk_ BK1301) hg (Kd.R_ne HO1305.out BK1301.out (by decide)))
                      replace BK1302 := Aside0.mk (blk_grown (kk_ BK1302) hg (Kd.R_ne HO1305.out BK1302.out (by decide)))
                      replace BK1315 := Aside0.mk (blk_grown (kk_ BK1315) hg (Kd.R_ne HO1305.out BK1315.out (by decide)))
                      replace HB := Aside0.mk hb
                      have HO1308 := Aside0.mk ho
                      clear HO1305
                      clear ho hb hg hat
                      refine hK.out _ _ ⟨cz0_ BK1301, cz1_ BK1301⟩ (fun hHeld => ?_)
                      clear hK K
                      refine no_ (some 10) ?_
                      exact norm_ (by first | (simp only [putAll, Act.put, List.setIfInBounds_toArray, List.set_cons_zero, List.set_cons_succ]; done) | (simp only [putAll, Act.put, List.setIfInBounds_toArray, List.set_cons_zero, List.set_cons_succ]; rfl)) (hJ0_3_9 (v1304, v1307, gb1315) _ ⟨hHeld, (rr_ HO1308), (kk_ BK1301), (kk_ BK1302), (kk_ BK1315), GW1315.out, GE1315.out, NB1301_1315.out, NB1315_1301.out, NB1302_1315.out, NB1315_1302.out, hB_⟩)
                    · skip
                      refine Kd.R_lit_step (Kd.int .i64) _ 3 ?hg (N := 11) ?hd (xs := ([] : List Int)) (inner := []) (ok := fun _ => True) (okp := fun _ => True) ?hr ?hp (fun _ hk => hk) trivial (Below.refl _ _) (Nat.le_refl _) (by simp) ?_; (case hd => rfl); (case hg => rfl); (case hr => first | (go_simp; done) | (go_simp; rfl)); (case hp => exact (Reps.none _ _))
                      intro v1310 w12 ho13 hb hg_ hnew_
                      clear hg_ hnew_
                      (first | rw [← Ny1309.out] at ho13 | (simp only [Int.reduceToNat] at ho13; rw [← Ny1309.out] at ho13))
                      have HO1311 := Aside0.mk (Kd.R_lower (Kd.R_new' ho13 (Kd.R_lt (rr_ HO1305))) (below_size hB_))
                      replace HO1305 := Aside0.mk (Kd.R_elder' (rr_ HO1305) (Kd.R_base ho13) hb)
                      replace BK1301 := bb_ BK1301 hb
                      replace BK1302 := bb_ BK1302 hb
                      replace BK1315 := bb_ BK1315 hb
                      replace HB := b1_ hb
                      clear hb ho13
                      refine hK.out _ _ ⟨cz0_ BK1301, cz1_ BK1301⟩ (fun hHeld => ?_)
                      clear hK K
                      refine no_ (some 11) ?_
                      exact norm_ (by first | (simp only [putAll, Act.put, List.setIfInBounds_toArray, List.set_cons_zero, List.set_cons_succ]; done) | (simp only [putAll, Act.put, List.setIfInBounds_toArray, List.set_cons_zero, List.set_cons_succ]; rfl)) (hJ0_4_9 (v1304, v1310, gb1315) _ ⟨hHeld, (rw_ (Kd.R_mono HO1305.out (fun _ hk => hk.2))), (rw_ (Kd.R_mono HO1311.out (fun _ hk => hk.2))), (kk_ BK1301), (kk_ BK1302), (kk_ BK1315), GW1315.out, GE1315.out, NB1301_1315.out, NB1315_1301.out, NB1302_1315.out, NB1315_1302.out, hB_⟩)
                · skip
                  rintro ⟨v1304, v1310⟩ w12 ⟨hS_, h0_, h1_, h2_, h3_, h4_⟩
                  have n0_ : Aside0 (Kd.R (Kd.int .i64) 3 w12 w.heap.size (fun k_ => some k_ ≠ (v1310 : Value).ownBlock) v1304 y1303) := ⟨h0_⟩
                  have n1_ : Aside0 (Kd.R (Kd.int .i64) 3 w12 w.heap.size (fun k_ => some k_ ≠ (v1304 : Value).ownBlock) v1310 y1309) := ⟨h1_⟩
                  have n2_ : Aside0 (w12.heap[gb1301]? = some (.cells #[.slice A0_0 l0_0.length c0_0, .slice A0_1 l0_1.length c0_1] 27 (0, 0))) := ⟨h2_⟩
                  have n3_ : Aside0 (w12.heap[gb1302]? = some (.cells #[.slice none 0 0, .slice none 0 0] 27 (0, 0))) := ⟨h3_⟩
                  have n4_ : Aside0 (Below w.heap.size w w12) := ⟨h4_⟩
                  clear BK1301
                  clear BK1302
                  clear HB
                  clear h0_ h1_ h2_ h3_ h4_
                  have HO1305 := n0_
                  have HO1311 := n1_
                  have BK1301 := n2_
                  have BK1302 := n3_
                  have HB := n4_
                  clear n0_ n1_ n2_ n3_ n4_
                  have hHeld : w12.cell? ⟨gb1301, 0, none⟩ = some (.slice A0_0 l0_0.length c0_0) ∧ w12.cell? ⟨gb1301, 1, none⟩ = some (.slice A0_1 l0_1.length c0_1) := hS_
                  refine norm_ (a' := ?_) ?_ ?_
                  rotate_left
                  · simp only [putAll, Act.put, List.setIfInBounds_toArray, List.set_cons_zero, List.set_cons_succ]
                    rfl
                  refine two_ (i := 3) (j := 9) (Ni := some 10) (Nj := some 5) (bl_ 11 127) (bl_ 11 631) rfl rfl rfl rfl (two_of HT_.out (by kernel_rfl)) (by decide) (by decide) (fun K hK => ?_) (fun K hK => ?_)
                  · skip
                    refine Kd.R_append_rows_step (Kd.int .i64) (w0 := w) w.heap.size (by rfl) (.tmp 7) (.tmp 9) 22 3 (.int .i64 0) 8 rfl Try.underlying22 info3 rfl (by decide) (by omega) v1304 y1303 l0_0 _ _ _ (fun k_ => some k_ ≠ (v1310 : Value).ownBlock) (fun _ => False) rfl rfl ?aO ?aR (fun _ _ h => h) (fun _ h => h.elim) ?aF ?aB ?aS ?aL ?_
                    (case aR => exact cb_ HR0_0)
                    (case aB => exact hB_)
                    (case aF => exact (fun k_ hk => Kd.fresh' (Kd.R_lt (rr_ HO1311)) k_ hk))
                    (case aO => exact (rr_ HO1305))
                    (case aS => exact (below_size hB_))
                    (case aL => have := LMc3.out; omega)
                    intro v1307 w13 ho hb hg hat
                    rw [← Ny1306.out] at ho
                    replace BK1301 := Aside0.mk (blk_grown (kk_ BK1301) hg (Kd.R_ne HO1305.out BK1301.out (by decide)))
                    replace BK1302 := Aside0.mk (blk_grown (kk_ BK1302) hg (Kd.R_ne HO1305.out BK1302.out (by decide)))
                    replace HO1311 := Aside0.mk (Kd.R_after (ok := (fun _ => True)) (rw_ (Kd.R_mono HO1311.out (fun _ hk => ⟨trivial, hk⟩))) hg hat)
                    replace HB := Aside0.mk hb
                    have HO1308 := Aside0.mk ho
                    clear HO1305
                    clear ho hb hg hat
                    refine hK.out _ _ ⟨cz0_ BK1301, cz1_ BK1301⟩ (fun hHeld => ?_)
                    clear hK K
                    refine no_ (some 10) ?_
                    exact norm_ (by first | (simp only [putAll, Act.put, List.setIfInBounds_toArray, List.set_cons_zero, List.set_cons_succ]; done) | (simp only [putAll, Act.put, List.setIfInBounds_toArray, List.set_cons_zero, List.set_cons_succ]; rfl)) (hJ0_3_4 (v1304, v1307, v1310) _ ⟨hHeld, (rr_ HO1308), (rw_ (Kd.R_mono HO1311.out (fun _ hk => hk.2))), (kk_ BK1301), (kk_ BK1302), hB_⟩)
                  · skip
                    refine box_step ?hg (N := 5) ?hd (cs := #[.slice none 0 0, .slice none 0 0]) (t := 27) ?hr ?_; (case hd => rfl); (case hg => rfl); (case hr => first | (go_simp; done) | (go_simp; rfl))
                    intro gb1315 hg w13 hbox hb
                    replace HO1305 := rb_ HO1305 hb
                    replace HO1311 := rb_ HO1311 hb
                    have BK1315 := Aside0.mk hbox
                    have GW1315 := gw_ w hg
                    have GE1315 := GW1315
                    replace HB := b1_ hb
                    have NB1301_1315 := gN_ BK1301 hg
                    have NB1315_1301 := gP_ BK1301 hg
                    replace BK1301 := bb_ BK1301 hb
                    have NB1302_1315 := gN_ BK1302 hg
                    have NB1315_1302 := gP_ BK1302 hg
                    replace BK1302 := bb_ BK1302 hb
                    clear hb hbox hg
                    refine hK.out _ _ ⟨cz0_ BK1301, cz1_ BK1301⟩ (fun hHeld => ?_)
                    clear hK K
                    refine no_ (some 5) ?_
                    exact norm_ (by first | (simp only [putAll, Act.put, List.setIfInBounds_toArray, List.set_cons_zero, List.set_cons_succ]; done) | (simp only [putAll, Act.put, List.setIfInBounds_toArray, List.set_cons_zero, List.set_cons_succ]; rfl)) (hJ0_4_9 (v1304, v1310, gb1315) _ ⟨hHeld, (rr_ HO1305), (rr_ HO1311), (kk_ BK1301), (kk_ BK1302), (kk_ BK1315), GW1315.out, GE1315.out, NB1301_1315.out, NB1315_1301.out, NB1302_1315.out, NB1315_1302.out, hB_⟩)
              · skip
                rintro ⟨v1304, v1307⟩ w11 ⟨hS_, h0_, h1_, h2_, h3_⟩
                have n0_ : Aside0 (Kd.R (Kd.int .i64) 3 w11 w.heap.size (fun _ => True) v1307 y1306) := ⟨h0_⟩
                have n1_ : Aside0 (w11.heap[gb1301]? = some (.cells #[.slice A0_0 l0_0.length c0_0, .slice A0_1 l0_1.length c0_1] 27 (0, 0))) := ⟨h1_⟩
                have n2_ : Aside0 (w11.heap[gb1302]? = some (.cells #[.slice none 0 0, .slice none 0 0] 27 (0, 0))) := ⟨h2_⟩
                have n3_ : Aside0 (Below w.heap.size w w11) := ⟨h3_⟩
                clear BK1301
                clear BK1302
                clear HB
                clear h0_ h1_ h2_ h3_
                have HO1308 := n0_
                have BK1301 := n1_
                have BK1302 := n2_
                have HB := n3_
                clear n0_ n1_ n2_ n3_
                have hHeld : w11.cell? ⟨gb1301, 0, none⟩ = some (.slice A0_0 l0_0.length c0_0) ∧ w11.cell? ⟨gb1301, 1, none⟩ = some (.slice A0_1 l0_1.length c0_1) := hS_
                refine norm_ (a' := ?_) ?_ ?_
                rotate_left
                · simp only [putAll, Act.put, List.setIfInBounds_toArray, List.set_cons_zero, List.set_cons_succ]
                  rfl
                refine two_ (i := 4) (j := 9) (Ni := some 11) (Nj := some 5) (bl_ 11 127) (bl_ 11 623) rfl rfl rfl rfl (two_of HT_.out (by kernel_rfl)) (by decide) (by decide) (fun K hK => ?_) (fun K hK => ?_)
                · skip
                  refine Kd.R_lit_step (Kd.int .i64) _ 3 ?hg (N := 11) ?hd (xs := ([] : List Int)) (inner := []) (ok := fun _ => True) (okp := fun _ => True) ?hr ?hp (fun _ hk => hk) trivial (Below.refl _ _) (Nat.le_refl _) (by simp) ?_; (case hd => rfl); (case hg => rfl); (case hr => first | (go_simp; done) | (go_simp; rfl)); (case hp => exact (Reps.none _ _))
                  intro v1310 w12 ho13 hb hg_ hnew_
                  clear hg_ hnew_
                  (first | rw [← Ny1309.out] at ho13 | (simp only [Int.reduceToNat] at ho13; rw [← Ny1309.out] at ho13))
                  have HO1311 := Aside0.mk (Kd.R_lower (Kd.R_new' ho13 (Kd.R_lt (rr_ HO1308))) (below_size hB_))
                  replace HO1308 := Aside0.mk (Kd.R_elder' (rr_ HO1308) (Kd.R_base ho13) hb)
                  replace BK1301 := bb_ BK1301 hb
                  replace BK1302 := bb_ BK1302 hb
                  replace HB := b1_ hb
                  clear hb ho13
                  refine hK.out _ _ ⟨cz0_ BK1301, cz1_ BK1301⟩ (fun hHeld => ?_)
                  clear hK K
                  refine no_ (some 11) ?_
                  exact norm_ (by first | (simp only [putAll, Act.put, List.setIfInBounds_toArray, List.set_cons_zero, List.set_cons_succ]; done) | (simp only [putAll, Act.put, List.setIfInBounds_toArray, List.set_cons_zero, List.set_cons_succ]; rfl)) (hJ0_3_4 (v1304, v1307, v1310) _ ⟨hHeld, (rw_ (Kd.R_mono HO1308.out (fun _ hk => hk.2))), (rw_ (Kd.R_mono HO1311.out (fun _ hk => hk.2))), (kk_ BK1301), (kk_ BK1302), hB_⟩)
                · skip
                  refine box_step ?hg (N := 5) ?hd (cs := #[.slice none 0 0, .slice none 0 0]) (t := 27) ?hr ?_; (case hd => rfl); (case hg => rfl); (case hr => first | (go_simp; done) | (go_simp; rfl))
                  intro gb1315 hg w12 hbox hb
                  replace HO1308 := rb_ HO1308 hb
                  have BK1315 := Aside0.mk hbox
                  have GW1315 := gw_ w hg
                  have GE1315 := GW1315
                  replace HB := b1_ hb
                  have NB1301_1315 := gN_ BK1301 hg
                  have NB1315_1301 := gP_ BK1301 hg
                  replace BK1301 := bb_ BK1301 hb
                  have NB1302_1315 := gN_ BK1302 hg
                  have NB1315_1302 := gP_ BK1302 hg
                  replace BK1302 := bb_ BK1302 hb
                  clear hb hbox hg
                  refine hK.out _ _ ⟨cz0_ BK1301, cz1_ BK1301⟩ (fun hHeld => ?_)
                  clear hK K
                  refine no_ (some 5) ?_
                  exact norm_ (by first | (simp only [putAll, Act.put, List.setIfInBounds_toArray, List.set_cons_zero, List.set_cons_succ]; done) | (simp only [putAll, Act.put, List.setIfInBounds_toArray, List.set_cons_zero, List.set_cons_succ]; rfl)) (hJ0_3_9 (v1304, v1307, gb1315) _ ⟨hHeld, (rr_ HO1308), (kk_ BK1301), (kk_ BK1302), (kk_ BK1315), GW1315.out, GE1315.out, NB1301_1315.out, NB1315_1301.out, NB1302_1315.out, NB1315_1302.out, hB_⟩)
            · skip
              rintro ⟨v1304, v1310, gb1315⟩ w13 ⟨hS_, h0_, h1_, h2_, h3_, h4_, h5_, h6_, h7_, h8_, h9_, h10_, h11_⟩
              have n0_ : Aside0 (Kd.R (Kd.int .i64) 3 w13 w.heap.size (fun k_ => some k_ ≠ (v1310 : Value).ownBlock) v1304 y1303) := ⟨h0_⟩
              have n1_ : Aside0 (Kd.R (Kd.int .i64) 3 w13 w.heap.size (fun k_ => some k_ ≠ (v1304 : Value).ownBlock) v1310 y1309) := ⟨h1_⟩
              have n2_ : Aside0 (w13.heap[gb1301]? = some (.cells #[.slice A0_0 l0_0.length c0_0, .slice A0_1 l0_1.length c0_1] 27 (0, 0))) := ⟨h2_⟩
              have n3_ : Aside0 (w13.heap[gb1302]? = some (.cells #[.slice none 0 0, .slice none 0 0] 27 (0, 0))) := ⟨h3_⟩
              have n4_ : Aside0 (w13.heap[gb1315]? = some (.cells #[.slice none 0 0, .slice none 0 0] 27 (0, 0))) := ⟨h4_⟩
              have n5_ : Aside0 (w.heap.size ≤ gb1315) := ⟨h5_⟩
              have n6_ : Aside0 (w.heap.size ≤ gb1315) := ⟨h6_⟩
              have n7_ : Aside0 (gb1301 ≠ gb1315) := ⟨h7_⟩
              have n8_ : Aside0 (gb1315 ≠ gb1301) := ⟨h8_⟩
              have n9_ : Aside0 (gb1302 ≠ gb1315) := ⟨h9_⟩
              have n10_ : Aside0 (gb1315 ≠ gb1302) := ⟨h10_⟩
              have n11_ : Aside0 (Below w.heap.size w w13) := ⟨h11_⟩
              clear BK1301
              clear BK1302
              clear HB
              clear h0_ h1_ h2_ h3_ h4_ h5_ h6_ h7_ h8_ h9_ h10_ h11_
              have HO1305 := n0_
              have HO1311 := n1_
              have BK1301 := n2_
              have BK1302 := n3_
              have BK1315 := n4_
              have GW1315 := n5_
              have GE1315 := n6_
              have NB1301_1315 := n7_
              have NB1315_1301 := n8_
              have NB1302_1315 := n9_
              have NB1315_1302 := n10_
              have HB := n11_
              clear n0_ n1_ n2_ n3_ n4_ n5_ n6_ n7_ n8_ n9_ n10_ n11_
              have hHeld : w13.cell? ⟨gb1301, 0, none⟩ = some (.slice A0_0 l0_0.length c0_0) ∧ w13.cell? ⟨gb1301, 1, none⟩ = some (.slice A0_1 l0_1.length c0_1) := hS_
              refine norm_ (a' := ?_) ?_ ?_
              rotate_left
              · simp only [putAll, Act.put, List.setIfInBounds_toArray, List.set_cons_zero, List.set_cons_succ]
                rfl
              refine on_ 3 (some 10) (bl_ 11 639) HT_ (fun K hK => ?_)
              refine Kd.R_append_rows_step (Kd.int .i64) (w0 := w) w.heap.size (by rfl) (.tmp 7) (.tmp 9) 22 3 (.int .i64 0) 8 rfl Try.underlying22 info3 rfl (by decide) (by omega) v1304 y1303 l0_0 _ _ _ (fun k_ => some k_ ≠ (v1310 : Value).ownBlock) (fun _ => False) rfl rfl ?aO ?aR (fun _ _ h => h) (fun _ h => h.elim) ?aF ?aB ?aS ?aL ?_
              (case aR => exact cb_ HR0_0)
              (case aB => exact hB_)
              (case aF => exact (fun k_ hk => Kd.fresh' (Kd.R_lt (rr_ HO1311)) k_ hk))
              (case aO => exact (rr_ HO1305))
              (case aS => exact (below_size hB_))
              (case aL => have := LMc3.out; omega)
              intro v1307 w14 ho hb hg hat
              rw [← Ny1306.out] at ho
              replace BK1301 := Aside0.mk (blk_grown (kk_ BK1301) hg (Kd.R_ne HO1305.out BK1301.out (by decide)))
              replace BK1302 := Aside0.mk (blk_grown (kk_ BK1302) hg (Kd.R_ne HO1305.out BK1302.out (by decide)))
              replace HO1311 := Aside0.mk (Kd.R_after (ok := (fun _ => True)) (rw_ (Kd.R_mono HO1311.out (fun _ hk => ⟨trivial, hk⟩))) hg hat)
              replace BK1315 := Aside0.mk (blk_grown (kk_ BK1315) hg (Kd.R_ne HO1305.out BK1315.out (by decide)))
              replace HB := Aside0.mk hb
              have HO1308 := Aside0.mk ho
              clear HO1305
              clear ho hb hg hat
              refine hK.out _ _ ⟨cz0_ BK1301, cz1_ BK1301⟩ (fun hHeld => ?_)
              clear hK K
              refine no_ (some 10) ?_
              exact norm_ (by first | (simp only [putAll, Act.put, List.setIfInBounds_toArray, List.set_cons_zero, List.set_cons_succ]; done) | (simp only [putAll, Act.put, List.setIfInBounds_toArray, List.set_cons_zero, List.set_cons_succ]; rfl)) (hJ0_3_4_9 (v1304, v1307, v1310, gb1315) _ ⟨hHeld, (rr_ HO1308), (rw_ (Kd.R_mono HO1311.out (fun _ hk => hk.2))), (kk_ BK1301), (kk_ BK1302), (kk_ BK1315), GW1315.out, GE1315.out, NB1301_1315.out, NB1315_1301.out, NB1302_1315.out, NB1315_1302.out, hB_⟩)
          · skip
            rintro ⟨v1304, v1307, gb1315⟩ w12 ⟨hS_, h0_, h1_, h2_, h3_, h4_, h5_, h6_, h7_, h8_, h9_, h10_⟩
            have n0_ : Aside0 (Kd.R (Kd.int .i64) 3 w12 w.heap.size (fun _ => True) v1307 y1306) := ⟨h0_⟩
            have n1_ : Aside0 (w12.heap[gb1301]? = some (.cells #[.slice A0_0 l0_0.length c0_0, .slice A0_1 l0_1.length c0_1] 27 (0, 0))) := ⟨h1_⟩
            have n2_ : Aside0 (w12.heap[gb1302]? = some (.cells #[.slice none 0 0, .slice none 0 0] 27 (0, 0))) := ⟨h2_⟩
            have n3_ : Aside0 (w12.heap[gb1315]? = some (.cells #[.slice none 0 0, .slice none 0 0] 27 (0, 0))) := ⟨h3_⟩
            have n4_ : Aside0 (w.heap.size ≤ gb1315) := ⟨h4_⟩
            have n5_ : Aside0 (w.heap.size ≤ gb1315) := ⟨h5_⟩
            have n6_ : Aside0 (gb1301 ≠ gb1315) := ⟨h6_⟩
            have n7_ : Aside0 (gb1315 ≠ gb1301) := ⟨h7_⟩
            have n8_ : Aside0 (gb1302 ≠ gb1315) := ⟨h8_⟩
            have n9_ : Aside0 (gb1315 ≠ gb1302) := ⟨h9_⟩
            have n10_ : Aside0 (Below w.heap.size w w12) := ⟨h10_⟩
            clear BK1301
            clear BK1302
            clear HB
            clear h0_ h1_ h2_ h3_ h4_ h5_ h6_ h7_ h8_ h9_ h10_
            have HO1308 := n0_
            have BK1301 := n1_
            have BK1302 := n2_
            have BK1315 := n3_
            have GW1315 := n4_
            have GE1315 := n5_
            have NB1301_1315 := n6_
            have NB1315_1301 := n7_
            have NB1302_1315 := n8_
            have NB1315_1302 := n9_
            have HB := n10_
            clear n0_ n1_ n2_ n3_ n4_ n5_ n6_ n7_ n8_ n9_ n10_
            have hHeld : w12.cell? ⟨gb1301, 0, none⟩ = some (.slice A0_0 l0_0.length c0_0) ∧ w12.cell? ⟨gb1301, 1, none⟩ = some (.slice A0_1 l0_1.length c0_1) := hS_
            refine norm_ (a' := ?_) ?_ ?_
            rotate_left
            · simp only [putAll, Act.put, List.setIfInBounds_toArray, List.set_cons_zero, List.set_cons_succ]
              rfl
            refine on_ 4 (some 11) (bl_ 11 639) HT_ (fun K hK => ?_)
            refine Kd.R_lit_step (Kd.int .i64) _ 3 ?hg (N := 11) ?hd (xs := ([] : List Int)) (inner := []) (ok := fun _ => True) (okp := fun _ => True) ?hr ?hp (fun _ hk => hk) trivial (Below.refl _ _) (Nat.le_refl _) (by simp) ?_; (case hd => rfl); (case hg => rfl); (case hr => first | (go_simp; done) | (go_simp; rfl)); (case hp => exact (Reps.none _ _))
            intro v1310 w13 ho14 hb hg_ hnew_
            clear hg_ hnew_
            (first | rw [← Ny1309.out] at ho14 | (simp only [Int.reduceToNat] at ho14; rw [← Ny1309.out] at ho14))
            have HO1311 := Aside0.mk (Kd.R_lower (Kd.R_new' ho14 (Kd.R_lt (rr_ HO1308))) (below_size hB_))
            replace HO1308 := Aside0.mk (Kd.R_elder' (rr_ HO1308) (Kd.R_base ho14) hb)
            replace BK1301 := bb_ BK1301 hb
            replace BK1302 := bb_ BK1302 hb
            replace BK1315 := bb_ BK1315 hb
            replace HB := b1_ hb
            clear hb ho14
            refine hK.out _ _ ⟨cz0_ BK1301, cz1_ BK1301⟩ (fun hHeld => ?_)
            clear hK K
            refine no_ (some 11) ?_
            exact norm_ (by first | (simp only [putAll, Act.put, List.setIfInBounds_toArray, List.set_cons_zero, List.set_cons_succ]; done) | (simp only [putAll, Act.put, List.setIfInBounds_toArray, List.set_cons_zero, List.set_cons_succ]; rfl)) (hJ0_3_4_9 (v1304, v1307, v1310, gb1315) _ ⟨hHeld, (rw_ (Kd.R_mono HO1308.out (fun _ hk => hk.2))), (rw_ (Kd.R_mono HO1311.out (fun _ hk => hk.2))), (kk_ BK1301), (kk_ BK1302), (kk_ BK1315), GW1315.out, GE1315.out, NB1301_1315.out, NB1315_1301.out, NB1302_1315.out, NB1315_1302.out, hB_⟩)
        · skip
          rintro ⟨v1304, v1307, v1310⟩ w13 ⟨hS_, h0_, h1_, h2_, h3_, h4_⟩
          have n0_ : Aside0 (Kd.R (Kd.int .i64) 3 w13 w.heap.size (fun k_ => some k_ ≠ (v1310 : Value).ownBlock) v1307 y1306) := ⟨h0_⟩
          have n1_ : Aside0 (Kd.R (Kd.int .i64) 3 w13 w.heap.size (fun k_ => some k_ ≠ (v1307 : Value).ownBlock) v1310 y1309) := ⟨h1_⟩
          have n2_ : Aside0 (w13.heap[gb1301]? = some (.cells #[.slice A0_0 l0_0.length c0_0, .slice A0_1 l0_1.length c0_1] 27 (0, 0))) := ⟨h2_⟩
          have n3_ : Aside0 (w13.heap[gb1302]? = some (.cells #[.slice none 0 0, .slice none 0 0] 27 (0, 0))) := ⟨h3_⟩
          have n4_ : Aside0 (Below w.heap.size w w13) := ⟨h4_⟩
          clear BK1301
          clear BK1302
          clear HB
          clear h0_ h1_ h2_ h3_ h4_
          have HO1308 := n0_
          have HO1311 := n1_
          have BK1301 := n2_
          have BK1302 := n3_
          have HB := n4_
          clear n0_ n1_ n2_ n3_ n4_
          have hHeld : w13.cell? ⟨gb1301, 0, none⟩ = some (.slice A0_0 l0_0.length c0_0) ∧ w13.cell? ⟨gb1301, 1, none⟩ = some (.slice A0_1 l0_1.length c0_1) := hS_
          refine norm_ (a' := ?_) ?_ ?_
          rotate_left
          · simp only [putAll, Act.put, List.setIfInBounds_toArray, List.set_cons_zero, List.set_cons_succ]
            rfl
          refine two_ (i := 7) (j := 9) (Ni := some 14) (Nj := some 5) (bl_ 11 255) (bl_ 11 639) rfl rfl rfl rfl (two_of HT_.out (by kernel_rfl)) (by decide) (by decide) (fun K hK => ?_) (fun K hK => ?_)
          · skip
            refine Kd.R_append_rows_step (Kd.int .i64) (w0 := w) w.heap.size (by rfl) (.tmp 11) (.tmp 13) 22 3 (.int .i64 0) 8 rfl Try.underlying22 info3 rfl (by decide) (by omega) v1310 y1309 l0_1 _ _ _ (fun k_ => some k_ ≠ (v1307 : Value).ownBlock) (fun _ => False) rfl rfl ?aO ?aR (fun _ _ h => h) (fun _ h => h.elim) ?aF ?aB ?aS ?aL ?_
            (case aR => exact cb_ HR0_1)
            (case aB => exact hB_)
            (case aF => exact (fun k_ hk => Kd.fresh' (Kd.R_lt (rr_ HO1308)) k_ hk))
            (case aO => exact (rr_ HO1311))
            (case aS => exact (below_size hB_))
            (case aL => have := LMc4.out; omega)
            intro v1313 w14 ho hb hg hat
            rw [← Ny1312.out] at ho
            replace BK1301 := Aside0.mk (blk_grown (kk_ BK1301) hg (Kd.R_ne HO1311.out BK1301.out (by decide)))
            replace BK1302 := Aside0.mk (blk_grown (kk_ BK1302) hg (Kd.R_ne HO1311.out BK1302.out (by decide)))
            replace HO1308 := Aside0.mk (Kd.R_after (ok := (fun _ => True)) (rw_ (Kd.R_mono HO1308.out (fun _ hk => ⟨trivial, hk⟩))) hg hat)
            replace HB := Aside0.mk hb
            have HO1314 := Aside0.mk ho
            clear HO1311
            clear ho hb hg hat
            obtain ⟨Ao15, co15, eo15⟩ := Kd.R_slice HO1314.out
            (first | subst eo15 | (injection eo15 with f1_ f2_ f3_; have f4_ := f1_.symm; have f5_ := f3_.symm; clear f1_ f2_ f3_; subst f4_; subst f5_))
            obtain ⟨Ao16, co16, eo16⟩ := Kd.R_slice HO1308.out
            (first | subst eo16 | (injection eo16 with f1_ f2_ f3_; have f4_ := f1_.symm; have f5_ := f3_.symm; clear f1_ f2_ f3_; subst f4_; subst f5_))
            refine hK.out _ _ ⟨cz0_ BK1301, cz1_ BK1301⟩ (fun hHeld => ?_)
            clear hK K
            refine no_ (some 14) ?_
            refine pu_ 8 (some 15) (bl_ 11 511) HT_ ?_
            exact norm_ (by first | (simp only [putAll, Act.put, List.setIfInBounds_toArray, List.set_cons_zero, List.set_cons_succ]; done) | (simp only [putAll, Act.put, List.setIfInBounds_toArray, List.set_cons_zero, List.set_cons_succ]; rfl)) (hJ0_3_4_7 (v1304, .slice Ao16 y1306.length co16, v1310, .slice Ao15 y1312.length co15) _ ⟨hHeld, (rw_ (Kd.R_mono HO1308.out (fun _ hk => hk.2))), (rr_ HO1314), (kk_ BK1301), (kk_ BK1302), hB_⟩)
          · skip
            refine box_step ?hg (N := 5) ?hd (cs := #[.slice none 0 0, .slice none 0 0]) (t := 27) ?hr ?_; (case hd => rfl); (case hg => rfl); (case hr => first | (go_simp; done) | (go_simp; rfl))
            intro gb1315 hg w14 hbox hb
            replace HO1308 := rb_ HO1308 hb
            replace HO1311 := rb_ HO1311 hb
            have BK1315 := Aside0.mk hbox
            have GW1315 := gw_ w hg
            have GE1315 := GW1315
            replace HB := b1_ hb
            have NB1301_1315 := gN_ BK1301 hg
            have NB1315_1301 := gP_ BK1301 hg
            replace BK1301 := bb_ BK1301 hb
            have NB1302_1315 := gN_ BK1302 hg
            have NB1315_1302 := gP_ BK1302 hg
            replace BK1302 := bb_ BK1302 hb
            clear hb hbox hg
            refine hK.out _ _ ⟨cz0_ BK1301, cz1_ BK1301⟩ (fun hHeld => ?_)
            clear hK K
            refine no_ (some 5) ?_
            exact norm_ (by first | (simp only [putAll, Act.put, List.setIfInBounds_toArray, List.set_cons_zero, List.set_cons_succ]; done) | (simp only [putAll, Act.put, List.setIfInBounds_toArray, List.set_cons_zero, List.set_cons_succ]; rfl)) (hJ0_3_4_9 (v1304, v1307, v1310, gb1315) _ ⟨hHeld, (rr_ HO1308), (rr_ HO1311), (kk_ BK1301), (kk_ BK1302), (kk_ BK1315), GW1315.out, GE1315.out, NB1301_1315.out, NB1315_1301.out, NB1302_1315.out, NB1315_1302.out, hB_⟩)
      · skip
        rintro ⟨v1304, v1307, v1310, gb1315⟩ w14 ⟨hS_, h0_, h1_, h2_, h3_, h4_, h5_, h6_, h7_, h8_, h9_, h10_, h11_⟩
        have n0_ : Aside0 (Kd.R (Kd.int .i64) 3 w14 w.heap.size (fun k_ => some k_ ≠ (v1310 : Value).ownBlock) v1307 y1306) := ⟨h0_⟩
        have n1_ : Aside0 (Kd.R (Kd.int .i64) 3 w14 w.heap.size (fun k_ => some k_ ≠ (v1307 : Value).ownBlock) v1310 y1309) := ⟨h1_⟩
        have n2_ : Aside0 (w14.heap[gb1301]? = some (.cells #[.slice A0_0 l0_0.length c0_0, .slice A0_1 l0_1.length c0_1] 27 (0, 0))) := ⟨h2_⟩
        have n3_ : Aside0 (w14.heap[gb1302]? = some (.cells #[.slice none 0 0, .slice none 0 0] 27 (0, 0))) := ⟨h3_⟩
        have n4_ : Aside0 (w14.heap[gb1315]? = some (.cells #[.slice none 0 0, .slice none 0 0] 27 (0, 0))) := ⟨h4_⟩
        have n5_ : Aside0 (w.heap.size ≤ gb1315) := ⟨h5_⟩
        have n6_ : Aside0 (w.heap.size ≤ gb1315) := ⟨h6_⟩
        have n7_ : Aside0 (gb1301 ≠ gb1315) := ⟨h7_⟩
        have n8_ : Aside0 (gb1315 ≠ gb1301) := ⟨h8_⟩
        have n9_ : Aside0 (gb1302 ≠ gb1315) := ⟨h9_⟩
        have n10_ : Aside0 (gb1315 ≠ gb1302) := ⟨h10_⟩
        have n11_ : Aside0 (Below w.heap.size w w14) := ⟨h11_⟩
        clear BK1301
        clear BK1302
        clear HB
        clear h0_ h1_ h2_ h3_ h4_ h5_ h6_ h7_ h8_ h9_ h10_ h11_
        have HO1308 := n0_
        have HO1311 := n1_
        have BK1301 := n2_
        have BK1302 := n3_
        have BK1315 := n4_
        have GW1315 := n5_
        have GE1315 := n6_
        have NB1301_1315 := n7_
        have NB1315_1301 := n8_
        have NB1302_1315 := n9_
        have NB1315_1302 := n10_
        have HB := n11_
        clear n0_ n1_ n2_ n3_ n4_ n5_ n6_ n7_ n8_ n9_ n10_ n11_
        have hHeld : w14.cell? ⟨gb1301, 0, none⟩ = some (.slice A0_0 l0_0.length c0_0) ∧ w14.cell? ⟨gb1301, 1, none⟩ = some (.slice A0_1 l0_1.length c0_1) := hS_
        refine norm_ (a' := ?_) ?_ ?_
        rotate_left
        · simp only [putAll, Act.put, List.setIfInBounds_toArray, List.set_cons_zero, List.set_cons_succ]
          rfl
        refine on_ 7 (some 14) (bl_ 11 767) HT_ (fun K hK => ?_)
        refine Kd.R_append_rows_step (Kd.int .i64) (w0 := w) w.heap.size (by rfl) (.tmp 11) (.tmp 13) 22 3 (.int .i64 0) 8 rfl Try.underlying22 info3 rfl (by decide) (by omega) v1310 y1309 l0_1 _ _ _ (fun k_ => some k_ ≠ (v1307 : Value).ownBlock) (fun _ => False) rfl rfl ?aO ?aR (fun _ _ h => h) (fun _ h => h.elim) ?aF ?aB ?aS ?aL ?_
        (case aR => exact cb_ HR0_1)
        (case aB => exact hB_)
        (case aF => exact (fun k_ hk => Kd.fresh' (Kd.R_lt (rr_ HO1308)) k_ hk))
        (case aO => exact (rr_ HO1311))
        (case aS => exact (below_size hB_))
        (case aL => have := LMc4.out; omega)
        intro v1313 w15 ho hb hg hat
        rw [← Ny1312.out] at ho
        replace BK1301 := Aside0.mk (blk_grown (kk_ BK1301) hg (Kd.R_ne HO1311.out BK1301.out (by decide)))
        replace BK1302 := Aside0.mk (blk_grown (kk_ BK1302) hg (Kd.R_ne HO1311.out BK1302.out (by decide)))
        replace HO1308 := Aside0.mk (Kd.R_after (ok := (fun _ => True)) (rw_ (Kd.R_mono HO1308.out (fun _ hk => ⟨trivial, hk⟩))) hg hat)
        replace BK1315 := Aside0.mk (blk_grown (kk_ BK1315) hg (Kd.R_ne HO1311.out BK1315.out (by decide)))
        replace HB := Aside0.mk hb
        have HO1314 := Aside0.mk ho
        clear HO1311
        clear ho hb hg hat
        obtain ⟨Ao16, co16, eo16⟩ := Kd.R_slice HO1314.out
        (first | subst eo16 | (injection eo16 with f1_ f2_ f3_; have f4_ := f1_.symm; have f5_ := f3_.symm; clear f1_ f2_ f3_; subst f4_; subst f5_))
        obtain ⟨Ao17, co17, eo17⟩ := Kd.R_slice HO1308.out
        (first | subst eo17 | (injection eo17 with f1_ f2_ f3_; have f4_ := f1_.symm; have f5_ := f3_.symm; clear f1_ f2_ f3_; subst f4_; subst f5_))
        refine hK.out _ _ ⟨cz0_ BK1301, cz1_ BK1301⟩ (fun hHeld => ?_)
        clear hK K
        refine no_ (some 14) ?_
        refine pu_ 8 (some 15) (bl_ 11 1023) HT_ ?_
        exact norm_ (by first | (simp only [putAll, Act.put, List.setIfInBounds_toArray, List.set_cons_zero, List.set_cons_succ]; done) | (simp only [putAll, Act.put, List.setIfInBounds_toArray, List.set_cons_zero, List.set_cons_succ]; rfl)) (hJ0_3_4_7_9 (v1304, .slice Ao17 y1306.length co17, v1310, .slice Ao16 y1312.length co16, gb1315) _ ⟨hHeld, (rw_ (Kd.R_mono HO1308.out (fun _ hk => hk.2))), (rr_ HO1314), (kk_ BK1301), (kk_ BK1302), (kk_ BK1315), GW1315.out, GE1315.out, NB1301_1315.out, NB1315_1301.out, NB1302_1315.out, NB1315_1302.out, hB_⟩)
    · skip
      rintro ⟨v1304, v1307, v1310, v1313⟩ w16 ⟨hS_, h0_, h1_, h2_, h3_, h4_⟩
      have n0_ : Aside0 (Kd.R (Kd.int .i64) 3 w16 w.heap.size (fun k_ => some k_ ≠ (v1313 : Value).ownBlock) v1307 y1306) := ⟨h0_⟩
      have n1_ : Aside0 (Kd.R (Kd.int .i64) 3 w16 w.heap.size (fun k_ => some k_ ≠ (v1307 : Value).ownBlock) v1313 y1312) := ⟨h1_⟩
      have n2_ : Aside0 (w16.heap[gb1301]? = some (.cells #[.slice A0_0 l0_0.length c0_0, .slice A0_1 l0_1.length c0_1] 27 (0, 0))) := ⟨h2_⟩
      have n3_ : Aside0 (w16.heap[gb1302]? = some (.cells #[.slice none 0 0, .slice none 0 0] 27 (0, 0))) := ⟨h3_⟩
      have n4_ : Aside0 (Below w.heap.size w w16) := ⟨h4_⟩
      clear BK1301
      clear BK1302
      clear HB
      clear h0_ h1_ h2_ h3_ h4_
      have HO1308 := n0_
      have HO1314 := n1_
      have BK1301 := n2_
      have BK1302 := n3_
      have HB := n4_
      clear n0_ n1_ n2_ n3_ n4_
      have hHeld : w16.cell? ⟨gb1301, 0, none⟩ = some (.slice A0_0 l0_0.length c0_0) ∧ w16.cell? ⟨gb1301, 1, none⟩ = some (.slice A0_1 l0_1.length c0_1) := hS_
      obtain ⟨Ao17, co17, eo17⟩ := Kd.R_slice HO1314.out
      (first | subst eo17 | (injection eo17 with f1_ f2_ f3_; have f4_ := f1_.symm; have f5_ := f3_.symm; clear f1_ f2_ f3_; subst f4_; subst f5_))
      obtain ⟨Ao18, co18, eo18⟩ := Kd.R_slice HO1308.out
      (first | subst eo18 | (injection eo18 with f1_ f2_ f3_; have f4_ := f1_.symm; have f5_ := f3_.symm; clear f1_ f2_ f3_; subst f4_; subst f5_))
      refine norm_ (a' := ?_) ?_ ?_
      rotate_left
      · simp only [putAll, Act.put, List.setIfInBounds_toArray, List.set_cons_zero, List.set_cons_succ]
        rfl
      refine on_ 9 (some 5) (bl_ 11 1023) HT_ (fun K hK => ?_)
      refine box_step ?hg (N := 5) ?hd (cs := #[.slice none 0 0, .slice none 0 0]) (t := 27) ?hr ?_; (case hd => rfl); (case hg => rfl); (case hr => first | (go_simp; done) | (go_simp; rfl))
      intro gb1315 hg w19 hbox hb
      replace HO1308 := rb_ HO1308 hb
      replace HO1314 := rb_ HO1314 hb
      have BK1315 := Aside0.mk hbox
      have GW1315 := gw_ w hg
      have GE1315 := GW1315
      replace HB := b1_ hb
      have NB1301_1315 := gN_ BK1301 hg
      have NB1315_1301 := gP_ BK1301 hg
      replace BK1301 := bb_ BK1301 hb
      have NB1302_1315 := gN_ BK1302 hg
      have NB1315_1302 := gP_ BK1302 hg
      replace BK1302 := bb_ BK1302 hb
      clear hb hbox hg
      refine hK.out _ _ ⟨cz0_ BK1301, cz1_ BK1301⟩ (fun hHeld => ?_)
      clear hK K
      refine no_ (some 5) ?_
      exact norm_ (by first | (simp only [putAll, Act.put, List.setIfInBounds_toArray, List.set_cons_zero, List.set_cons_succ]; done) | (simp only [putAll, Act.put, List.setIfInBounds_toArray, List.set_cons_zero, List.set_cons_succ]; rfl)) (hJ0_3_4_7_9 (v1304, .slice Ao18 y1306.length co18, v1310, .slice Ao17 y1312.length co17, gb1315) _ ⟨hHeld, (rr_ HO1308), (rr_ HO1314), (kk_ BK1301), (kk_ BK1302), (kk_ BK1315), GW1315.out, GE1315.out, NB1301_1315.out, NB1315_1301.out, NB1302_1315.out, NB1315_1302.out, hB_⟩)
  rintro ⟨v1304, v1307, v1310, v1313, gb1315⟩ w17 ⟨hS_, h0_, h1_, h2_, h3_, h4_, h5_, h6_, h7_, h8_, h9_, h10_, h11_⟩
  have n0_ : Aside0 (Kd.R (Kd.int .i64) 3 w17 w.heap.size (fun k_ => some k_ ≠ (v1313 : Value).ownBlock) v1307 y1306) := ⟨h0_⟩
  have n1_ : Aside0 (Kd.R (Kd.int .i64) 3 w17 w.heap.size (fun k_ => some k_ ≠ (v1307 : Value).ownBlock) v1313 y1312) := ⟨h1_⟩
  have n2_ : Aside0 (w17.heap[gb1301]? = some (.cells #[.slice A0_0 l0_0.length c0_0, .slice A0_1 l0_1.length c0_1] 27 (0, 0))) := ⟨h2_⟩
  have n3_ : Aside0 (w17.heap[gb1302]? = some (.cells #[.slice none 0 0, .slice none 0 0] 27 (0, 0))) := ⟨h3_⟩
  have n4_ : Aside0 (w17.heap[gb1315]? = some (.cells #[.slice none 0 0, .slice none 0 0] 27 (0, 0))) := ⟨h4_⟩
  have n5_ : Aside0 (w.heap.size ≤ gb1315) := ⟨h5_⟩
  have n6_ : Aside0 (w.heap.size ≤ gb1315) := ⟨h6_⟩
  have n7_ : Aside0 (gb1301 ≠ gb1315) := ⟨h7_⟩
  have n8_ : Aside0 (gb1315 ≠ gb1301) := ⟨h8_⟩
  have n9_ : Aside0 (gb1302 ≠ gb1315) := ⟨h9_⟩
  have n10_ : Aside0 (gb1315 ≠ gb1302) := ⟨h10_⟩
  have n11_ : Aside0 (Below w.heap.size w w17) := ⟨h11_⟩
  clear BK1301
  clear BK1302
  clear HB
  clear h0_ h1_ h2_ h3_ h4_ h5_ h6_ h7_ h8_ h9_ h10_ h11_
  have HO1308 := n0_
  have HO1314 := n1_
  have BK1301 := n2_
  have BK1302 := n3_
  have BK1315 := n4_
  have GW1315 := n5_
  have GE1315 := n6_
  have NB1301_1315 := n7_
  have NB1315_1301 := n8_
  have NB1302_1315 := n9_
  have NB1315_1302 := n10_
  have HB := n11_
  clear n0_ n1_ n2_ n3_ n4_ n5_ n6_ n7_ n8_ n9_ n10_ n11_
  have hHeld : w17.cell? ⟨gb1301, 0, none⟩ = some (.slice A0_0 l0_0.length c0_0) ∧ w17.cell? ⟨gb1301, 1, none⟩ = some (.slice A0_1 l0_1.length c0_1) := hS_
  obtain ⟨Ao18, co18, eo18⟩ := Kd.R_slice HO1314.out
  (first | subst eo18 | (injection eo18 with f1_ f2_ f3_; have f4_ := f1_.symm; have f5_ := f3_.symm; clear f1_ f2_ f3_; subst f4_; subst f5_))
  obtain ⟨Ao19, co19, eo19⟩ := Kd.R_slice HO1308.out
  (first | subst eo19 | (injection eo19 with f1_ f2_ f3_; have f4_ := f1_.symm; have f5_ := f3_.symm; clear f1_ f2_ f3_; subst f4_; subst f5_))
  refine norm_ (a' := ?_) ?_ ?_
  rotate_left
  · simp only [putAll, Act.put, List.setIfInBounds_toArray, List.set_cons_zero, List.set_cons_succ]
    rfl
  refine on_ 10 (none) (bl_ 11 2047) HT_ (fun K hK => ?_)
  have hs20 : w17.cell? ⟨gb1315, 0, none⟩ = some (.slice none 0 0) := cz0_ BK1315
  have hfs20 := blk_frozen BK1315.out 0
  have hns20_0 := NB1301_1315.out
  have hns20_1 := NB1302_1315.out
  have hms20_0 := NB1315_1301.out
  have hms20_1 := NB1315_1302.out
  have hs21 : w17.cell? ⟨gb1315, 1, none⟩ = some (.slice none 0 0) := cz1_ BK1315
  have hfs21 := blk_frozen BK1315.out 1
  have hns21_0 := NB1301_1315.out
  have hns21_1 := NB1302_1315.out
  have hms21_0 := NB1315_1301.out
  have hms21_1 := NB1315_1302.out
  refine skip_ (w1 := ?_) (by rfl) rfl ?_ ?_
  rotate_left
  · go_simp
    rfl
  refine hK.out _ _ ⟨((cell_far (p := ⟨gb1315, _, none⟩) NB1301_1315.out _).trans (((cell_far (p := ⟨gb1315, _, none⟩) NB1301_1315.out _).trans (hHeld.1)))), ((cell_far (p := ⟨gb1315, _, none⟩) NB1301_1315.out _).trans (((cell_far (p := ⟨gb1315, _, none⟩) NB1301_1315.out _).trans (hHeld.2))))⟩ (fun hHeld => ?_)
  clear hK K
  refine done_ (done_of HT_.out (by kernel_rfl)) ?_
  try go_wp2
  go_loopg [6] k (fun kq v6 w' => ∃ (x6_1 : Int) (x1316000_1 : List Int) (x1316001_1 : List Int) (u1316000 : Value) (u1316001 : Value), v6 = .int .i64 x6_1 ∧ Aside0 (spec_l05Run.l0 kq a1 x6_1 x1316000_1 x1316001_1 = some (r1, r2)) ∧ Aside0 (kq ≤ k) ∧ Aside0 (Kd.R (Kd.int .i64) 3 w' w.heap.size (fun k_ => some k_ ≠ (u1316001 : Value).ownBlock) u1316000 x1316000_1) ∧ Aside0 (Kd.R (Kd.int .i64) 3 w' w.heap.size (fun k_ => some k_ ≠ (u1316000 : Value).ownBlock) u1316001 x1316001_1) ∧ Aside0 (w'.heap[gb1301]? = some (.cells #[(.slice A0_0 l0_0.length c0_0), (.slice A0_1 l0_1.length c0_1)] 27 (0, 0))) ∧ Aside0 (w'.heap[gb1302]? = some (.cells #[(.slice none 0 0), (.slice none 0 0)] 27 (0, 0))) ∧ Aside0 (w'.heap[gb1315]? = some (.cells #[u1316000, u1316001] 27 (0, 0))) ∧ Aside0 (Below w.heap.size w w'))
  case atStart => exact ⟨(0), (y1306), (y1312), (.slice Ao19 y1306.length co19), (.slice Ao18 y1312.length co18), qc_, H', ⟨Nat.le_refl _⟩, ⟨(rw_ (fa_ HO1308 BK1315))⟩, ⟨(rw_ (fa_ HO1314 BK1315))⟩, ⟨by (with_reducible repeat (first | refine blk_drewN ?_ _ | refine blk_drew ?_ | refine blk_alloc ?_ _)); refine blk_far ?_ NB1301_1315.out _; (with_reducible repeat (first | refine blk_drewN ?_ _ | refine blk_drew ?_ | refine blk_alloc ?_ _)); refine blk_far ?_ NB1301_1315.out _; (with_reducible repeat (first | refine blk_drewN ?_ _ | refine blk_drew ?_ | refine blk_alloc ?_ _)); exact BK1301.out⟩, ⟨by (with_reducible repeat (first | refine blk_drewN ?_ _ | refine blk_drew ?_ | refine blk_alloc ?_ _)); refine blk_far ?_ NB1302_1315.out _; (with_reducible repeat (first | refine blk_drewN ?_ _ | refine blk_drew ?_ | refine blk_alloc ?_ _)); refine blk_far ?_ NB1302_1315.out _; (with_reducible repeat (first | refine blk_drewN ?_ _ | refine blk_drew ?_ | refine blk_alloc ?_ _)); exact BK1302.out⟩, ⟨qp_⟩, ⟨hB_⟩⟩
  case round =>
    clear H'
    obtain ⟨x6_1, x1316000_1, x1316001_1, u1316000, u1316001, rfl, HA, HK1, HO_1316000, HO_1316001, BK1301, BK1302, BK1315, HB⟩ := hrel
    cases gk with
    | zero => exact absurd HA.out (by simp [spec_l05Run.l0])
    | succ k1 =>
      have H := HA.out
      clear HA
      simp only [spec_l05Run.l0] at H
      by_cases c22 : x6_1 < (a1.size : Int)
      · rw [if_pos c22] at H
        have c22b0 := decide_eq_true c22
        clear c22
        have c23 := cp_ H
        replace H := ca_ H
        have c23b0 := decide_eq_true c23
        clear c23
        obtain ⟨⟨t1316, t1319⟩, A25, H⟩ := bi_ H
        try dsimp only at H
        have H' := Aside0.mk H
        clear H
        try go_wp2
        replace HO_1316000 := Aside0.mk (Kd.R_drew HO_1316000.out)
        replace HO_1316001 := Aside0.mk (Kd.R_drew HO_1316001.out)
        replace BK1301 := Aside0.mk (blk_drew BK1301.out)
        replace BK1302 := Aside0.mk (blk_drew BK1302.out)
        replace BK1315 := Aside0.mk (blk_drew BK1315.out)
        replace HB := Aside0.mk (below_drew1 HB.out)
        have p24 : 0 ≤ (x6_1 : Int) := of_decide_eq_true qe_
        have q24 : x6_1 < (a1.size : Int) := of_decide_eq_true qe_
        have hx24 := bt_at a1 x6_1
        replace p24 := eq_true p24
        replace q24 := eq_true q24
        obtain ⟨Ao27, co27, eo27⟩ := Kd.R_slice HO_1316000.out
        (first | subst eo27 | (injection eo27 with f1_ f2_ f3_; have f4_ := f1_.symm; have f5_ := f3_.symm; clear f1_ f2_ f3_; subst f4_; subst f5_))
        obtain ⟨Ao28, co28, eo28⟩ := Kd.R_slice HO_1316001.out
        (first | subst eo28 | (injection eo28 with f1_ f2_ f3_; have f4_ := f1_.symm; have f5_ := f3_.symm; clear f1_ f2_ f3_; subst f4_; subst f5_))
        refine start_ (n := 6) (S := fun w' => w'.cell? ⟨gb1315, 0, none⟩ = some (.slice Ao27 x1316000_1.length co27) ∧ w'.cell? ⟨gb1315, 1, none⟩ = some (.slice Ao28 x1316001_1.length co28)) (ds := [5]) (bl_ 6 0) (by kernel_rfl) rfl (by kernel_rfl) ⟨cz0_ BK1315, cz1_ BK1315⟩ (fun hHeld => ?_)
        generalize wr.drew = w26 at HO_1316000 HO_1316001 BK1301 BK1302 BK1315 HB hHeld ⊢
        refine pure_ (i := 1) (N := some 23) (v := ?_) (a' := ?_) (bl_ 6 2) rfl rfl (by kernel_rfl) (fun _ _ _ h => h) (Or.inl ⟨by rfl, ?_⟩) ?_ ?_
        rotate_left
        · intro w'
          go_simp
          with_reducible rfl
        rotate_left
        · simp only [Act.put, List.setIfInBounds_toArray, List.set_cons_zero, List.set_cons_succ, i64_w, i32_w]
          rfl
        refine pure_ (i := 2) (N := some 24) (v := ?_) (a' := ?_) (bl_ 6 6) rfl rfl (by kernel_rfl) (fun _ _ _ h => h) (Or.inl ⟨by rfl, ?_⟩) ?_ ?_
        rotate_left
        · intro w'
          go_simp
          with_reducible rfl
        rotate_left
        · simp only [Act.put, List.setIfInBounds_toArray, List.set_cons_zero, List.set_cons_succ, i64_w, i32_w]
          rfl
        refine take_ (i := 0) (N := some 22) (v := ?_) (a' := ?_) (bl_ 6 7) rfl rfl (by kernel_rfl) (fun _ _ _ h => h) (Or.inl ⟨by rfl, ?_⟩) hHeld ?_ ?_
        rotate_left
        · rintro w' ⟨s0, s1⟩
          go_simp
          with_reducible rfl
        rotate_left
        · simp only [Act.put, List.setIfInBounds_toArray, List.set_cons_zero, List.set_cons_succ, i64_w, i32_w]
          rfl
        refine take_ (i := 3) (N := some 25) (v := ?_) (a' := ?_) (bl_ 6 15) rfl rfl (by kernel_rfl) (fun _ _ _ h => h) (Or.inl ⟨by rfl, ?_⟩) hHeld ?_ ?_
        rotate_left
        · rintro w' ⟨s0, s1⟩
          go_simp
          with_reducible rfl
        rotate_left
        · simp only [Act.put, List.setIfInBounds_toArray, List.set_cons_zero, List.set_cons_succ, i64_w, i32_w]
          rfl
        refine one_ (i := 4) (N := some 26) (bl_ 6 31) rfl rfl (by kernel_rfl) (by decide) (fun K hK => ?_)
        refine gO_ Try.func128 #[.agg #[.slice Ao27 x1316000_1.length co27, .slice Ao28 x1316001_1.length co28], .int .u8 (bt a1 x6_1)] (by rfl) rfl rfl qa_ ?_
        with_reducible refine (spec_l05Letter.calls k1 _ _ x1316000_1 _ _ x1316001_1 (bt a1 x6_1) t1316 t1319 _ (cr_ HO_1316000) ((Kd.R_reads' HO_1316000.out).2.1) (cr_ HO_1316001) ((Kd.R_reads' HO_1316001.out).2.1) A25.out).mono ?_
        rintro e w29 ⟨v1317, v1320, rfl, ho0, ho1, hb⟩
        refine ⟨_, rfl, ?_⟩
        have HO1318 := Aside0.mk (Kd.R_lower (Kd.R_new' (Kd.R_new' ho0 (Kd.R_lt (rr_ HO_1316000))) (Kd.R_lt (rr_ HO_1316001))) (below_size hB_))
        have HO1321 := Aside0.mk (Kd.R_lower (Kd.R_new' (Kd.R_new' ho1 (Kd.R_lt (rr_ HO_1316000))) (Kd.R_lt (rr_ HO_1316001))) (below_size hB_))
        replace HO_1316000 := Aside0.mk (Kd.R_mono (Kd.R_told (Kd.R_told (Kd.R_old (rr_ HO_1316000) hb) (Kd.R_base ho0)) (Kd.R_base ho1)) (fun _ h_ => h_.1))
        replace HO_1316001 := Aside0.mk (Kd.R_mono (Kd.R_told (Kd.R_told (Kd.R_old (rr_ HO_1316001) hb) (Kd.R_base ho0)) (Kd.R_base ho1)) (fun _ h_ => h_.1))
        replace BK1301 := bb_ BK1301 hb
        replace BK1302 := bb_ BK1302 hb
        replace BK1315 := bb_ BK1315 hb
        replace HB := b1_ hb
        clear hb ho0 ho1
        obtain ⟨Ao30, co30, eo30⟩ := Kd.R_slice HO1318.out
        (first | subst eo30 | (injection eo30 with f1_ f2_ f3_; have f4_ := f1_.symm; have f5_ := f3_.symm; clear f1_ f2_ f3_; subst f4_; subst f5_))
        obtain ⟨Ao32, co32, eo32⟩ := Kd.R_slice HO1321.out
        (first | subst eo32 | (injection eo32 with f1_ f2_ f3_; have f4_ := f1_.symm; have f5_ := f3_.symm; clear f1_ f2_ f3_; subst f4_; subst f5_))
        refine hK.out _ _ ⟨cz0_ BK1315, cz1_ BK1315⟩ (fun hHeld => ?_)
        clear hK K
        refine no_ (some 26) ?_
        refine last_ (i := 5) (N := none) (bl_ 6 63) rfl rfl (by kernel_rfl) (by decide) (fun K hK => ?_)
        have hs31 : w29.cell? ⟨gb1315, 0, none⟩ = some (.slice Ao27 x1316000_1.length co27) := cz0_ BK1315
        have hfs31 := blk_frozen BK1315.out 0
        have hns31_0 := NB1301_1315.out
        have hns31_1 := NB1302_1315.out
        have hms31_0 := NB1315_1301.out
        have hms31_1 := NB1315_1302.out
        have hs33 : w29.cell? ⟨gb1315, 1, none⟩ = some (.slice Ao28 x1316001_1.length co28) := cz1_ BK1315
        have hfs33 := blk_frozen BK1315.out 1
        have hns33_0 := NB1301_1315.out
        have hns33_1 := NB1302_1315.out
        have hms33_0 := NB1315_1301.out
        have hms33_1 := NB1315_1302.out
        refine skip_ (w1 := ?_) (by rfl) rfl ?_ ?_
        rotate_left
        · go_simp
          rfl
        refine hK.out _ _ ?_
        clear hK K
        refine done_ (by kernel_rfl) ?_
        try go_wp2
        go_roundg k1
        case measure => have := HK1.out; omega
        case rel => exact ⟨(wrap64 (x6_1 + 1)), (t1316), (t1319), (.slice Ao30 t1316.length co30), (.slice Ao32 t1319.length co32), qc_, H', ⟨by have := HK1.out; omega⟩, ⟨(rw_ (Kd.R_mono (fa_ HO1318 BK1315) (fun _ hk => hk.1.1)))⟩, ⟨(rw_ (Kd.R_mono (fa_ HO1321 BK1315) (fun _ hk => hk.1.1)))⟩, ⟨by (with_reducible repeat (first | refine blk_drewN ?_ _ | refine blk_drew ?_ | refine blk_alloc ?_ _)); refine blk_far ?_ NB1301_1315.out _; (with_reducible repeat (first | refine blk_drewN ?_ _ | refine blk_drew ?_ | refine blk_alloc ?_ _)); refine blk_far ?_ NB1301_1315.out _; (with_reducible repeat (first | refine blk_drewN ?_ _ | refine blk_drew ?_ | refine blk_alloc ?_ _)); exact BK1301.out⟩, ⟨by (with_reducible repeat (first | refine blk_drewN ?_ _ | refine blk_drew ?_ | refine blk_alloc ?_ _)); refine blk_far ?_ NB1302_1315.out _; (with_reducible repeat (first | refine blk_drewN ?_ _ | refine blk_drew ?_ | refine blk_alloc ?_ _)); refine blk_far ?_ NB1302_1315.out _; (with_reducible repeat (first | refine blk_drewN ?_ _ | refine blk_drew ?_ | refine blk_alloc ?_ _)); exact BK1302.out⟩, ⟨qp_⟩, ⟨hB_⟩⟩
      · rw [if_neg c22] at H
        have c22b0 := decide_eq_false c22
        clear c22
        simp only [Option.some.injEq, Prod.mk.injEq] at H
        obtain ⟨rfl, rfl⟩ := H
        have hnb34 := NB1315_1301.out
        have hnc34 := NB1301_1315.out
        have hnb35 := NB1315_1302.out
        have hnc35 := NB1302_1315.out
        obtain ⟨hcz36_0, hcz36_1, hfz36_0, hfz36_1⟩ := c2_ BK1315
        obtain ⟨Ao37, co37, eo37⟩ := Kd.R_slice HO_1316000.out
        subst eo37
        have hnb38 := NB1302_1301.out
        have hnc38 := NB1301_1302.out
        obtain ⟨hcz39_0, hcz39_1, hfz39_0, hfz39_1⟩ := c2_ BK1302
        obtain ⟨Ao40, co40, eo40⟩ := Kd.R_slice HO_1316001.out
        subst eo40
        go_wp2
        refine bodyPost_ret (results_cell_row rfl _ _ gb1302 27 #[.slice Ao37 x1316000_1.length co37, .slice Ao40 x1316001_1.length co40] (0, 0) _ rfl qp_ Try.underlying27 rfl (by kernel_rfl)) rfl ?_
        exact ⟨_, _, qb_, (rw_ (fa_ HO_1316000 BK1302)), (rw_ (fa_ HO_1316001 BK1302)), hB_⟩
end Go.Proofs.Ytbdnellgioimbaa.A
end
section
namespace Go.Proofs.Ytbdnellgioimbaa.A
open Go.RowKit Go.Proofs.YtbdnellgioimbaaW.PrintWords Go.Proofs.YtbdnellgioimbaaW.PrintLast Go.Proofs.YtbdnellgioimbaaW.PrintMore
attribute [local go_sem] max2_int min2_int max_two min_two max_three min_three max_four min_four
set_option linter.unusedVariables false
set_option linter.unusedSimpArgs false
def spec_DirectionWord.l0 : Nat → Int → Int → ByteArray → Option (ByteArray)
  | 0, _, _, _ => none
  | k + 1, x0, x1, x5 => if x1 > 0 then (if x0 = 0 then (if x5.size + 1 ≤ 9223372036854775807 then (some (x5 ++ (⟨#[115]⟩ : ByteArray))) else (none)) else (if x0 > x1 then (if x5.size + 1 ≤ 9223372036854775807 then (spec_DirectionWord.l0 k (wrap64 (x0 - x1)) x1 (x5 ++ (⟨#[116]⟩ : ByteArray))) else (none)) else (if x5.size + 3 ≤ 9223372036854775807 then (spec_DirectionWord.l0 k x0 (wrap64 (x1 - x0)) (x5 ++ (⟨#[115, 84, 83]⟩ : ByteArray))) else (none)))) else (some x5)
def spec_DirectionWord.f (k : Nat) (a0 : Int) (a1 : Int) : Option (ByteArray) := (spec_SlopeOk.f k a0 a1).bind fun t1322 => (if t1322 = true then (spec_DirectionWord.l0 k a0 a1 (⟨#[]⟩ : ByteArray)) else (some (⟨#[]⟩ : ByteArray)))
theorem spec_DirectionWord.mono_l : ∀ k, (∀ y0 y1 y2, LeO (spec_DirectionWord.l0 k y0 y1 y2) (spec_DirectionWord.l0 (k + 1) y0 y1 y2))
  | 0 => fun _ _ _ r h => by simp [spec_DirectionWord.l0] at h
  | k + 1 => by
    have ih0 := spec_DirectionWord.mono_l k
    · intro y0 y1 y2
      unfold spec_DirectionWord.l0
      repeat' first|exact ih0 _ _ _|exact spec_SlopeOk.mono _ _ _|exact lo_|refine LeO.ite ?_ ?_|refine LeO.bind ?_ (fun _ => ?_)
theorem spec_DirectionWord.mono : ∀ a0 a1 k, LeO (spec_DirectionWord.f k a0 a1) (spec_DirectionWord.f (k + 1) a0 a1) := by
  intro a0 a1 k
  have ih0 := spec_DirectionWord.mono_l k
  unfold spec_DirectionWord.f
  repeat' first|exact ih0 _ _ _|exact spec_SlopeOk.mono _ _ _|exact lo_|refine LeO.ite ?_ ?_|refine LeO.bind ?_ (fun _ => ?_)
set_option maxHeartbeats 8000000 in
set_option maxRecDepth 100000 in
theorem spec_DirectionWord.calls (k : Nat) (a0 : Int) (a1 : Int) (r : ByteArray) (w : World) (h : spec_DirectionWord.f k a0 a1 = some r) :
    Calls Try.prog 91 #[.int .i64 a0, .int .i64 a1] w fun e w' => e = .returned (.string r) ∧ Drawn0 w w' := by
  have H := h
  unfold spec_DirectionWord.f at H
  clear h
  obtain ⟨t1322, A3, H⟩ := bi_ H
  by_cases c4 : t1322 = true
  · subst c4
    rw [if_pos rfl] at H
    have H' := Aside0.mk H
    clear H
    go_enter Try.func91, Try.ntmps91
    go_wp2_with (first | ((with_reducible refine gate_callee (f := 89) rfl ?_); refine gL_ (some 8) Try.func89 #[.int .i64 a0, .int .i64 a1] rfl qa_ ?_; (with_reducible refine (spec_SlopeOk.calls k a0 a1 true _ A3.out).mono ?_); rintro e w' ⟨rfl, ⟨nd, rfl⟩⟩; refine ⟨_, rfl, ?_⟩))
    go_loopg [0, 1, 5] k (fun kq v0 v1 v5 w' => ∃ (x0_1 : Int) (x1_1 : Int) (x5_1 : ByteArray), v0 = .int .i64 x0_1 ∧ v1 = .int .i64 x1_1 ∧ v5 = .string x5_1 ∧ Aside0 (spec_DirectionWord.l0 kq x0_1 x1_1 x5_1 = some r) ∧ Aside0 (kq ≤ k) ∧ Drawn0 w w')
    case atStart => exact ⟨(a0), (a1), ((⟨#[]⟩ : ByteArray)), qc_, qc_, qc_, H', ⟨Nat.le_refl _⟩, by repeat (first | exact Drawn0.refl _ | apply Drawn0.step)⟩
    case round =>
      clear H'
      obtain ⟨x0_1, x1_1, x5_1, rfl, rfl, rfl, HA, HK1, ⟨m1, rfl⟩⟩ := hrel
      cases gk with
      | zero => exact absurd HA.out (by simp [spec_DirectionWord.l0])
      | succ k1 =>
        have H := HA.out
        clear HA
        simp only [spec_DirectionWord.l0] at H
        by_cases c5 : x1_1 > 0
        · rw [if_pos c5] at H
          have c5b0 : decide (0 < x1_1) = true := decide_eq_true c5
          clear c5
          by_cases c6 : x0_1 = 0
          · rw [if_pos c6] at H
            have c6b0 : (x0_1 == 0) = true := beq_iff_eq.mpr c6
            have c6b1 : (x0_1 != 0) = false := bne_eq_false_iff_eq.mpr c6
            clear c6
            have c7 := cp_ H
            replace H := ca_ H
            have c7b0 := eq_true c7
            have c7b1 := decide_eq_true c7
            try have c7b2 : (9223372036854775807 < x5_1.size + 1) = False := eq_false (Nat.not_lt.2 c7)
            obtain rfl := Option.some.inj H
            go_wp2
            go_ret
            exact ⟨qc_, by repeat (first | exact Drawn0.refl _ | apply Drawn0.step)⟩
          · rw [if_neg c6] at H
            have c6b0 : (x0_1 == 0) = false := beq_eq_false_iff_ne.mpr c6
            have c6b1 : (x0_1 != 0) = true := bne_iff_ne.mpr c6
            by_cases c8 : x0_1 > x1_1
            · rw [if_pos c8] at H
              have c8b0 : decide (x1_1 < x0_1) = true := decide_eq_true c8
              clear c8
              have c9 := cp_ H
              replace H := ca_ H
              have c9b0 := eq_true c9
              have c9b1 := decide_eq_true c9
              try have c9b2 : (9223372036854775807 < x5_1.size + 1) = False := eq_false (Nat.not_lt.2 c9)
              have H' := Aside0.mk H
              clear H
              go_wp2
              go_roundg k1
              case measure => have := HK1.out; omega
              case rel => exact ⟨(wrap64 (x0_1 - x1_1)), (x1_1), (x5_1 ++ (⟨#[116]⟩ : ByteArray)), qc_, qc_, qc_, H', ⟨by have := HK1.out; omega⟩, by repeat (first | exact Drawn0.refl _ | apply Drawn0.step)⟩
            · rw [if_neg c8] at H
              have c8b0 : decide (x1_1 < x0_1) = false := decide_eq_false c8
              clear c8
              have c10 := cp_ H
              replace H := ca_ H
              have c10b0 := eq_true c10
              have c10b1 := decide_eq_true c10
              try have c10b2 : (9223372036854775807 < x5_1.size + 3) = False := eq_false (Nat.not_lt.2 c10)
              have H' := Aside0.mk H
              clear H
              go_wp2
              go_roundg k1
              case measure => have := HK1.out; omega
              case rel => exact ⟨(x0_1), (wrap64 (x1_1 - x0_1)), (x5_1 ++ (⟨#[115, 84, 83]⟩ : ByteArray)), qc_, qc_, qc_, H', ⟨by have := HK1.out; omega⟩, by repeat (first | exact Drawn0.refl _ | apply Drawn0.step)⟩
        · rw [if_neg c5] at H
          have c5b0 : decide (0 < x1_1) = false := decide_eq_false c5
          clear c5
          obtain rfl := Option.some.inj H
          go_wp2
          go_ret
          exact ⟨qc_, by repeat (first | exact Drawn0.refl _ | apply Drawn0.step)⟩
  · replace c4 := Bool.eq_false_iff.mpr c4
    subst c4
    have H1 : (some (⟨#[]⟩ : ByteArray)) = some r := by rw [if_neg (show ¬ (false = true) by decide)] at H; exact H
    clear H
    have H := H1
    clear H1
    obtain rfl := Option.some.inj H
    go_enter Try.func91, Try.ntmps91
    go_wp2_with (first | ((with_reducible refine gate_callee (f := 89) rfl ?_); refine gL_ (some 8) Try.func89 #[.int .i64 a0, .int .i64 a1] rfl qa_ ?_; (with_reducible refine (spec_SlopeOk.calls k a0 a1 false _ A3.out).mono ?_); rintro e w' ⟨rfl, ⟨nd, rfl⟩⟩; refine ⟨_, rfl, ?_⟩))
    go_ret
    exact ⟨qc_, by repeat (first | exact Drawn0.refl _ | apply Drawn0.step)⟩
end Go.Proofs.Ytbdnellgioimbaa.A
end
section
namespace Go.Proofs.Ytbdnellgioimbaa.A
open Go.RowKit Go.Proofs.YtbdnellgioimbaaW.PrintWords Go.Proofs.YtbdnellgioimbaaW.PrintLast Go.Proofs.YtbdnellgioimbaaW.PrintMore
attribute [local go_sem] max2_int min2_int max_two min_two max_three min_three max_four min_four
set_option linter.unusedVariables false
set_option linter.unusedSimpArgs false
def spec_CylindersIn.j0 : Nat → Int → Int → Bool → List Int → List Int → Option ((List (S44)) × Bool)
  | 0, _, _, _, _, _ => none
  | k + 1, x1, x2, x16, x1324000, x1324001 => if x16 = true then (some (([] : List (S44)), false)) else ((spec_DirectionWord.f k x1 x2).bind fun t1326 => ((spec_l05Run.f k x1324000 x1324001 t1326).bind fun bt1327 => ((spec_l08Cylinders.f k bt1327.1 bt1327.2).bind fun t1333 => (some (t1333, true)))))
def spec_CylindersIn.f (k : Nat) (l0_0 : List Int) (l0_1 : List Int) (a1 : Int) (a2 : Int) : Option ((List (S44)) × Bool) := (spec_SurfaceOk.f k l0_0 l0_1).bind fun t1324 => (if t1324 = true then ((spec_SlopeOk.f k a1 a2).bind fun t1325 => (spec_CylindersIn.j0 k a1 a2 (!t1325) l0_0 l0_1)) else (spec_CylindersIn.j0 k a1 a2 true l0_0 l0_1))
theorem spec_CylindersIn.mono_l : ∀ k, (∀ y0 y1 y2 y3 y4, LeO (spec_CylindersIn.j0 k y0 y1 y2 y3 y4) (spec_CylindersIn.j0 (k + 1) y0 y1 y2 y3 y4))
  | 0 => fun _ _ _ _ _ r h => by simp [spec_CylindersIn.j0] at h
  | k + 1 => by
    have ih0 := spec_CylindersIn.mono_l k
    · intro y0 y1 y2 y3 y4
      unfold spec_CylindersIn.j0
      repeat' first|exact ih0 _ _ _ _ _|exact spec_DirectionWord.mono _ _ _|exact spec_SlopeOk.mono _ _ _|exact spec_SurfaceOk.mono _ _ _|exact spec_l05Run.mono _ _ _ _|exact spec_l08Cylinders.mono _ _ _|exact lo_|refine LeO.ite ?_ ?_|refine LeO.bind ?_ (fun _ => ?_)
theorem spec_CylindersIn.mono : ∀ a0 a1 a2 a3 k, LeO (spec_CylindersIn.f k a0 a1 a2 a3) (spec_CylindersIn.f (k + 1) a0 a1 a2 a3) := by
  intro a0 a1 a2 a3 k
  have ih0 := spec_CylindersIn.mono_l k
  unfold spec_CylindersIn.f
  repeat' first|exact ih0 _ _ _ _ _|exact spec_DirectionWord.mono _ _ _|exact spec_SlopeOk.mono _ _ _|exact spec_SurfaceOk.mono _ _ _|exact spec_l05Run.mono _ _ _ _|exact spec_l08Cylinders.mono _ _ _|exact lo_|refine LeO.ite ?_ ?_|refine LeO.bind ?_ (fun _ => ?_)
def spec_CylindersIn.T3 : Bool × List (List Nat × List Nat) := (true, [([], []), ([], []), ([], []), ([1, 2], [1, 2]), ([0, 3, 3], [0, 3]), ([4, 4], [4]), ([5, 5, 0, 1, 2, 3, 4, 5], [5]), ([6, 0, 1, 2, 3, 4, 5, 6], [])])
def spec_CylindersIn.B3 : List Nat := [0, 0, 0, 6, 15, 31, 63, 127]
theorem spec_CylindersIn.tab3 : rtab .any (opsOf Try.f45 3) = spec_CylindersIn.T3 := by kernel_rfl
theorem spec_CylindersIn.bits3 : waitsOk spec_CylindersIn.T3.2 spec_CylindersIn.B3 = true := by kernel_rfl
set_option maxHeartbeats 8000000 in
set_option maxRecDepth 100000 in
theorem spec_CylindersIn.calls (k : Nat) (A0_0 : Option Addr) (c0_0 : Nat) (l0_0 : List Int) (A0_1 : Option Addr) (c0_1 : Nat) (l0_1 : List Int) (a1 : Int) (a2 : Int) (r1 : List (S44)) (r2 : Bool) (w : World) (hr0_0 : Kd.C (Kd.int .i64) w A0_0 l0_0.length l0_0) (hc0_0 : l0_0.length ≤ c0_0) (hr0_1 : Kd.C (Kd.int .i64) w A0_1 l0_1.length l0_1) (hc0_1 : l0_1.length ≤ c0_1) (h : spec_CylindersIn.f k l0_0 l0_1 a1 a2 = some (r1, r2)) :
    Calls Try.prog 45 #[.agg #[.slice A0_0 l0_0.length c0_0, .slice A0_1 l0_1.length c0_1], .int .i64 a1, .int .i64 a2] w fun e w' => ∃ v0_ : Value, e = .returned (.tuple #[v0_, .bool r2]) ∧ Kd.R k44 44 w' w.heap.size (fun _ => True) v0_ r1 ∧ Below w.heap.size w w' := by
  have hu27 := Try.underlying27
  have HR0_0 := Aside0.mk hr0_0
  have HC0_0 := Aside0.mk hc0_0
  clear hr0_0 hc0_0
  have HR0_1 := Aside0.mk hr0_1
  have HC0_1 := Aside0.mk hc0_1
  clear hr0_1 hc0_1
  have HB := Aside0.mk (Below.refl w.heap.size w)
  have H := h
  unfold spec_CylindersIn.f at H
  clear h
  have HC4 := Aside0.mk H
  clear H
  go_enter Try.func45, Try.ntmps45
  go_upto_region 1 with (first | ((with_reducible refine gate_dst (N := 3) rfl ?_); refine bx_ 3 #[.slice A0_0 l0_0.length c0_0, .slice A0_1 l0_1.length c0_1] 27 ?_; intro gb1323 hg w5 hbox hb; have BK1323 := Aside0.mk hbox; have GW1323 := gw_ w hg; have GE1323 := GW1323; replace HB := b1_ hb; clear hb hbox hg))
  (try simp only [Act.put, List.setIfInBounds_toArray, List.set_cons_zero, List.set_cons_succ])
  go_cut [16] (fun v16 wc => ∃ (kq : Nat) (x16_3 : Bool), v16 = .bool x16_3 ∧ Aside0 (spec_CylindersIn.j0 kq a1 a2 x16_3 l0_0 l0_1 = some (r1, r2)) ∧ Aside0 (kq ≤ k) ∧ Aside0 (wc.heap[gb1323]? = some (.cells #[(.slice A0_0 l0_0.length c0_0), (.slice A0_1 l0_1.length c0_1)] 27 (0, 0))) ∧ Aside0 (Below w.heap.size w wc))
  case first =>
    have H := HC4.out
    clear HC4
    obtain ⟨t1324, A6, H⟩ := bi_ H
    by_cases c7 : t1324 = true
    · subst c7
      rw [if_pos rfl] at H
      obtain ⟨t1325, A8, H⟩ := bi_ H
      have H' := Aside0.mk H
      clear H
      obtain ⟨hcz9_0, hcz9_1, hfz9_0, hfz9_1⟩ := c2_ BK1323
      go_wp2_with (first | ((with_reducible refine gate_callee (f := 63) rfl ?_); refine gL_ (some 9) Try.func63 #[.agg #[.slice A0_0 l0_0.length c0_0, .slice A0_1 l0_1.length c0_1]] rfl qa_ ?_; (with_reducible refine (spec_SurfaceOk.calls k _ _ l0_0 _ _ l0_1 true _ (cb_ HR0_0) HC0_0.out (cb_ HR0_1) HC0_1.out A6.out).mono ?_); rintro e w10 ⟨rfl, hb⟩; refine ⟨_, rfl, ?_⟩; replace BK1323 := bb_ BK1323 hb; replace HB := b1_ hb; clear hb) | (go_at_call 89; (with_reducible refine (spec_SlopeOk.calls k a1 a2 t1325 _ A8.out).mono ?_); rintro e w' ⟨rfl, ⟨nd, rfl⟩⟩))
      go_meet
      case rel => exact ⟨_, (!t1325), qc_, H', ⟨qd_⟩, ⟨(kk_ BK1323)⟩, ⟨hB_⟩⟩
    · replace c7 := Bool.eq_false_iff.mpr c7
      subst c7
      have H1 : (spec_CylindersIn.j0 k a1 a2 true l0_0 l0_1) = some (r1, r2) := by rw [if_neg (show ¬ (false = true) by decide)] at H; exact H
      clear H
      have H := H1
      clear H1
      have H' := Aside0.mk H
      clear H
      obtain ⟨hcz11_0, hcz11_1, hfz11_0, hfz11_1⟩ := c2_ BK1323
      go_wp2_with (first | ((with_reducible refine gate_callee (f := 63) rfl ?_); refine gL_ (some 9) Try.func63 #[.agg #[.slice A0_0 l0_0.length c0_0, .slice A0_1 l0_1.length c0_1]] rfl qa_ ?_; (with_reducible refine (spec_SurfaceOk.calls k _ _ l0_0 _ _ l0_1 false _ (cb_ HR0_0) HC0_0.out (cb_ HR0_1) HC0_1.out A6.out).mono ?_); rintro e w12 ⟨rfl, hb⟩; refine ⟨_, rfl, ?_⟩; replace BK1323 := bb_ BK1323 hb; replace HB := b1_ hb; clear hb))
      go_meet
      case rel => exact ⟨_, (true), qc_, H', ⟨qd_⟩, ⟨(kk_ BK1323)⟩, ⟨hB_⟩⟩
  case rest =>
    clear HC4
    obtain ⟨kq, x16_3, rfl, HA, HJ3, BK1323, HB⟩ := hcut
    cases kq with
    | zero => exact absurd HA.out (by simp [spec_CylindersIn.j0])
    | succ kj3 =>
      have H := HA.out
      clear HA
      simp only [spec_CylindersIn.j0] at H
      by_cases c13 : x16_3 = true
      · subst c13
        rw [if_pos rfl] at H
        simp only [Option.some.injEq, Prod.mk.injEq] at H
        obtain ⟨rfl, rfl⟩ := H
        go_wp2
        go_ret2
        exact ⟨_, qb_, by first | exact Kd.R_nil _ _ _ _ _ | exact Kd.N_nil _ _ _ _ _ | exact Kd.V_nil _ _ _ _ _ | exact Kd.Q_nil _ _ _ _ _ | exact Kd.S_nil _ _ _ _ _, hB_⟩
      · replace c13 := Bool.eq_false_iff.mpr c13
        subst c13
        have H1 : ((spec_DirectionWord.f kj3 a1 a2).bind fun t1326 => ((spec_l05Run.f kj3 l0_0 l0_1 t1326).bind fun bt1327 => ((spec_l08Cylinders.f kj3 bt1327.1 bt1327.2).bind fun t1333 => (some (t1333, true))))) = some (r1, r2) := by rw [if_neg (show ¬ (false = true) by decide)] at H; exact H
        clear H
        have H := H1
        clear H1
        obtain ⟨t1326, A14, H⟩ := bi_ H
        obtain ⟨⟨t1327, t1330⟩, A15, H⟩ := bi_ H
        try dsimp only at H
        obtain ⟨t1333, A16, H⟩ := bi_ H
        simp only [Option.some.injEq, Prod.mk.injEq] at H
        obtain ⟨rfl, rfl⟩ := H
        try go_wp2
        replace BK1323 := Aside0.mk (blk_drew BK1323.out)
        replace HB := Aside0.mk (below_drew1 HB.out)
        refine start_ (n := 8) (S := fun w' => w'.cell? ⟨gb1323, 0, none⟩ = some (.slice A0_0 l0_0.length c0_0) ∧ w'.cell? ⟨gb1323, 1, none⟩ = some (.slice A0_1 l0_1.length c0_1)) (ds := []) (bl_ 8 0) (by kernel_rfl) rfl (by kernel_rfl) ⟨cz0_ BK1323, cz1_ BK1323⟩ (fun hHeld => ?_); refine with_tabW spec_CylindersIn.tab3 spec_CylindersIn.bits3 (fun HT_ HW_ => ?_)
        generalize wc.drew = w17 at BK1323 HB hHeld ⊢
        refine pu_ 1 (some 18) (bl_ 8 2) HT_ ?_
        refine pu_ 2 (some 19) (bl_ 8 6) HT_ ?_
        refine ta_ 0 (some 17) (bl_ 8 7) HT_ HW_ hHeld ?_
        refine on_ 3 (some 20) (bl_ 8 15) HT_ (fun K hK => ?_)
        refine gO_ Try.func91 #[.int .i64 a1, .int .i64 a2] (by rfl) rfl rfl qa_ ?_
        with_reducible refine (spec_DirectionWord.calls kj3 a1 a2 t1326 _ A14.out).mono ?_
        rintro e w' ⟨rfl, ⟨nd, rfl⟩⟩
        refine ⟨_, rfl, ?_⟩
        refine hK.out _ _ ⟨cz0_ BK1323, cz1_ BK1323⟩ (fun hHeld => ?_)
        clear hK K
        refine no_ (some 20) ?_
        refine on_ 4 (some 21) (bl_ 8 31) HT_ (fun K hK => ?_)
        refine gO_ Try.func90 #[.agg #[.slice A0_0 l0_0.length c0_0, .slice A0_1 l0_1.length c0_1], .string t1326] (by rfl) rfl rfl qa_ ?_
        with_reducible refine (spec_l05Run.calls kj3 _ _ l0_0 _ _ l0_1 t1326 t1327 t1330 _ (cw_ (Kd.C_below HR0_0.out hB_)) HC0_0.out (cw_ (Kd.C_below HR0_1.out hB_)) HC0_1.out A15.out).mono ?_
        rintro e w18 ⟨v1328, v1331, rfl, ho0, ho1, hb⟩
        refine ⟨_, rfl, ?_⟩
        have HO1329 := rl_ w ho0
        have HO1332 := rl_ w ho1
        replace BK1323 := bb_ BK1323 hb
        replace HB := b1_ hb
        clear hb ho0 ho1
        obtain ⟨Ao19, co19, eo19⟩ := Kd.R_slice HO1329.out
        (first | subst eo19 | (injection eo19 with f1_ f2_ f3_; have f4_ := f1_.symm; have f5_ := f3_.symm; clear f1_ f2_ f3_; subst f4_; subst f5_))
        obtain ⟨Ao20, co20, eo20⟩ := Kd.R_slice HO1332.out
        (first | subst eo20 | (injection eo20 with f1_ f2_ f3_; have f4_ := f1_.symm; have f5_ := f3_.symm; clear f1_ f2_ f3_; subst f4_; subst f5_))
        refine hK.out _ _ ⟨cz0_ BK1323, cz1_ BK1323⟩ (fun hHeld => ?_)
        clear hK K
        refine no_ (some 21) ?_
        refine on_ 5 (some 22) (bl_ 8 63) HT_ (fun K hK => ?_)
        refine gO_ Try.func64 #[.agg #[.slice Ao19 t1327.length co19, .slice Ao20 t1330.length co20]] (by rfl) rfl rfl qa_ ?_
        with_reducible refine (spec_l08Cylinders.calls kj3 _ _ t1327 _ _ t1330 t1333 _ (cr_ HO1329) ((Kd.R_reads' HO1329.out).2.1) (cr_ HO1332) ((Kd.R_reads' HO1332.out).2.1) A16.out).mono ?_
        rintro e w21 ⟨v1334, rfl, ho0, hb⟩
        refine ⟨_, rfl, ?_⟩
        replace HO1329 := rb_ HO1329 hb
        replace HO1332 := rb_ HO1332 hb
        have HO1335 := rl_ w ho0
        replace BK1323 := bb_ BK1323 hb
        replace HB := b1_ hb
        clear hb ho0
        refine hK.out _ _ ⟨cz0_ BK1323, cz1_ BK1323⟩ (fun hHeld => ?_)
        clear hK K
        refine no_ (some 22) ?_
        refine pu_ 6 (some 6) (bl_ 8 127) HT_ ?_
        refine pu_ 7 (some 7) (bl_ 8 255) HT_ ?_
        refine done_ (done_of HT_.out (by kernel_rfl)) ?_
        try go_wp2
        go_ret2
        exact ⟨_, qb_, (rr_ HO1335), hB_⟩
end Go.Proofs.Ytbdnellgioimbaa.A
end
section
namespace Go.Proofs.Ytbdnellgioimbaa.A
open Go.RowKit Go.Proofs.YtbdnellgioimbaaW.PrintWords Go.Proofs.YtbdnellgioimbaaW.PrintLast Go.Proofs.YtbdnellgioimbaaW.PrintMore
attribute [local go_sem] max2_int min2_int max_two min_two max_three min_three max_four min_four
set_option linter.unusedVariables false
set_option linter.unusedSimpArgs false
def spec_IsOneCylinder.f (k : Nat) (l0_0 : List Int) (l0_1 : List Int) (a1 : Int) (a2 : Int) : Option (Bool) := (spec_CylindersIn.f k l0_0 l0_1 a1 a2).bind fun bt1507 => (if bt1507.2 = true then (some ((bt1507.1.length : Int) == 1)) else (some false))
theorem spec_IsOneCylinder.mono : ∀ a0 a1 a2 a3 k, LeO (spec_IsOneCylinder.f k a0 a1 a2 a3) (spec_IsOneCylinder.f (k + 1) a0 a1 a2 a3) := by
  intro a0 a1 a2 a3 k
  unfold spec_IsOneCylinder.f
  repeat' first|exact spec_CylindersIn.mono _ _ _ _ _|exact lo_|refine LeO.ite ?_ ?_|refine LeO.bind ?_ (fun _ => ?_)
set_option maxHeartbeats 8000000 in
set_option maxRecDepth 100000 in
theorem spec_IsOneCylinder.calls (k : Nat) (A0_0 : Option Addr) (c0_0 : Nat) (l0_0 : List Int) (A0_1 : Option Addr) (c0_1 : Nat) (l0_1 : List Int) (a1 : Int) (a2 : Int) (r : Bool) (w : World) (hr0_0 : Kd.C (Kd.int .i64) w A0_0 l0_0.length l0_0) (hc0_0 : l0_0.length ≤ c0_0) (hr0_1 : Kd.C (Kd.int .i64) w A0_1 l0_1.length l0_1) (hc0_1 : l0_1.length ≤ c0_1) (h : spec_IsOneCylinder.f k l0_0 l0_1 a1 a2 = some r) :
    Calls Try.prog 47 #[.agg #[.slice A0_0 l0_0.length c0_0, .slice A0_1 l0_1.length c0_1], .int .i64 a1, .int .i64 a2] w fun e w' => e = .returned (.bool r) ∧ Below w.heap.size w w' := by
  have hu27 := Try.underlying27
  have HR0_0 := Aside0.mk hr0_0
  have HC0_0 := Aside0.mk hc0_0
  clear hr0_0 hc0_0
  have HR0_1 := Aside0.mk hr0_1
  have HC0_1 := Aside0.mk hc0_1
  clear hr0_1 hc0_1
  have HB := Aside0.mk (Below.refl w.heap.size w)
  have H := h
  unfold spec_IsOneCylinder.f at H
  clear h
  obtain ⟨⟨t1507, t1510⟩, A4, H⟩ := bi_ H
  try dsimp only at H
  by_cases c5 : t1510 = true
  · subst c5
    rw [if_pos rfl] at H
    obtain rfl := Option.some.inj H
    go_enter Try.func47, Try.ntmps47
    go_wp2_with (first | ((with_reducible refine gate_dst (N := 3) rfl ?_); (try (refine gate_guard (by rfl) ?_; dsimp only)); refine bx_ 3 #[.slice A0_0 l0_0.length c0_0, .slice A0_1 l0_1.length c0_1] 27 ?_; intro gb1506 hg w6 hbox hb; have BK1506 := Aside0.mk hbox; have GW1506 := gw_ w hg; have GE1506 := GW1506; replace HB := b1_ hb; clear hb hbox hg; obtain ⟨hcz7_0, hcz7_1, hfz7_0, hfz7_1⟩ := c2_ BK1506) | ((with_reducible refine gate_callee (f := 45) rfl ?_); refine gL_ (some 13) Try.func45 #[.agg #[.slice A0_0 l0_0.length c0_0, .slice A0_1 l0_1.length c0_1], .int .i64 a1, .int .i64 a2] rfl qa_ ?_; (with_reducible refine (spec_CylindersIn.calls k _ _ l0_0 _ _ l0_1 a1 a2 t1507 true _ (cb_ HR0_0) HC0_0.out (cb_ HR0_1) HC0_1.out A4.out).mono ?_); rintro e w8 ⟨v1508, rfl, ho0, hb⟩; refine ⟨_, rfl, ?_⟩; have HO1509 := rl_ w ho0; replace BK1506 := bb_ BK1506 hb; replace HB := b1_ hb; clear hb ho0; obtain ⟨Ao9, co9, eo9⟩ := Kd.R_slice HO1509.out; subst eo9))
    go_ret
    exact ⟨qb_, hB_⟩
  · replace c5 := Bool.eq_false_iff.mpr c5
    subst c5
    have H1 : (some false) = some r := by rw [if_neg (show ¬ (false = true) by decide)] at H; exact H
    clear H
    have H := H1
    clear H1
    obtain rfl := Option.some.inj H
    go_enter Try.func47, Try.ntmps47
    go_wp2_with (first | ((with_reducible refine gate_dst (N := 3) rfl ?_); (try (refine gate_guard (by rfl) ?_; dsimp only)); refine bx_ 3 #[.slice A0_0 l0_0.length c0_0, .slice A0_1 l0_1.length c0_1] 27 ?_; intro gb1506 hg w10 hbox hb; have BK1506 := Aside0.mk hbox; have GW1506 := gw_ w hg; have GE1506 := GW1506; replace HB := b1_ hb; clear hb hbox hg; obtain ⟨hcz11_0, hcz11_1, hfz11_0, hfz11_1⟩ := c2_ BK1506) | ((with_reducible refine gate_callee (f := 45) rfl ?_); refine gL_ (some 13) Try.func45 #[.agg #[.slice A0_0 l0_0.length c0_0, .slice A0_1 l0_1.length c0_1], .int .i64 a1, .int .i64 a2] rfl qa_ ?_; (with_reducible refine (spec_CylindersIn.calls k _ _ l0_0 _ _ l0_1 a1 a2 t1507 false _ (cb_ HR0_0) HC0_0.out (cb_ HR0_1) HC0_1.out A4.out).mono ?_); rintro e w12 ⟨v1508, rfl, ho0, hb⟩; refine ⟨_, rfl, ?_⟩; have HO1509 := rl_ w ho0; replace BK1506 := bb_ BK1506 hb; replace HB := b1_ hb; clear hb ho0))
    go_ret
    exact ⟨qb_, hB_⟩
end Go.Proofs.Ytbdnellgioimbaa.A
end
section
namespace Go.Proofs.Ytbdnellgioimbaa.A
open Go.RowKit Go.Proofs.YtbdnellgioimbaaW.PrintWords Go.Proofs.YtbdnellgioimbaaW.PrintLast Go.Proofs.YtbdnellgioimbaaW.PrintMore
attribute [local go_sem] max2_int min2_int max_two min_two max_three min_three max_four min_four
set_option linter.unusedVariables false
set_option linter.unusedSimpArgs false
def impl_PermOk.l0 : Nat → List Int → List Bool → Int → Option Bool
  | 0, _, _, _ => none
  | k + 1, l, s, i => if i < (l.length : Int) then (if 0 ≤ i then (if rd l i < 0 then some false else (if rd l i ≥ (l.length : Int) then some false else (if rdOf false s (rd l i) = true then some false else impl_PermOk.l0 k l (s.set (rd l i).toNat true) (wrap64 (i + 1))))) else none) else some true
def impl_PermOk.f (k : Nat) (l0 : List Int) : Option Bool := if (l0.length : Int) > 24 then some false else impl_PermOk.l0 k l0 (List.replicate 24 false) 0
theorem impl_PermOk.mono_l : ∀ k, (∀ y0 y1 y2, LeO (impl_PermOk.l0 k y0 y1 y2) (impl_PermOk.l0 (k + 1) y0 y1 y2))
  | 0 => fun _ _ _ r h => by simp [impl_PermOk.l0] at h
  | k + 1 => by
    have ih0 := impl_PermOk.mono_l k
    · intro y0 y1 y2
      unfold impl_PermOk.l0
      repeat' first|exact ih0 _ _ _|exact lo_|refine LeO.ite ?_ ?_|refine LeO.bind ?_ (fun _ => ?_)
theorem impl_PermOk.mono : ∀ a0 k, LeO (impl_PermOk.f k a0) (impl_PermOk.f (k + 1) a0) := by
  intro a0 k
  unfold impl_PermOk.f
  exact LeO.ite (LeO.refl _) (impl_PermOk.mono_l k _ _ _)
def Z24 : Array Value := #[Value.bool false, Value.bool false, Value.bool false, Value.bool false, Value.bool false, Value.bool false, Value.bool false, Value.bool false, Value.bool false, Value.bool false, Value.bool false, Value.bool false, Value.bool false, Value.bool false, Value.bool false, Value.bool false, Value.bool false, Value.bool false, Value.bool false, Value.bool false, Value.bool false, Value.bool false, Value.bool false, Value.bool false]
theorem row_same (w : World) (g : Nat) (t : TypeId) (cur : Array Value) (hg : w.heap[g]? = some (.cells cur t (0, 0))) : w.setRow g cur = w := by
  have hv : ∀ h, w.heap[g]'h = .cells cur t (0, 0) := fun h => (Array.getElem?_eq_some_iff.1 hg).2
  unfold World.setRow
  cases w with
  | mk heap tape drawn os output =>
    congr 1
    apply Array.ext
    · simp
    · intro k h1 h2
      simp only [Array.getElem_modify]
      split
      · rename_i hk; subst hk; simp at hv; simp [hv h2]
      · rfl
theorem wpList_val {P : Program} {ops : Array Oper} {rest : List Oper} {o : Oper} {a : Act} {Q : Exit → Act → World → Prop} {w : World} (hg : o.guard = none) (v : Value) (w1 : World) (hrun : (execOp a.eval o).run P w = .ok (.value v) w1) (h : wpList P ops Q rest (a.put o.dst v) w1) : wpList P ops Q (o :: rest) a w :=
  wpList_plain hg fun K hK => by unfold Oper.wp; rw [hrun]; exact hK _ _ h
theorem perm_start (w : World) : Kd.R Kd.bool 125 (w.alloc (.cells Z24 125)) w.heap.size (fun _ => True) (.slice (some ⟨w.heap.size, 0, none⟩) 24 24) (List.replicate 24 false) := by
  have h := World.ownsRow_lit (base := w.heap.size) (e := 125) (size := 1) w Z24 24 (Nat.le_refl _) (by unfold maxLen; omega) rfl
  exact Kd.R_of_own (xs := List.replicate 24 false) h (fun _ _ => trivial)
set_option maxHeartbeats 8000000 in
set_option maxRecDepth 100000 in
theorem impl_PermOk.calls (k : Nat) (A0 : Option Addr) (c0 : Nat) (l0 : List Int) (r : Bool) (w : World) (hr0 : Kd.C (Kd.int .i64) w A0 l0.length l0) (hc0 : l0.length ≤ c0) (h : impl_PermOk.f k l0 = some r) :
    Calls Try.prog 98 #[.slice A0 l0.length c0] w fun e w' => e = .returned (.bool r) ∧ Below w.heap.size w w' := by
  have HR0 := Aside0.mk hr0
  have HC0 := Aside0.mk hc0
  clear hr0 hc0
  have hst := perm_start w
  have HST := Aside0.mk hst
  clear hst
  have hb0 : Below w.heap.size w (w.alloc (.cells Z24 125)) := (Below.refl _ _).alloc (Nat.le_refl _) _
  have HB0 := Aside0.mk hb0
  clear hb0
  unfold impl_PermOk.f at h
  by_cases c2 : (l0.length : Int) > 24
  · rw [if_pos c2] at h
    have c2b0 : decide (24 < (l0.length : Int)) = true := decide_eq_true c2
    have c2b1 : decide (24 < l0.length) = true := decide_eq_true (by omega)
    clear c2
    obtain rfl := Option.some.inj h
    go_enter Try.func98, Try.ntmps98
    go_upto_region 1 with (fail)
    refine wp_region_lit ?_
    refine wpList_val rfl (.agg Z24) w (by as_aux_lemma => kernel_rfl) ?_
    refine wpList_val rfl (.pointer (some ⟨w.heap.size, 0, none⟩)) (w.alloc (.cells Z24 125)) (by as_aux_lemma => kernel_rfl) ?_
    refine wpList_store_row rfl 125 (.tmp 3) (.tmp 6) rfl w.heap.size Z24 rfl rfl 125 Z24 (heap_alloc_new _ _) (by as_aux_lemma => kernel_rfl) rfl (by as_aux_lemma => kernel_rfl) ?_
    rw [row_same _ _ _ _ (heap_alloc_new _ _)]
    generalize w.alloc (.cells Z24 125) = wq at HB0 ⊢
    generalize Value.agg Z24 = ag
    go_wp2
    go_ret
    exact ⟨rfl, HB0.out⟩
  · rw [if_neg c2] at h
    have hn : l0.length ≤ 24 := by omega
    have HN := Aside0.mk hn
    clear hn
    have c2b0 : decide (24 < (l0.length : Int)) = false := decide_eq_false c2
    have c2b1 : decide (24 < l0.length) = false := decide_eq_false (by omega)
    clear c2
    have H' := Aside0.mk h
    clear h
    go_enter Try.func98, Try.ntmps98
    go_upto_region 1 with (fail)
    refine wp_region_lit ?_
    refine wpList_val rfl (.agg Z24) w (by as_aux_lemma => kernel_rfl) ?_
    refine wpList_val rfl (.pointer (some ⟨w.heap.size, 0, none⟩)) (w.alloc (.cells Z24 125)) (by as_aux_lemma => kernel_rfl) ?_
    refine wpList_store_row rfl 125 (.tmp 3) (.tmp 6) rfl w.heap.size Z24 rfl rfl 125 Z24 (heap_alloc_new _ _) (by as_aux_lemma => kernel_rfl) rfl (by as_aux_lemma => kernel_rfl) ?_
    rw [row_same _ _ _ _ (heap_alloc_new _ _)]
    generalize w.alloc (.cells Z24 125) = wq at HB0 HST ⊢
    generalize Value.agg Z24 = ag
    go_wp2
    go_loopg [12] k (fun kq v12 w' => ∃ (s : List Bool) (i : Int), v12 = .int .i64 i ∧ Aside0 (impl_PermOk.l0 kq l0 s i = some r) ∧ Aside0 (kq ≤ k) ∧ Aside0 (s.length = 24) ∧ Aside0 (Kd.R Kd.bool 125 w' w.heap.size (fun _ => True) (.slice (some ⟨w.heap.size, 0, none⟩) 24 24) s) ∧ Aside0 (Below w.heap.size w w'))
    case atStart => exact ⟨List.replicate 24 false, 0, rfl, H', ⟨Nat.le_refl _⟩, ⟨rfl⟩, HST, HB0⟩
    case round =>
      clear H' HST HB0
      obtain ⟨s, i, rfl, HA, HK1, HS, HO, HB⟩ := hrel
      cases gk with
      | zero => exact absurd HA.out (by simp [impl_PermOk.l0])
      | succ k1 =>
        have H := HA.out
        clear HA
        simp only [impl_PermOk.l0] at H
        by_cases c3 : i < (l0.length : Int)
        · rw [if_pos c3] at H
          have c4 := cp_ H
          replace H := ca_ H
          have c3b0 := decide_eq_true c3
          have c4b0 := decide_eq_true c4
          obtain ⟨ad, e0, hx⟩ := Kd.at_int HR0.out i c4 c3
          cases e0
          replace hx := (HB.out.cell (World.block_lt_of_cell? w _ hx)).trans hx
          replace c3 := eq_true c3
          replace c4 := eq_true c4
          by_cases c5 : rd l0 i < 0
          · rw [if_pos c5] at H
            have c5b0 := decide_eq_true c5
            clear c5
            obtain rfl := Option.some.inj H
            go_wp2
            go_ret
            exact ⟨rfl, HB.out⟩
          · rw [if_neg c5] at H
            have c5b0 := decide_eq_false c5
            by_cases c6 : rd l0 i ≥ (l0.length : Int)
            · rw [if_pos c6] at H
              have c6b0 : decide ((l0.length : Int) ≤ rd l0 i) = true := decide_eq_true c6
              clear c5 c6
              obtain rfl := Option.some.inj H
              go_wp2
              go_ret
              exact ⟨rfl, HB.out⟩
            · rw [if_neg c6] at H
              have c6b0 : decide ((l0.length : Int) ≤ rd l0 i) = false := decide_eq_false c6
              have p1 : 0 ≤ rd l0 i := by omega
              have p2 : rd l0 i < ((24 : Nat) : Int) := by have := HN.out; omega
              have p2' : rd l0 i < 24 := p2
              obtain ⟨hy, hz⟩ := Kd.R_celln false HO.out (rd l0 i) p1 p2
              have p1b : decide (0 ≤ rd l0 i) = true := decide_eq_true p1
              have p2b : decide (rd l0 i < 24) = true := decide_eq_true p2'
              clear c5 c6
              by_cases c7 : rdOf false s (rd l0 i) = true
              · rw [if_pos c7] at H
                rw [c7] at hy
                clear c7
                obtain rfl := Option.some.inj H
                go_wp2
                go_ret
                exact ⟨rfl, HB.out⟩
              · rw [if_neg c7] at H
                replace c7 := Bool.eq_false_iff.mpr c7
                rw [c7] at hy
                clear c7
                have H' := Aside0.mk H
                clear H
                have HP := Kd.R_putg HO.out (rd l0 i) true
                have HP' := Aside0.mk HP
                clear HP
                go_wp2
                go_roundg k1
                case measure => have := HK1.out; omega
                case rel => exact ⟨s.set (rd l0 i).toNat true, wrap64 (i + 1), rfl, H', ⟨by have := HK1.out; omega⟩, ⟨by rw [List.length_set]; exact HS.out⟩, ⟨HP'.out.1⟩, ⟨below_set HB.out (Nat.le_refl _)⟩⟩
        · rw [if_neg c3] at H
          have c3b0 := decide_eq_false c3
          clear c3
          obtain rfl := Option.some.inj H
          go_wp2
          go_ret
          exact ⟨rfl, HB.out⟩
end Go.Proofs.Ytbdnellgioimbaa.A
end
section
namespace Go.Proofs.Ytbdnellgioimbaa.A
open Go.RowKit Go.Proofs.YtbdnellgioimbaaW.PrintWords Go.Proofs.YtbdnellgioimbaaW.PrintLast Go.Proofs.YtbdnellgioimbaaW.PrintMore
attribute [local go_sem] max2_int min2_int max_two min_two max_three min_three max_four min_four
set_option linter.unusedVariables false
set_option linter.unusedSimpArgs false
mutual
def impl_IsTransitive.j0 : Nat → List Int → List Int → Bool → Option (Bool)
  | 0, _, _, _ => none
  | k + 1, x0, x1, x29 => if x29 = true then (some false) else (if 0 ≤ (x0.length : Int) then (if ((x0.length : Int) : Int).toNat ≤ 281474976710656 then ((some (List.replicate ((x0.length : Int) : Int).toNat false : List Bool)).bind fun y329 => (if 0 < (y329.length : Int) then (impl_IsTransitive.l0 k x0 x1 (y329.set (0 : Int).toNat true) (([0] : List Int)) 0) else (none))) else (none)) else (none))
def impl_IsTransitive.l0 : Nat → List Int → List Int → List Bool → List Int → Int → Option (Bool)
  | 0, _, _, _, _, _ => none
  | k + 1, x0, x1, x5, x6, x7 => if x7 < (x6.length : Int) then (if 0 ≤ x7 then (if 0 ≤ (rd x6 x7) then (if (rd x6 x7) < (x0.length : Int) then (if (rd x6 x7) < (x1.length : Int) then ((some (([rd x0 (rd x6 x7), rd x1 (rd x6 x7)] : List Int) : List Int)).bind fun y340 => (impl_IsTransitive.l1 k x0 x1 x5 x6 x7 y340 (y340.length : Int) 0)) else (none)) else (none)) else (none)) else (none)) else (some ((x6.length : Int) == (x0.length : Int)))
def impl_IsTransitive.l1 : Nat → List Int → List Int → List Bool → List Int → Int → List Int → Int → Int → Option (Bool)
  | 0, _, _, _, _, _, _, _, _ => none
  | k + 1, x0, x1, x5, x6, x7, x56, x57, x58 => if x58 < x57 then (if 0 ≤ x58 then (if x58 < (x56.length : Int) then (if 0 ≤ (rd x56 x58) then (if (rd x56 x58) < (x5.length : Int) then (if (rdOf false x5 (rd x56 x58) = true) then (impl_IsTransitive.l1 k x0 x1 x5 x6 x7 x56 x57 (wrap64 (x58 + 1))) else (if x6.length < 17592186044416 then (impl_IsTransitive.l1 k x0 x1 (x5.set ((rd x56 x58) : Int).toNat true) (x6 ++ [rd x56 x58]) x7 x56 x57 (wrap64 (x58 + 1))) else (none))) else (none)) else (none)) else (none)) else (none)) else (impl_IsTransitive.l0 k x0 x1 x5 x6 (wrap64 (x7 + 1)))
end
def impl_IsTransitive.f (k : Nat) (l0 : List Int) (l1 : List Int) : Option (Bool) := (impl_PermOk.f k l0).bind fun t327 => (if t327 = true then ((impl_PermOk.f k l1).bind fun t328 => (if t328 = true then (if (l0.length : Int) = (l1.length : Int) then (impl_IsTransitive.j0 k l0 l1 ((l0.length : Int) == 0)) else (impl_IsTransitive.j0 k l0 l1 true)) else (impl_IsTransitive.j0 k l0 l1 true))) else (impl_IsTransitive.j0 k l0 l1 true))
theorem impl_IsTransitive.mono_l : ∀ k, (∀ y0 y1 y2, LeO (impl_IsTransitive.j0 k y0 y1 y2) (impl_IsTransitive.j0 (k + 1) y0 y1 y2)) ∧ (∀ y0 y1 y2 y3 y4, LeO (impl_IsTransitive.l0 k y0 y1 y2 y3 y4) (impl_IsTransitive.l0 (k + 1) y0 y1 y2 y3 y4)) ∧ (∀ y0 y1 y2 y3 y4 y5 y6 y7, LeO (impl_IsTransitive.l1 k y0 y1 y2 y3 y4 y5 y6 y7) (impl_IsTransitive.l1 (k + 1) y0 y1 y2 y3 y4 y5 y6 y7))
  | 0 => ⟨fun _ _ _ r h => by simp [impl_IsTransitive.j0] at h, fun _ _ _ _ _ r h => by simp [impl_IsTransitive.l0] at h, fun _ _ _ _ _ _ _ _ r h => by simp [impl_IsTransitive.l1] at h⟩
  | k + 1 => by
    obtain ⟨ih0, ih1, ih2⟩ := impl_IsTransitive.mono_l k
    refine ⟨?_, ?_, ?_⟩
    · intro y0 y1 y2
      unfold impl_IsTransitive.j0
      repeat' first|exact ih0 _ _ _|exact ih1 _ _ _ _ _|exact ih2 _ _ _ _ _ _ _ _|exact impl_PermOk.mono _ _|exact lo_|refine LeO.ite ?_ ?_|refine LeO.bind ?_ (fun _ => ?_)
    · intro y0 y1 y2 y3 y4
      unfold impl_IsTransitive.l0
      repeat' first|exact ih0 _ _ _|exact ih1 _ _ _ _ _|exact ih2 _ _ _ _ _ _ _ _|exact impl_PermOk.mono _ _|exact lo_|refine LeO.ite ?_ ?_|refine LeO.bind ?_ (fun _ => ?_)
    · intro y0 y1 y2 y3 y4 y5 y6 y7
      unfold impl_IsTransitive.l1
      repeat' first|exact ih0 _ _ _|exact ih1 _ _ _ _ _|exact ih2 _ _ _ _ _ _ _ _|exact impl_PermOk.mono _ _|exact lo_|refine LeO.ite ?_ ?_|refine LeO.bind ?_ (fun _ => ?_)
theorem impl_IsTransitive.mono : ∀ a0 a1 k, LeO (impl_IsTransitive.f k a0 a1) (impl_IsTransitive.f (k + 1) a0 a1) := by
  intro a0 a1 k
  obtain ⟨ih0, ih1, ih2⟩ := impl_IsTransitive.mono_l k
  unfold impl_IsTransitive.f
  repeat' first|exact ih0 _ _ _|exact ih1 _ _ _ _ _|exact ih2 _ _ _ _ _ _ _ _|exact impl_PermOk.mono _ _|exact lo_|refine LeO.ite ?_ ?_|refine LeO.bind ?_ (fun _ => ?_)
def impl_IsTransitive.T9 : Bool × List (List Nat × List Nat) := (true, [([], []), ([], []), ([], []), ([1, 2], [1, 2]), ([3], [3]), ([0, 4], [0, 4]), ([5], [5]), ([], []), ([], []), ([], []), ([8, 9], [8, 9]), ([10], [10]), ([7, 11], [7, 11]), ([12], [12]), ([6, 13], [6, 13]), ([14], [14]), ([], [])])
def impl_IsTransitive.B9 : List Nat := [0, 0, 0, 6, 14, 31, 63, 0, 0, 0, 768, 1792, 3968, 8064, 16383, 32767, 0]
theorem impl_IsTransitive.tab9 : rtab .any (opsOf Try.f114 9) = impl_IsTransitive.T9 := by kernel_rfl
theorem impl_IsTransitive.bits9 : waitsOk impl_IsTransitive.T9.2 impl_IsTransitive.B9 = true := by kernel_rfl
set_option maxHeartbeats 8000000 in
set_option maxRecDepth 100000 in
theorem impl_IsTransitive.calls (k : Nat) (A0 : Option Addr) (c0 : Nat) (l0 : List Int) (A1 : Option Addr) (c1 : Nat) (l1 : List Int) (r : Bool) (w : World) (hr0 : Kd.C (Kd.int .i64) w A0 l0.length l0) (hc0 : l0.length ≤ c0) (hr1 : Kd.C (Kd.int .i64) w A1 l1.length l1) (hc1 : l1.length ≤ c1) (h : impl_IsTransitive.f k l0 l1 = some r) :
    Calls Try.prog 114 #[.slice A0 l0.length c0, .slice A1 l1.length c1] w fun e w' => e = .returned (.bool r) ∧ Below w.heap.size w w' := by
  have HR0 := Aside0.mk hr0
  have HC0 := Aside0.mk hc0
  clear hr0 hc0
  have HR1 := Aside0.mk hr1
  have HC1 := Aside0.mk hc1
  clear hr1 hc1
  have HB := Aside0.mk (Below.refl w.heap.size w)
  have H := h
  unfold impl_IsTransitive.f at H
  clear h
  have HC3 := Aside0.mk H
  clear H
  go_enter Try.func114, Try.ntmps114
  go_upto_region 1 with (fail)
  go_cut [29] (fun v29 wc => ∃ (kq : Nat) (x29_2 : Bool), v29 = .bool x29_2 ∧ Aside0 (impl_IsTransitive.j0 kq l0 l1 x29_2 = some r) ∧ Aside0 (kq ≤ k) ∧ Aside0 (Below w.heap.size w wc))
  case first =>
    have H := HC3.out
    clear HC3
    obtain ⟨t327, A4, H⟩ := bi_ H
    by_cases c5 : t327 = true
    · subst c5
      rw [if_pos rfl] at H
      obtain ⟨t328, A6, H⟩ := bi_ H
      by_cases c7 : t328 = true
      · subst c7
        rw [if_pos rfl] at H
        by_cases c8 : (l0.length : Int) = (l1.length : Int)
        · rw [if_pos c8] at H
          have c8b0 : ((l0.length : Int) == (l1.length : Int)) = true := beq_iff_eq.mpr c8
          have c8b1 : ((l0.length : Int) != (l1.length : Int)) = false := bne_eq_false_iff_eq.mpr c8
          have c8b2 : (l0.length == l1.length) = true := by first | simpa using c8 | (simp at c8 ⊢; omega)
          clear c8
          (first | rw [c8b0] | (simp only [i64_w, i32_w]; rw [c8b0]) | skip)
          have H' := Aside0.mk H
          clear H
          go_wp2_with (first | ((with_reducible refine gate_callee (f := 98) rfl ?_); refine gL_ (some 11) Try.func98 #[.slice A0 l0.length c0] rfl qa_ ?_; (with_reducible refine (impl_PermOk.calls k _ _ l0 true _ (cb_ HR0) HC0.out A4.out).mono ?_); rintro e w9 ⟨rfl, hb⟩; refine ⟨_, rfl, ?_⟩; replace HB := b1_ hb; clear hb) | (go_at_call 98; (with_reducible refine (impl_PermOk.calls k _ _ l1 true _ (cb_ HR1) HC1.out A6.out).mono ?_); rintro e w10 ⟨rfl, hb⟩; replace HB := b1_ hb; clear hb))
          go_meet
          case rel => exact ⟨_, (((l0.length : Int) == 0)), qc_, H', ⟨qd_⟩, ⟨hB_⟩⟩
        · rw [if_neg c8] at H
          have c8b0 : ((l0.length : Int) == (l1.length : Int)) = false := beq_eq_false_iff_ne.mpr c8
          have c8b1 : ((l0.length : Int) != (l1.length : Int)) = true := bne_iff_ne.mpr c8
          have c8b2 : (l0.length == l1.length) = false := by first | simpa using c8 | (simp at c8 ⊢; omega)
          (first | rw [c8b0] | (simp only [i64_w, i32_w]; rw [c8b0]) | skip)
          have H' := Aside0.mk H
          clear H
          go_wp2_with (first | ((with_reducible refine gate_callee (f := 98) rfl ?_); refine gL_ (some 11) Try.func98 #[.slice A0 l0.length c0] rfl qa_ ?_; (with_reducible refine (impl_PermOk.calls k _ _ l0 true _ (cb_ HR0) HC0.out A4.out).mono ?_); rintro e w11 ⟨rfl, hb⟩; refine ⟨_, rfl, ?_⟩; replace HB := b1_ hb; clear hb) | (go_at_call 98; (with_reducible refine (impl_PermOk.calls k _ _ l1 true _ (cb_ HR1) HC1.out A6.out).mono ?_); rintro e w12 ⟨rfl, hb⟩; replace HB := b1_ hb; clear hb))
          go_meet
          case rel => exact ⟨_, (true), qc_, H', ⟨qd_⟩, ⟨hB_⟩⟩
      · replace c7 := Bool.eq_false_iff.mpr c7
        subst c7
        have H1 : (impl_IsTransitive.j0 k l0 l1 true) = some r := by rw [if_neg (show ¬ (false = true) by decide)] at H; exact H
        clear H
        have H := H1
        clear H1
        have H' := Aside0.mk H
        clear H
        go_wp2_with (first | ((with_reducible refine gate_callee (f := 98) rfl ?_); refine gL_ (some 11) Try.func98 #[.slice A0 l0.length c0] rfl qa_ ?_; (with_reducible refine (impl_PermOk.calls k _ _ l0 true _ (cb_ HR0) HC0.out A4.out).mono ?_); rintro e w13 ⟨rfl, hb⟩; refine ⟨_, rfl, ?_⟩; replace HB := b1_ hb; clear hb) | (go_at_call 98; (with_reducible refine (impl_PermOk.calls k _ _ l1 false _ (cb_ HR1) HC1.out A6.out).mono ?_); rintro e w14 ⟨rfl, hb⟩; replace HB := b1_ hb; clear hb))
        go_meet
        case rel => exact ⟨_, (true), qc_, H', ⟨qd_⟩, ⟨hB_⟩⟩
    · replace c5 := Bool.eq_false_iff.mpr c5
      subst c5
      have H1 : (impl_IsTransitive.j0 k l0 l1 true) = some r := by rw [if_neg (show ¬ (false = true) by decide)] at H; exact H
      clear H
      have H := H1
      clear H1
      have H' := Aside0.mk H
      clear H
      go_wp2_with (first | ((with_reducible refine gate_callee (f := 98) rfl ?_); refine gL_ (some 11) Try.func98 #[.slice A0 l0.length c0] rfl qa_ ?_; (with_reducible refine (impl_PermOk.calls k _ _ l0 false _ (cb_ HR0) HC0.out A4.out).mono ?_); rintro e w15 ⟨rfl, hb⟩; refine ⟨_, rfl, ?_⟩; replace HB := b1_ hb; clear hb))
      go_meet
      case rel => exact ⟨_, (true), qc_, H', ⟨qd_⟩, ⟨hB_⟩⟩
  case rest =>
    clear HC3
    obtain ⟨kq, x29_2, rfl, HA, HJ2, HB⟩ := hcut
    cases kq with
    | zero => exact absurd HA.out (by simp [impl_IsTransitive.j0])
    | succ kj2 =>
      have H := HA.out
      clear HA
      simp only [impl_IsTransitive.j0] at H
      by_cases c16 : x29_2 = true
      · subst c16
        rw [if_pos rfl] at H
        obtain rfl := Option.some.inj H
        go_wp2
        go_ret
        exact ⟨qb_, hB_⟩
      · replace c16 := Bool.eq_false_iff.mpr c16
        subst c16
        have H1 : (if 0 ≤ (l0.length : Int) then (if ((l0.length : Int) : Int).toNat ≤ 281474976710656 then ((some (List.replicate ((l0.length : Int) : Int).toNat false : List Bool)).bind fun y329 => (if 0 < (y329.length : Int) then (impl_IsTransitive.l0 kj2 l0 l1 (y329.set (0 : Int).toNat true) (([0] : List Int)) 0) else (none))) else (none)) else (none)) = some r := by rw [if_neg (show ¬ (false = true) by decide)] at H; exact H
        clear H
        have H := H1
        clear H1
        have c17 := cp_ H
        replace H := ca_ H
        have c17b0 := eq_true c17
        have c17b1 := decide_eq_true c17
        clear c17
        have c18 := cp_ H
        replace H := ca_ H
        have c18b0 := eq_true c18
        have c18b1 := decide_eq_true c18
        clear c18
        obtain ⟨y329, hy329⟩ : ∃ y_ : List Bool, y_ = (List.replicate ((l0.length : Int) : Int).toNat false) := ⟨_, rfl⟩
        replace H : (if 0 < (y329.length : Int) then (impl_IsTransitive.l0 kj2 l0 l1 (y329.set (0 : Int).toNat true) (([0] : List Int)) 0) else (none)) = some r := by first | (rw [hy329]; exact H) | exact H
        have Ny329 := Aside0.mk hy329
        clear hy329
        have c19 := cp_ H
        replace H := ca_ H
        have c19b0 := decide_eq_true c19
        have c19b1 : decide (0 < y329.length) = true := decide_eq_true (by omega)
        clear c19
        obtain ⟨y332, hy332⟩ : ∃ y_ : List Bool, y_ = (y329.set (0 : Int).toNat true) := ⟨_, rfl⟩
        replace H : (impl_IsTransitive.l0 kj2 l0 l1 y332 (([0] : List Int)) 0) = some r := by first | (rw [hy332]; exact H) | exact H
        have Ny332 := Aside0.mk hy332
        clear hy332
        obtain ⟨y333, hy333⟩ : ∃ y_ : List Int, y_ = (([0] : List Int)) := ⟨_, rfl⟩
        replace H : (impl_IsTransitive.l0 kj2 l0 l1 y332 y333 0) = some r := by first | (rw [hy333]; exact H) | exact H
        have Ny333 := Aside0.mk hy333
        clear hy333
        have H' := Aside0.mk H
        clear H
        go_wp2_with (first | ((with_reducible refine gate_dst (N := 32) rfl ?_); (try (refine gate_guard (by rfl) ?_; dsimp only)); refine Kd.R_make Kd.bool _ 4 rfl (N := 32) rfl 98 _ _ rfl (l0.length : Int) rfl rfl Try.underlying98 (.bool false) 1 info4 rfl (by decide) (by omega) false (ok := fun _ => True) (okp := fun _ => True) rfl (fun _ hk => hk) trivial (of_decide_eq_true qe_) (Nat.le_trans (Nat.mul_le_mul_right _ (of_decide_eq_true qe_ : (l0.length : Int).toNat ≤ 281474976710656)) (by omega)) (Below.refl _ _) (Nat.le_refl _) ?_; intro v330 w21 ho22 hb hg_ hnew_; clear hg_ hnew_; (first | rw [← Ny329.out] at ho22 | (simp only [Int.reduceToNat] at ho22; rw [← Ny329.out] at ho22)); have HO331 := rl_ w ho22; replace HB := b1_ hb; clear hb ho22; have p20 : 0 ≤ (0 : Int) := (by omega); have q20 : (0 : Int) < ((y329.length : Int) : Int) := of_decide_eq_true qe_; have qi20 : (0 < y329.length) = True := eq_true (by omega); obtain ⟨go20, co20, eo20, gb20, gl20, cl20, HG20⟩ := Kd.R_form HO331.out (by omega); (first | cases eo20 | (injection eo20 with ea_ en_ ec_; (first | subst ea_ | (injection ea_ with ea_; subst ea_)); subst ec_; clear en_)); have GB20 := Aside0.mk gb20; have GG20 := Aside0.mk HG20; clear gb20 gl20 HG20; obtain ⟨hx20_0, hf20_0⟩ := Kd.R_celln false HO331.out (0 : Int) p20 q20; (try rw [show ((0 : Int)).toNat = 0 from rfl] at hx20_0); (try simp only [Nat.reduceMul, Nat.zero_mul, Nat.zero_add, Nat.reduceAdd] at hx20_0); (try rw [show ((0 : Int)).toNat = 0 from rfl] at hf20_0); (try simp only [Nat.reduceMul, Nat.zero_mul, Nat.zero_add, Nat.reduceAdd] at hf20_0); replace p20 := eq_true p20; replace q20 := eq_true q20; obtain ⟨hy23_, hz23_⟩ := Kd.R_celln false HO331.out (0 : Int) (by omega) (of_decide_eq_true qe_); (try simp only [Int.reduceToNat, Int.toNat_zero, Int.toNat_ofNat, Nat.reduceMul, Nat.zero_mul, Nat.zero_add] at hy23_ hz23_); (try rw [show ((0 : Int)).toNat = 0 from rfl] at hy23_); (try rw [show ((0 : Int)).toNat = 0 from rfl] at hz23_); have HP23 := Kd.R_putg HO331.out (0 : Int) true) | ((with_reducible refine gate_store (t := 4) (p := 34) rfl ?_); refine store_event (t := 4) (p := 34) (v := ?vo_w24) (w1 := (w21.setCell ⟨go20, (0 : Int).toNat, none⟩ (.bool true))) ?hg ?ho ?hn ?hr ?_; (case ho => rfl); (case hg => rfl); (case hn => rfl); (case hr => first | (go_simp; done) | (go_simp; rfl)); intro w24 hw; have hg : w21.grownBy w24 (some go20) := (by rw [hw]; exact HP23.2); have hp_ : Kd.R Kd.bool 4 w24 w.heap.size (fun _ => True) (.slice (some ⟨go20, 0, none⟩) y329.length co20) y332 := (by rw [hw, Ny332.out]; exact HP23.1); clear HP23; replace HO331 := Aside0.mk (hp_); replace HB := Aside0.mk ((by rw [hw]; exact below_set (HB.out) GB20.out : Below w.heap.size w w24)); clear hg hw hp_) | ((with_reducible refine gate_dst (N := 35) rfl ?_); (try (refine gate_guard (by rfl) ?_; dsimp only)); refine Kd.R_lit (Kd.int .i64) _ 3 ?hg (N := 35) ?hd (xs := ([0] : List Int)) (inner := [.int .i64 0]) (ok := fun _ => True) (okp := fun _ => True) ?hr ?hp (fun _ hk => hk) trivial (Below.refl _ _) (Nat.le_refl _) (by simp) ?_; (case hd => rfl); (case hg => rfl); (case hr => first | (go_simp; done) | (go_simp; rfl)); (case hp => exact (Reps.one (show Kd.M (Kd.int .i64) _ _ _ 0 [.int .i64 0] from rfl) (Reps.none _ _))); intro v334 w25 ho26 hb hg_ hnew_; clear hg_ hnew_; (first | rw [← Ny333.out] at ho26 | (simp only [Int.reduceToNat] at ho26; rw [← Ny333.out] at ho26)); replace HO331 := rb_ HO331 hb; have HO335 := rl_ w ho26; replace HB := b1_ hb; clear hb ho26))
        go_loopg [6, 7] kj2 (fun kq v6 v7 w' => ∃ (x5_2 : List Bool) (x6_2 : List Int) (x7_2 : Int), v7 = .int .i64 x7_2 ∧ Aside0 (impl_IsTransitive.l0 kq l0 l1 x5_2 x6_2 x7_2 = some r) ∧ Aside0 (kq ≤ kj2) ∧ Aside0 (Kd.R Kd.bool 4 w' w.heap.size (fun _ => True) (.slice (some ⟨go20, 0, none⟩) y329.length co20) x5_2) ∧ Aside0 (Kd.R (Kd.int .i64) 3 w' w.heap.size (fun _ => True) v6 x6_2) ∧ Aside0 (Below w.heap.size w w'))
        case atStart => exact ⟨(y332), (y333), (0), qc_, H', ⟨Nat.le_refl _⟩, ⟨(rr_ HO331)⟩, ⟨(rr_ HO335)⟩, ⟨hB_⟩⟩
        case round =>
          clear H'
          obtain ⟨x5_2, x6_2, x7_2, rfl, HA, HK2, HO_5, HO_6, HB⟩ := hrel
          have hl5_2 := (Kd.R_reads' HO_5.out).1
          rw [hl5_2] at HO_5
          (try simp only [hl5_2])
          (try simp only [hl5_2] at HO_6)
          cases gk with
          | zero => exact absurd HA.out (by simp [impl_IsTransitive.l0])
          | succ k2 =>
            have H := HA.out
            clear HA
            simp only [impl_IsTransitive.l0] at H
            by_cases c27 : x7_2 < (x6_2.length : Int)
            · rw [if_pos c27] at H
              have c27b0 := decide_eq_true c27
              clear c27
              have c28 := cp_ H
              replace H := ca_ H
              have c28b0 := decide_eq_true c28
              clear c28
              have c29 := cp_ H
              replace H := ca_ H
              have c29b0 := decide_eq_true c29
              clear c29
              have c30 := cp_ H
              replace H := ca_ H
              have c30b0 := decide_eq_true c30
              clear c30
              have c31 := cp_ H
              replace H := ca_ H
              have c31b0 := decide_eq_true c31
              clear c31
              obtain ⟨y340, hy340⟩ : ∃ y_ : List Int, y_ = (([rd l0 (rd x6_2 x7_2), rd l1 (rd x6_2 x7_2)] : List Int)) := ⟨_, rfl⟩
              replace H : (impl_IsTransitive.l1 k2 l0 l1 x5_2 x6_2 x7_2 y340 (y340.length : Int) 0) = some r := by first | (rw [hy340]; exact H) | exact H
              have Ny340 := Aside0.mk hy340
              clear hy340
              have H' := Aside0.mk H
              clear H
              obtain ⟨Ao32, co32, eo32⟩ := Kd.R_slice HO_6.out
              subst eo32
              try go_wp2
              replace HO_5 := Aside0.mk (Kd.R_drew HO_5.out)
              replace HO_6 := Aside0.mk (Kd.R_drew HO_6.out)
              replace HB := Aside0.mk (below_drew1 HB.out)
              have p336 : 0 ≤ (x7_2 : Int) := of_decide_eq_true qe_
              have q336 : x7_2 < (x6_2.length : Int) := of_decide_eq_true qe_
              obtain ⟨ad336, e336, hx336_0⟩ := Kd.at_int (Kd.R_reads' HO_6.out).2.2 x7_2 p336 q336
              cases e336
              replace p336 := eq_true p336
              replace q336 := eq_true q336
              have p337 : 0 ≤ ((rd x6_2 x7_2) : Int) := of_decide_eq_true qe_
              have q337 : (rd x6_2 x7_2) < (l0.length : Int) := of_decide_eq_true qe_
              obtain ⟨ad337, e337, hx337_0⟩ := Kd.at_int HR0.out (rd x6_2 x7_2) p337 q337
              have hw337_0 := hx337_0
              cases e337
              replace hx337_0 := (HB.out.cell (World.block_lt_of_cell? w _ hx337_0)).trans hx337_0
              replace p337 := eq_true p337
              replace q337 := eq_true q337
              have p338 : 0 ≤ (x7_2 : Int) := of_decide_eq_true qe_
              have q338 : x7_2 < (x6_2.length : Int) := of_decide_eq_true qe_
              obtain ⟨ad338, e338, hx338_0⟩ := Kd.at_int (Kd.R_reads' HO_6.out).2.2 x7_2 p338 q338
              obtain rfl : ad336 = ad338 := (by injection e338)
              replace p338 := eq_true p338
              replace q338 := eq_true q338
              have p339 : 0 ≤ ((rd x6_2 x7_2) : Int) := of_decide_eq_true qe_
              have q339 : (rd x6_2 x7_2) < (l1.length : Int) := of_decide_eq_true qe_
              obtain ⟨ad339, e339, hx339_0⟩ := Kd.at_int HR1.out (rd x6_2 x7_2) p339 q339
              have hw339_0 := hx339_0
              cases e339
              replace hx339_0 := (HB.out.cell (World.block_lt_of_cell? w _ hx339_0)).trans hx339_0
              replace p339 := eq_true p339
              replace q339 := eq_true q339
              refine start_ (n := 17) (S := fun w' => w'.cell? (ad336.add (x7_2).toNat) = some (.int .i64 (rd x6_2 x7_2)) ∧ w'.cell? (ad337.add ((rd x6_2 x7_2)).toNat) = some (.int .i64 (rd l0 (rd x6_2 x7_2))) ∧ w'.cell? (ad336.add (x7_2).toNat) = some (.int .i64 (rd x6_2 x7_2)) ∧ w'.cell? (ad339.add ((rd x6_2 x7_2)).toNat) = some (.int .i64 (rd l1 (rd x6_2 x7_2)))) (ds := []) (bl_ 17 0) (by kernel_rfl) rfl (by kernel_rfl) ⟨hx336_0, ((HB.out.cell (World.block_lt_of_cell? w _ hw337_0)).trans hw337_0), hx338_0, ((HB.out.cell (World.block_lt_of_cell? w _ hw339_0)).trans hw339_0)⟩ (fun hHeld => ?_); refine with_tabW impl_IsTransitive.tab9 impl_IsTransitive.bits9 (fun HT_ HW_ => ?_)
              generalize wr.drew = w33 at HO_5 HO_6 HB hx336_0 hx337_0 hx338_0 hx339_0 hHeld ⊢
              refine pu_ 0 (some 42) (bl_ 17 1) HT_ ?_
              refine pu_ 1 (some 43) (bl_ 17 3) HT_ ?_
              refine pu_ 2 (some 44) (bl_ 17 7) HT_ ?_
              refine pu_ 3 (some 45) (bl_ 17 15) HT_ ?_
              refine pu_ 7 (some 49) (bl_ 17 143) HT_ ?_
              refine pu_ 8 (some 50) (bl_ 17 399) HT_ ?_
              refine pu_ 9 (some 51) (bl_ 17 911) HT_ ?_
              refine pu_ 10 (some 52) (bl_ 17 1935) HT_ ?_
              refine pu_ 16 (some 58) (bl_ 17 67471) HT_ ?_
              refine ta_ 4 (some 46) (bl_ 17 67487) HT_ HW_ hHeld ?_
              refine pu_ 5 (some 47) (bl_ 17 67519) HT_ ?_
              refine ta_ 6 (some 48) (bl_ 17 67583) HT_ HW_ hHeld ?_
              refine ta_ 11 (some 53) (bl_ 17 69631) HT_ HW_ hHeld ?_
              refine pu_ 12 (some 54) (bl_ 17 73727) HT_ ?_
              refine ta_ 13 (some 55) (bl_ 17 81919) HT_ HW_ hHeld ?_
              refine on_ 14 (some 56) (bl_ 17 98303) HT_ (fun K hK => ?_)
              refine Kd.R_lit_step (Kd.int .i64) _ 3 ?hg (N := 56) ?hd (xs := ([rd l0 (rd x6_2 x7_2), rd l1 (rd x6_2 x7_2)] : List Int)) (inner := [.int .i64 (rd l0 (rd x6_2 x7_2)), .int .i64 (rd l1 (rd x6_2 x7_2))]) (ok := fun _ => True) (okp := fun _ => True) ?hr ?hp (fun _ hk => hk) trivial (Below.refl _ _) (Nat.le_refl _) (by simp) ?_; (case hd => rfl); (case hg => rfl); (case hr => first | (go_simp; done) | (go_simp; rfl)); (case hp => exact (Reps.one (show Kd.M (Kd.int .i64) _ _ _ (rd l0 (rd x6_2 x7_2)) [.int .i64 (rd l0 (rd x6_2 x7_2))] from rfl) (Reps.one (show Kd.M (Kd.int .i64) _ _ _ (rd l1 (rd x6_2 x7_2)) [.int .i64 (rd l1 (rd x6_2 x7_2))] from rfl) (Reps.none _ _))))
              intro v341 w34 ho35 hb hg_ hnew_
              have HS0_ := (hb.cell (World.block_lt_of_cell? _ _ (hHeld.1))).trans (hHeld.1)
              have HS2_ := (hb.cell (World.block_lt_of_cell? _ _ (hHeld.2.2.1))).trans (hHeld.2.2.1)
              clear hg_ hnew_
              (first | rw [← Ny340.out] at ho35 | (simp only [Int.reduceToNat] at ho35; rw [← Ny340.out] at ho35))
              replace HO_5 := rb_ HO_5 hb
              have HO342 := Aside0.mk (Kd.R_lower (Kd.R_new' ho35 (Kd.R_lt (rr_ HO_6))) (below_size hB_))
              replace HO_6 := Aside0.mk (Kd.R_elder' (rr_ HO_6) (Kd.R_base ho35) hb)
              replace HB := b1_ hb
              clear hb ho35
              obtain ⟨Ao36, co36, eo36⟩ := Kd.R_slice HO342.out
              (first | subst eo36 | (injection eo36 with f1_ f2_ f3_; have f4_ := f1_.symm; have f5_ := f3_.symm; clear f1_ f2_ f3_; subst f4_; subst f5_))
              refine hK.out _ _ ⟨HS0_, ((HB.out.cell (World.block_lt_of_cell? w _ hw337_0)).trans hw337_0), HS2_, ((HB.out.cell (World.block_lt_of_cell? w _ hw339_0)).trans hw339_0)⟩ (fun hHeld => ?_)
              clear hK K
              refine no_ (some 56) ?_
              refine pu_ 15 (some 57) (bl_ 17 131071) HT_ ?_
              refine done_ (done_of HT_.out (by kernel_rfl)) ?_
              try go_wp2
              go_loopg [6, 58] k2 (fun kq v6 v58 w' => ∃ (x5_3 : List Bool) (x6_3 : List Int) (x58_3 : Int), v58 = .int .i64 x58_3 ∧ Aside0 (impl_IsTransitive.l1 kq l0 l1 x5_3 x6_3 x7_2 y340 (y340.length : Int) x58_3 = some r) ∧ Aside0 (kq ≤ k2) ∧ Aside0 (Kd.R Kd.bool 4 w' w.heap.size (fun _ => True) (.slice (some ⟨go20, 0, none⟩) x5_2.length co20) x5_3) ∧ Aside0 (Kd.R (Kd.int .i64) 3 w' w.heap.size (fun k_ => some k_ ≠ ((.slice Ao36 y340.length co36) : Value).ownBlock) v6 x6_3) ∧ Aside0 (Kd.R (Kd.int .i64) 3 w' w.heap.size (fun k_ => some k_ ≠ (v6 : Value).ownBlock) (.slice Ao36 y340.length co36) y340) ∧ Aside0 (Below w.heap.size w w'))
              case atStart => exact ⟨(x5_2), (x6_2), (0), qc_, H', ⟨Nat.le_refl _⟩, ⟨by (try simp only [hl5_2]); (with_reducible repeat (first | apply Kd.R_alloc | apply Kd.R_drewN | apply Kd.R_drew)); exact HO_5.out⟩, ⟨by (try simp only [hl5_2]); (with_reducible repeat (first | apply Kd.R_alloc | apply Kd.R_drewN | apply Kd.R_drew)); exact Kd.R_mono HO_6.out (fun _ hk => hk.2)⟩, ⟨by (try simp only [hl5_2]); (with_reducible repeat (first | apply Kd.R_alloc | apply Kd.R_drewN | apply Kd.R_drew)); exact Kd.R_mono HO342.out (fun _ hk => hk.2)⟩, ⟨hB_⟩⟩
              case round =>
                clear H'
                obtain ⟨x5_3, x6_3, x58_3, rfl, HA, HK3, HO_5, HO_6, HO_56, HB⟩ := hrel
                have hl5_3 := (Kd.R_reads' HO_5.out).1
                rw [hl5_3] at HO_5
                (try simp only [hl5_3])
                (try simp only [hl5_3] at HO_6)
                (try simp only [hl5_3] at HO_56)
                cases gk with
                | zero => exact absurd HA.out (by simp [impl_IsTransitive.l1])
                | succ k3 =>
                  have H := HA.out
                  clear HA
                  simp only [impl_IsTransitive.l1] at H
                  by_cases c37 : x58_3 < (y340.length : Int)
                  · rw [if_pos c37] at H
                    have c37b0 := decide_eq_true c37
                    clear c37
                    have c38 := cp_ H
                    replace H := ca_ H
                    have c38b0 := decide_eq_true c38
                    clear c38
                    have c39 := cp_ H
                    replace H := ca_ H
                    have c39b0 := decide_eq_true c39
                    clear c39
                    have c40 := cp_ H
                    replace H := ca_ H
                    have c40b0 := decide_eq_true c40
                    clear c40
                    have c41 := cp_ H
                    replace H := ca_ H
                    have c41b0 := decide_eq_true c41
                    clear c41
                    obtain ⟨bq42, hbq42⟩ : ∃ b_ : Bool, b_ = (rdOf false x5_3 (rd y340 x58_3)) := ⟨_, rfl⟩
                    replace H : (if (bq42 = true) then (impl_IsTransitive.l1 k3 l0 l1 x5_3 x6_3 x7_2 y340 (y340.length : Int) (wrap64 (x58_3 + 1))) else (if x6_3.length < 17592186044416 then (impl_IsTransitive.l1 k3 l0 l1 (x5_3.set ((rd y340 x58_3) : Int).toNat true) (x6_3 ++ [rd y340 x58_3]) x7_2 y340 (y340.length : Int) (wrap64 (x58_3 + 1))) else (none))) = some r := by rw [← hbq42] at H; exact H
                    have Nbq42 := Aside0.mk hbq42
                    clear hbq42
                    by_cases c43 : (bq42 = true)
                    · subst c43
                      rw [if_pos rfl] at H
                      have H' := Aside0.mk H
                      clear H
                      have p343 : 0 ≤ (x58_3 : Int) := of_decide_eq_true qe_
                      have q343 : x58_3 < (y340.length : Int) := of_decide_eq_true qe_
                      obtain ⟨ad343, e343, hx343_0⟩ := Kd.at_int (Kd.R_reads' HO_56.out).2.2 x58_3 p343 q343
                      cases e343
                      replace p343 := eq_true p343
                      replace q343 := eq_true q343
                      have p344 : 0 ≤ ((rd y340 x58_3) : Int) := of_decide_eq_true qe_
                      have q344 : (rd y340 x58_3) < (x5_3.length : Int) := of_decide_eq_true qe_
                      obtain ⟨ad344, e344, hx344_0⟩ := Kd.at_bool (Kd.R_reads' HO_5.out).2.2 (rd y340 x58_3) p344 q344
                      (try rw [← Nbq42.out] at hx344_0)
                      obtain rfl : (⟨go20, 0, none⟩ : Addr) = ad344 := (by injection e344)
                      (first | simp only [add_plain] at hx344_0 | simp only [add_at] at hx344_0 | simp only [Addr.add, Nat.zero_add] at hx344_0 | skip)
                      replace p344 := eq_true p344
                      replace q344 := eq_true q344
                      go_wp2
                      (try simp only [← hl5_3])
                      go_roundg k3
                      case measure => have := HJ2.out; have := HK2.out; have := HK3.out; omega
                      case rel => exact ⟨(x5_3), (x6_3), (wrap64 (x58_3 + 1)), qc_, H', ⟨by have := HJ2.out; have := HK2.out; have := HK3.out; omega⟩, ⟨by (try simp only [hl5_2]); (try simp only [hl5_3]); (with_reducible repeat (first | apply Kd.R_alloc | apply Kd.R_drewN | apply Kd.R_drew)); exact HO_5.out⟩, ⟨by (try simp only [hl5_2]); (try simp only [hl5_3]); (with_reducible repeat (first | apply Kd.R_alloc | apply Kd.R_drewN | apply Kd.R_drew)); exact HO_6.out⟩, ⟨by (try simp only [hl5_2]); (try simp only [hl5_3]); (with_reducible repeat (first | apply Kd.R_alloc | apply Kd.R_drewN | apply Kd.R_drew)); exact HO_56.out⟩, ⟨hB_⟩⟩
                    · replace c43 := Bool.eq_false_iff.mpr c43
                      subst c43
                      have H1 : (if x6_3.length < 17592186044416 then (impl_IsTransitive.l1 k3 l0 l1 (x5_3.set ((rd y340 x58_3) : Int).toNat true) (x6_3 ++ [rd y340 x58_3]) x7_2 y340 (y340.length : Int) (wrap64 (x58_3 + 1))) else (none)) = some r := by rw [if_neg (show ¬ (false = true) by decide)] at H; exact H
                      clear H
                      have H := H1
                      clear H1
                      obtain ⟨y345, hy345⟩ : ∃ y_ : List Bool, y_ = (x5_3.set ((rd y340 x58_3) : Int).toNat true) := ⟨_, rfl⟩
                      replace H : (if x6_3.length < 17592186044416 then (impl_IsTransitive.l1 k3 l0 l1 y345 (x6_3 ++ [rd y340 x58_3]) x7_2 y340 (y340.length : Int) (wrap64 (x58_3 + 1))) else (none)) = some r := by first | (rw [hy345]; exact H) | exact H
                      have Ny345 := Aside0.mk hy345
                      clear hy345
                      have c45 := cp_ H
                      replace H := ca_ H
                      have LMc45 := Aside0.mk c45
                      clear c45
                      obtain ⟨y346, hy346⟩ : ∃ y_ : List Int, y_ = (x6_3 ++ [rd y340 x58_3]) := ⟨_, rfl⟩
                      replace H : (impl_IsTransitive.l1 k3 l0 l1 y345 y346 x7_2 y340 (y340.length : Int) (wrap64 (x58_3 + 1))) = some r := by first | (rw [hy346]; exact H) | exact H
                      have Ny346 := Aside0.mk hy346
                      clear hy346
                      have H' := Aside0.mk H
                      clear H
                      have p343 : 0 ≤ (x58_3 : Int) := of_decide_eq_true qe_
                      have q343 : x58_3 < (y340.length : Int) := of_decide_eq_true qe_
                      obtain ⟨ad343, e343, hx343_0⟩ := Kd.at_int (Kd.R_reads' HO_56.out).2.2 x58_3 p343 q343
                      cases e343
                      replace p343 := eq_true p343
                      replace q343 := eq_true q343
                      have p344 : 0 ≤ ((rd y340 x58_3) : Int) := of_decide_eq_true qe_
                      have q344 : (rd y340 x58_3) < (x5_3.length : Int) := of_decide_eq_true qe_
                      obtain ⟨ad344, e344, hx344_0⟩ := Kd.at_bool (Kd.R_reads' HO_5.out).2.2 (rd y340 x58_3) p344 q344
                      (try rw [← Nbq42.out] at hx344_0)
                      obtain rfl : (⟨go20, 0, none⟩ : Addr) = ad344 := (by injection e344)
                      (first | simp only [add_plain] at hx344_0 | simp only [add_at] at hx344_0 | simp only [Addr.add, Nat.zero_add] at hx344_0 | skip)
                      replace p344 := eq_true p344
                      replace q344 := eq_true q344
                      have p44 : 0 ≤ ((rd y340 x58_3) : Int) := of_decide_eq_true qe_
                      have q44 : ((rd y340 x58_3) : Int) < ((x5_3.length : Int) : Int) := of_decide_eq_true qe_
                      obtain ⟨hx44_0, hf44_0⟩ := Kd.R_celln false HO_5.out ((rd y340 x58_3) : Int) p44 q44
                      replace p44 := eq_true p44
                      replace q44 := eq_true q44
                      have HP46 := Kd.R_putg HO_5.out ((rd y340 x58_3) : Int) true
                      go_wp2_with (first | ((with_reducible refine gate_store (t := 4) (p := 69) rfl ?_); refine store_event (t := 4) (p := 69) (v := ?vo_w47) (w1 := (wr.setCell ⟨go20, ((rd y340 x58_3) : Int).toNat, none⟩ (.bool true))) ?hg ?ho ?hn ?hr ?_; (case ho => rfl); (case hg => rfl); (case hn => rfl); (case hr => first | (go_simp; done) | (go_simp; rfl)); intro w47 hw; have hg : wr.grownBy w47 (some go20) := (by rw [hw]; exact HP46.2); have hp_ : Kd.R Kd.bool 4 w47 w.heap.size (fun _ => True) (.slice (some ⟨go20, 0, none⟩) x5_3.length co20) y345 := (by rw [hw, Ny345.out]; exact HP46.1); clear HP46; replace HO_6 := Aside0.mk (Kd.R_over' (v := (.slice (some ⟨go20, 0, none⟩) x5_3.length co20)) (rr_ HO_6) (Kd.R_typed HO_5.out) (by decide) hg); replace HO_56 := Aside0.mk (Kd.R_over' (v := (.slice (some ⟨go20, 0, none⟩) x5_3.length co20)) (rr_ HO_56) (Kd.R_typed HO_5.out) (by decide) hg); replace HO_5 := Aside0.mk (hp_); replace HB := Aside0.mk ((by rw [hw]; exact below_set (HB.out) GB20.out : Below w.heap.size w w47)); clear hg hw hp_) | ((with_reducible refine gate_builtin (b := .append) (xs := #[.tmp 70, .tmp 72]) rfl ?_); (try (refine gate_guard (by rfl) ?_; dsimp only)); at_builtin; refine Kd.R_append (Kd.int .i64) (w0 := w) w.heap.size rfl (.tmp 70) (.tmp 72) 22 3 (.int .i64 0) 8 rfl Try.underlying22 info3 rfl (by decide) (by omega) u6 x6_3 (rd y340 x58_3) [.int .i64 (rd y340 x58_3)] (fun k_ => some k_ ≠ (.slice (some ad343) y340.length co36 : Value).ownBlock) (fun _ => False) rfl rfl ?aP (fun _ hk => hk.elim) ?aF ?aO ?aB ?aS ?aL ?_; (case aP => exact rfl); (case aB => exact hB_); (case aF => exact (fun k_ hk => Kd.fresh' (Kd.R_lt (rr_ HO_56)) k_ hk)); (case aO => exact (rr_ HO_6)); (case aS => exact (below_size hB_)); (case aL => have := LMc45.out; omega); intro v347 w48 ho hb hg hat; rw [← Ny346.out] at ho; replace HO_5 := Aside0.mk (Kd.R_over' (rr_ HO_5) (Kd.R_typed (rr_ HO_6)) (by decide) hg); replace HO_56 := Aside0.mk (Kd.R_after (ok := (fun _ => True)) (rw_ (Kd.R_mono HO_56.out (fun _ hk => ⟨trivial, hk⟩))) hg hat); replace HB := Aside0.mk hb; have HO348 := Aside0.mk ho; clear HO_6; clear ho hb hg hat))
                      (try simp only [← hl5_3])
                      go_roundg k3
                      case measure => have := HJ2.out; have := HK2.out; have := HK3.out; omega
                      case rel => exact ⟨(y345), (y346), (wrap64 (x58_3 + 1)), qc_, H', ⟨by have := HJ2.out; have := HK2.out; have := HK3.out; omega⟩, ⟨by (try simp only [hl5_2]); (try simp only [hl5_3]); (with_reducible repeat (first | apply Kd.R_alloc | apply Kd.R_drewN | apply Kd.R_drew)); exact HO_5.out⟩, ⟨by (try simp only [hl5_2]); (try simp only [hl5_3]); (with_reducible repeat (first | apply Kd.R_alloc | apply Kd.R_drewN | apply Kd.R_drew)); exact HO348.out⟩, ⟨by (try simp only [hl5_2]); (try simp only [hl5_3]); (with_reducible repeat (first | apply Kd.R_alloc | apply Kd.R_drewN | apply Kd.R_drew)); exact Kd.R_mono HO_56.out (fun _ hk => hk.2)⟩, ⟨hB_⟩⟩
                  · rw [if_neg c37] at H
                    have c37b0 := decide_eq_false c37
                    clear c37
                    have H' := Aside0.mk H
                    clear H
                    go_wp2
                    (try simp only [← hl5_2, ← hl5_3])
                    go_roundg k3
                    case measure => have := HJ2.out; have := HK2.out; have := HK3.out; omega
                    case rel => exact ⟨(x5_3), (x6_3), (wrap64 (x7_2 + 1)), qc_, H', ⟨by have := HJ2.out; have := HK2.out; have := HK3.out; omega⟩, ⟨by (try simp only [hl5_2]); (try simp only [hl5_3]); (with_reducible repeat (first | apply Kd.R_alloc | apply Kd.R_drewN | apply Kd.R_drew)); exact HO_5.out⟩, ⟨by (try simp only [hl5_2]); (try simp only [hl5_3]); (with_reducible repeat (first | apply Kd.R_alloc | apply Kd.R_drewN | apply Kd.R_drew)); exact Kd.R_mono HO_6.out (fun _ hk => trivial)⟩, ⟨hB_⟩⟩
            · rw [if_neg c27] at H
              have c27b0 := decide_eq_false c27
              clear c27
              obtain rfl := Option.some.inj H
              obtain ⟨Ao49, co49, eo49⟩ := Kd.R_slice HO_6.out
              subst eo49
              go_wp2
              go_ret
              exact ⟨qb_, hB_⟩
end Go.Proofs.Ytbdnellgioimbaa.A
end
section
namespace Go.Proofs.Ytbdnellgioimbaa.A
open Go.RowKit Go.Proofs.YtbdnellgioimbaaW.PrintWords Go.Proofs.YtbdnellgioimbaaW.PrintLast Go.Proofs.YtbdnellgioimbaaW.PrintMore
attribute [local go_sem] max2_int min2_int max_two min_two max_three min_three max_four min_four
set_option linter.unusedVariables false
set_option linter.unusedSimpArgs false
def impl_SurfaceOk.f (k : Nat) (l0_0 : List Int) (l0_1 : List Int) : Option (Bool) := (impl_IsTransitive.f k l0_0 l0_1).bind fun t350 => (some t350)
theorem impl_SurfaceOk.mono : ∀ a0 a1 k, LeO (impl_SurfaceOk.f k a0 a1) (impl_SurfaceOk.f (k + 1) a0 a1) := by
  intro a0 a1 k
  unfold impl_SurfaceOk.f
  repeat' first|exact impl_IsTransitive.mono _ _ _|exact lo_|refine LeO.ite ?_ ?_|refine LeO.bind ?_ (fun _ => ?_)
set_option maxHeartbeats 8000000 in
set_option maxRecDepth 100000 in
theorem impl_SurfaceOk.calls (k : Nat) (A0_0 : Option Addr) (c0_0 : Nat) (l0_0 : List Int) (A0_1 : Option Addr) (c0_1 : Nat) (l0_1 : List Int) (r : Bool) (w : World) (hr0_0 : Kd.C (Kd.int .i64) w A0_0 l0_0.length l0_0) (hc0_0 : l0_0.length ≤ c0_0) (hr0_1 : Kd.C (Kd.int .i64) w A0_1 l0_1.length l0_1) (hc0_1 : l0_1.length ≤ c0_1) (h : impl_SurfaceOk.f k l0_0 l0_1 = some r) :
    Calls Try.prog 65 #[.agg #[.slice A0_0 l0_0.length c0_0, .slice A0_1 l0_1.length c0_1]] w fun e w' => e = .returned (.bool r) ∧ Below w.heap.size w w' := by
  have hu27 := Try.underlying27
  have HR0_0 := Aside0.mk hr0_0
  have HC0_0 := Aside0.mk hc0_0
  clear hr0_0 hc0_0
  have HR0_1 := Aside0.mk hr0_1
  have HC0_1 := Aside0.mk hc0_1
  clear hr0_1 hc0_1
  have HB := Aside0.mk (Below.refl w.heap.size w)
  have H := h
  unfold impl_SurfaceOk.f at H
  clear h
  obtain ⟨t350, A2, H⟩ := bi_ H
  obtain rfl := Option.some.inj H
  go_enter Try.func65, Try.ntmps65
  go_wp2_with (first | ((with_reducible refine gate_dst (N := 1) rfl ?_); refine bx_ 1 #[.slice A0_0 l0_0.length c0_0, .slice A0_1 l0_1.length c0_1] 27 ?_; intro gb349 hg w3 hbox hb; have BK349 := Aside0.mk hbox; have GW349 := gw_ w hg; have GE349 := GW349; replace HB := b1_ hb; clear hb hbox hg; obtain ⟨hcz4_0, hcz4_1, hfz4_0, hfz4_1⟩ := c2_ BK349) | ((with_reducible refine gate_callee (f := 114) rfl ?_); refine gL_ (some 7) Try.func114 #[.slice A0_0 l0_0.length c0_0, .slice A0_1 l0_1.length c0_1] rfl qa_ ?_; (with_reducible refine (impl_IsTransitive.calls k _ _ l0_0 _ _ l0_1 t350 _ (cb_ HR0_0) HC0_0.out (cb_ HR0_1) HC0_1.out A2.out).mono ?_); rintro e w5 ⟨rfl, hb⟩; refine ⟨_, rfl, ?_⟩; replace BK349 := bb_ BK349 hb; replace HB := b1_ hb; clear hb))
  go_ret
  exact ⟨qb_, hB_⟩
end Go.Proofs.Ytbdnellgioimbaa.A
end
section
namespace Go.Proofs.Ytbdnellgioimbaa.A
open Go.RowKit Go.Proofs.YtbdnellgioimbaaW.PrintWords Go.Proofs.YtbdnellgioimbaaW.PrintLast Go.Proofs.YtbdnellgioimbaaW.PrintMore
attribute [local go_sem] max2_int min2_int max_two min_two max_three min_three max_four min_four
set_option linter.unusedVariables false
set_option linter.unusedSimpArgs false
mutual
def impl_CyclesOf.l0 : Nat → List Int → List Bool → List (List Int) → Int → Int → Option ((List (List Int)))
  | 0, _, _, _, _, _ => none
  | k + 1, x0, x3, x4, x16, x17 => if x17 < x16 then (if 0 ≤ x17 then (if x17 < (x3.length : Int) then (if rdOf false x3 x17 = true then (impl_CyclesOf.l0 k x0 x3 x4 x16 (wrap64 (x17 + 1))) else (impl_CyclesOf.l1 k x0 x3 x4 (([] : List Int)) x17 x16 x17)) else (none)) else (none)) else (some x4)
def impl_CyclesOf.l1 : Nat → List Int → List Bool → List (List Int) → List Int → Int → Int → Int → Option ((List (List Int)))
  | 0, _, _, _, _, _, _, _ => none
  | k + 1, x0, x3, x4, x6, x7, x16, x17 => if 0 ≤ x7 then (if x7 < (x3.length : Int) then (if rdOf false x3 x7 = true then (if x4.length < 5864062014805 then (impl_CyclesOf.l0 k x0 x3 (x4 ++ [x6]) x16 (wrap64 (x17 + 1))) else (none)) else (if x6.length < 17592186044416 then (if x7 < (x0.length : Int) then (impl_CyclesOf.l1 k x0 (x3.set (x7 : Int).toNat true) x4 (x6 ++ [x7]) (rd x0 x7) x16 x17) else (none)) else (none))) else (none)) else (none)
end
def impl_CyclesOf.f (k : Nat) (l0 : List Int) : Option ((List (List Int))) := (impl_PermOk.f k l0).bind fun t420 => (if t420 = true then (if 0 ≤ (l0.length : Int) then (if ((l0.length : Int) : Int).toNat ≤ 281474976710656 then (impl_CyclesOf.l0 k l0 (List.replicate ((l0.length : Int) : Int).toNat false) (([] : List (List Int))) (l0.length : Int) 0) else (none)) else (none)) else (some ([] : List (List Int))))
theorem impl_CyclesOf.mono_l : ∀ k, (∀ y0 y1 y2 y3 y4, LeO (impl_CyclesOf.l0 k y0 y1 y2 y3 y4) (impl_CyclesOf.l0 (k + 1) y0 y1 y2 y3 y4)) ∧ (∀ y0 y1 y2 y3 y4 y5 y6, LeO (impl_CyclesOf.l1 k y0 y1 y2 y3 y4 y5 y6) (impl_CyclesOf.l1 (k + 1) y0 y1 y2 y3 y4 y5 y6))
  | 0 => ⟨fun _ _ _ _ _ r h => by simp [impl_CyclesOf.l0] at h, fun _ _ _ _ _ _ _ r h => by simp [impl_CyclesOf.l1] at h⟩
  | k + 1 => by
    obtain ⟨ih0, ih1⟩ := impl_CyclesOf.mono_l k
    refine ⟨?_, ?_⟩
    · intro y0 y1 y2 y3 y4
      unfold impl_CyclesOf.l0
      repeat' first|exact ih0 _ _ _ _ _|exact ih1 _ _ _ _ _ _ _|exact impl_PermOk.mono _ _|exact lo_|refine LeO.ite ?_ ?_|refine LeO.bind ?_ (fun _ => ?_)
    · intro y0 y1 y2 y3 y4 y5 y6
      unfold impl_CyclesOf.l1
      repeat' first|exact ih0 _ _ _ _ _|exact ih1 _ _ _ _ _ _ _|exact impl_PermOk.mono _ _|exact lo_|refine LeO.ite ?_ ?_|refine LeO.bind ?_ (fun _ => ?_)
theorem impl_CyclesOf.mono : ∀ a0 k, LeO (impl_CyclesOf.f k a0) (impl_CyclesOf.f (k + 1) a0) := by
  intro a0 k
  obtain ⟨ih0, ih1⟩ := impl_CyclesOf.mono_l k
  unfold impl_CyclesOf.f
  repeat' first|exact ih0 _ _ _ _ _|exact ih1 _ _ _ _ _ _ _|exact impl_PermOk.mono _ _|exact lo_|refine LeO.ite ?_ ?_|refine LeO.bind ?_ (fun _ => ?_)
set_option maxHeartbeats 8000000 in
set_option maxRecDepth 100000 in
theorem impl_CyclesOf.calls (k : Nat) (A0 : Option Addr) (c0 : Nat) (l0 : List Int) (r : List (List Int)) (w : World) (hr0 : Kd.C (Kd.int .i64) w A0 l0.length l0) (hc0 : l0.length ≤ c0) (h : impl_CyclesOf.f k l0 = some r) :
    Calls Try.prog 56 #[.slice A0 l0.length c0] w fun e w' => ∃ v0_ : Value, e = .returned (v0_) ∧ Kd.S (Kd.slice 3 (Kd.int .i64)) 22 w' w.heap.size (fun _ => True) v0_ r ∧ Below w.heap.size w w' := by
  have HR0 := Aside0.mk hr0
  have HC0 := Aside0.mk hc0
  clear hr0 hc0
  have HB := Aside0.mk (Below.refl w.heap.size w)
  have H := h
  unfold impl_CyclesOf.f at H
  clear h
  obtain ⟨t420, A2, H⟩ := bi_ H
  by_cases c3 : t420 = true
  · subst c3
    rw [if_pos rfl] at H
    have c4 := cp_ H
    replace H := ca_ H
    have c4b0 := eq_true c4
    have c4b1 := decide_eq_true c4
    clear c4
    have c5 := cp_ H
    replace H := ca_ H
    have c5b0 := eq_true c5
    have c5b1 := decide_eq_true c5
    clear c5
    obtain ⟨y421, hy421⟩ : ∃ y_ : List Bool, y_ = (List.replicate ((l0.length : Int) : Int).toNat false) := ⟨_, rfl⟩
    replace H : (impl_CyclesOf.l0 k l0 y421 (([] : List (List Int))) (l0.length : Int) 0) = some r := by first | (rw [hy421]; exact H) | exact H
    have Ny421 := Aside0.mk hy421
    clear hy421
    obtain ⟨y424, hy424⟩ : ∃ y_ : List (List Int), y_ = (([] : List (List Int))) := ⟨_, rfl⟩
    replace H : (impl_CyclesOf.l0 k l0 y421 y424 (l0.length : Int) 0) = some r := by first | (rw [hy424]; exact H) | exact H
    have Ny424 := Aside0.mk hy424
    clear hy424
    have H' := Aside0.mk H
    clear H
    go_enter Try.func56, Try.ntmps56
    go_wp2_with (first | ((with_reducible refine gate_callee (f := 98) rfl ?_); refine gL_ (some 9) Try.func98 #[.slice A0 l0.length c0] rfl qa_ ?_; (with_reducible refine (impl_PermOk.calls k _ _ l0 true _ (cc_ HR0) HC0.out A2.out).mono ?_); rintro e w6 ⟨rfl, hb⟩; refine ⟨_, rfl, ?_⟩; replace HB := b1_ hb; clear hb) | ((with_reducible refine gate_dst (N := 13) rfl ?_); refine Kd.R_make Kd.bool _ 4 rfl (N := 13) rfl 98 _ _ rfl (l0.length : Int) rfl rfl Try.underlying98 (.bool false) 1 info4 rfl (by decide) (by omega) false (ok := fun _ => True) (okp := fun _ => True) rfl (fun _ hk => hk) trivial (of_decide_eq_true qe_) (Nat.le_trans (Nat.mul_le_mul_right _ (of_decide_eq_true qe_ : (l0.length : Int).toNat ≤ 281474976710656)) (by omega)) (Below.refl _ _) (Nat.le_refl _) ?_; intro v422 w7 ho8 hb hg_ hnew_; clear hg_ hnew_; (first | rw [← Ny421.out] at ho8 | (simp only [Int.reduceToNat] at ho8; rw [← Ny421.out] at ho8)); have HO423 := rl_ w ho8; replace HB := b1_ hb; clear hb ho8) | ((with_reducible refine gate_dst (N := 14) rfl ?_); refine Kd.S_lit (Kd.slice 3 (Kd.int .i64)) _ 22 ?hg (N := 14) ?hd (xs := ([] : List (List Int))) (inner := []) (ok := fun _ => True) (okp := fun _ => True) ?hr ?hp (fun _ hk => hk) trivial (Below.refl _ _) (Nat.le_refl _) (by simp) ?_; (case hd => rfl); (case hg => rfl); (case hr => first | (go_simp; done) | (go_simp; rfl)); (case hp => exact (Reps.none _ _)); intro v425 w9 ho10 hb hg_ hnew_; clear hg_ hnew_; (first | rw [← Ny424.out] at ho10 | (simp only [Int.reduceToNat] at ho10; rw [← Ny424.out] at ho10)); replace HO423 := rb_ HO423 hb; have HO426 := Aside0.mk (Kd.S_lower ho10 (below_size hB_)); replace HB := b1_ hb; clear hb ho10))
    go_loopg [4, 17] k (fun kq v4 v17 w' => ∃ (x3_1 : List Bool) (x4_1 : List (List Int)) (x17_1 : Int), v17 = .int .i64 x17_1 ∧ Aside0 (impl_CyclesOf.l0 kq l0 x3_1 x4_1 (l0.length : Int) x17_1 = some r) ∧ Aside0 (kq ≤ k) ∧ Aside0 (Kd.R Kd.bool 4 w' w.heap.size (fun _ => True) v422 x3_1) ∧ Aside0 (Kd.S (Kd.slice 3 (Kd.int .i64)) 22 w' w.heap.size (fun _ => True) v4 x4_1) ∧ Aside0 (Below w.heap.size w w'))
    case atStart => exact ⟨(y421), (y424), (0), qc_, H', ⟨Nat.le_refl _⟩, ⟨(rr_ HO423)⟩, ⟨(ss_ HO426)⟩, ⟨hB_⟩⟩
    case round =>
      clear H'
      obtain ⟨x3_1, x4_1, x17_1, rfl, HA, HK1, HO_3, HO_4, HB⟩ := hrel
      cases gk with
      | zero => exact absurd HA.out (by simp [impl_CyclesOf.l0])
      | succ k1 =>
        have H := HA.out
        clear HA
        simp only [impl_CyclesOf.l0] at H
        by_cases c11 : x17_1 < (l0.length : Int)
        · rw [if_pos c11] at H
          have c11b0 := decide_eq_true c11
          clear c11
          have c12 := cp_ H
          replace H := ca_ H
          have c12b0 := decide_eq_true c12
          clear c12
          have c13 := cp_ H
          replace H := ca_ H
          have c13b0 := decide_eq_true c13
          clear c13
          obtain ⟨bq14, hbq14⟩ : ∃ b_ : Bool, b_ = (rdOf false x3_1 x17_1) := ⟨_, rfl⟩
          replace H : (if bq14 = true then (impl_CyclesOf.l0 k1 l0 x3_1 x4_1 (l0.length : Int) (wrap64 (x17_1 + 1))) else (impl_CyclesOf.l1 k1 l0 x3_1 x4_1 (([] : List Int)) x17_1 (l0.length : Int) x17_1)) = some r := by rw [← hbq14] at H; exact H
          have Nbq14 := Aside0.mk hbq14
          clear hbq14
          by_cases c15 : bq14 = true
          · subst c15
            rw [if_pos rfl] at H
            have H' := Aside0.mk H
            clear H
            obtain ⟨Ao16, co16, eo16⟩ := Kd.R_slice HO_3.out
            subst eo16
            have p427 : 0 ≤ (x17_1 : Int) := of_decide_eq_true qe_
            have q427 : x17_1 < (x3_1.length : Int) := of_decide_eq_true qe_
            obtain ⟨ad427, e427, hx427_0⟩ := Kd.at_bool (Kd.R_reads' HO_3.out).2.2 x17_1 p427 q427
            (try rw [← Nbq14.out] at hx427_0)
            cases e427
            replace p427 := eq_true p427
            replace q427 := eq_true q427
            go_wp2
            go_roundg k1
            case measure => have := HK1.out; omega
            case rel => exact ⟨(x3_1), (x4_1), (wrap64 (x17_1 + 1)), qc_, H', ⟨by have := HK1.out; omega⟩, ⟨(rr_ HO_3)⟩, ⟨(ss_ HO_4)⟩, ⟨hB_⟩⟩
          · replace c15 := Bool.eq_false_iff.mpr c15
            subst c15
            have H1 : (impl_CyclesOf.l1 k1 l0 x3_1 x4_1 (([] : List Int)) x17_1 (l0.length : Int) x17_1) = some r := by rw [if_neg (show ¬ (false = true) by decide)] at H; exact H
            clear H
            have H := H1
            clear H1
            obtain ⟨y428, hy428⟩ : ∃ y_ : List Int, y_ = (([] : List Int)) := ⟨_, rfl⟩
            replace H : (impl_CyclesOf.l1 k1 l0 x3_1 x4_1 y428 x17_1 (l0.length : Int) x17_1) = some r := by first | (rw [hy428]; exact H) | exact H
            have Ny428 := Aside0.mk hy428
            clear hy428
            have H' := Aside0.mk H
            clear H
            obtain ⟨Ao17, co17, eo17⟩ := Kd.R_slice HO_3.out
            subst eo17
            have p427 : 0 ≤ (x17_1 : Int) := of_decide_eq_true qe_
            have q427 : x17_1 < (x3_1.length : Int) := of_decide_eq_true qe_
            obtain ⟨ad427, e427, hx427_0⟩ := Kd.at_bool (Kd.R_reads' HO_3.out).2.2 x17_1 p427 q427
            (try rw [← Nbq14.out] at hx427_0)
            cases e427
            obtain ⟨g427, rfl⟩ : ∃ g_, ad427 = (⟨g_, 0, none⟩ : Addr) := Kd.R_head HO_3.out
            (try simp only [add_plain] at hx427_0)
            replace p427 := eq_true p427
            replace q427 := eq_true q427
            go_wp2_with (first | ((with_reducible refine gate_dst (N := 24) rfl ?_); refine Kd.R_lit (Kd.int .i64) _ 3 ?hg (N := 24) ?hd (xs := ([] : List Int)) (inner := []) (ok := fun _ => True) (okp := fun _ => True) ?hr ?hp (fun _ hk => hk) trivial (Below.refl _ _) (Nat.le_refl _) (by simp) ?_; (case hd => rfl); (case hg => rfl); (case hr => first | (go_simp; done) | (go_simp; rfl)); (case hp => exact (Reps.none _ _)); intro v429 w18 ho19 hb hg_ hnew_; clear hg_ hnew_; (first | rw [← Ny428.out] at ho19 | (simp only [Int.reduceToNat] at ho19; rw [← Ny428.out] at ho19)); replace HO_3 := rb_ HO_3 hb; replace HO_4 := Aside0.mk (Kd.S_elder' (ss_ HO_4) (Kd.R_base ho19) hb); have HO430 := rl_ w ho19; replace HB := b1_ hb; clear hb ho19))
            go_loopg [6, 7] k1 (fun kq v6 v7 w' => ∃ (x3_2 : List Bool) (x6_2 : List Int) (x7_2 : Int), v7 = .int .i64 x7_2 ∧ Aside0 (impl_CyclesOf.l1 kq l0 x3_2 x4_1 x6_2 x7_2 (l0.length : Int) x17_1 = some r) ∧ Aside0 (kq ≤ k1) ∧ Aside0 (Kd.R Kd.bool 4 w' w.heap.size (fun _ => True) (.slice (some (⟨g427, 0, none⟩ : Addr)) x3_1.length co17) x3_2) ∧ Aside0 (Kd.S (Kd.slice 3 (Kd.int .i64)) 22 w' w.heap.size (fun k_ => some k_ ≠ (v6 : Value).ownBlock) u4 x4_1) ∧ Aside0 (Kd.R (Kd.int .i64) 3 w' w.heap.size (fun _ => True) v6 x6_2) ∧ Aside0 (Below w.heap.size w w'))
            case atStart => exact ⟨(x3_1), (y428), (x17_1), qc_, H', ⟨Nat.le_refl _⟩, ⟨(rr_ HO_3)⟩, ⟨(sw_ (Kd.S_mono HO_4.out (fun _ hk => hk.2)))⟩, ⟨(rr_ HO430)⟩, ⟨hB_⟩⟩
            case round =>
              clear H'
              obtain ⟨x3_2, x6_2, x7_2, rfl, HA, HK2, HO_3, HO_4, HO_6, HB⟩ := hrel
              have hl3_2 := (Kd.R_reads' HO_3.out).1
              rw [hl3_2] at HO_3
              (try simp only [hl3_2])
              (try simp only [hl3_2] at HO_4)
              (try simp only [hl3_2] at HO_6)
              cases gk with
              | zero => exact absurd HA.out (by simp [impl_CyclesOf.l1])
              | succ k2 =>
                have H := HA.out
                clear HA
                simp only [impl_CyclesOf.l1] at H
                have c20 := cp_ H
                replace H := ca_ H
                have c20b0 := decide_eq_true c20
                clear c20
                have c21 := cp_ H
                replace H := ca_ H
                have c21b0 := decide_eq_true c21
                clear c21
                obtain ⟨bq22, hbq22⟩ : ∃ b_ : Bool, b_ = (rdOf false x3_2 x7_2) := ⟨_, rfl⟩
                replace H : (if bq22 = true then (if x4_1.length < 5864062014805 then (impl_CyclesOf.l0 k2 l0 x3_2 (x4_1 ++ [x6_2]) (l0.length : Int) (wrap64 (x17_1 + 1))) else (none)) else (if x6_2.length < 17592186044416 then (if x7_2 < (l0.length : Int) then (impl_CyclesOf.l1 k2 l0 (x3_2.set (x7_2 : Int).toNat true) x4_1 (x6_2 ++ [x7_2]) (rd l0 x7_2) (l0.length : Int) x17_1) else (none)) else (none))) = some r := by rw [← hbq22] at H; exact H
                have Nbq22 := Aside0.mk hbq22
                clear hbq22
                by_cases c23 : bq22 = true
                · subst c23
                  rw [if_pos rfl] at H
                  have c24 := cp_ H
                  replace H := ca_ H
                  have LMc24 := Aside0.mk c24
                  clear c24
                  obtain ⟨y432, hy432⟩ : ∃ y_ : List (List Int), y_ = (x4_1 ++ [x6_2]) := ⟨_, rfl⟩
                  replace H : (impl_CyclesOf.l0 k2 l0 x3_2 y432 (l0.length : Int) (wrap64 (x17_1 + 1))) = some r := by first | (rw [hy432]; exact H) | exact H
                  have Ny432 := Aside0.mk hy432
                  clear hy432
                  have H' := Aside0.mk H
                  clear H
                  have p431 : 0 ≤ (x7_2 : Int) := of_decide_eq_true qe_
                  have q431 : x7_2 < (x3_2.length : Int) := of_decide_eq_true qe_
                  obtain ⟨ad431, e431, hx431_0⟩ := Kd.at_bool (Kd.R_reads' HO_3.out).2.2 x7_2 p431 q431
                  (try rw [← Nbq14.out] at hx431_0)
                  (try rw [← Nbq22.out] at hx431_0)
                  obtain rfl : (⟨g427, 0, none⟩ : Addr) = ad431 := (by injection e431)
                  (try simp only [add_plain] at hx431_0)
                  replace p431 := eq_true p431
                  replace q431 := eq_true q431
                  obtain ⟨Ao26, co26, eo26⟩ := Kd.R_slice HO_6.out
                  subst eo26
                  go_wp2_with (first | ((with_reducible refine gate_builtin (b := .append) (xs := #[.tmp 42, .tmp 44]) rfl ?_); at_builtin; refine Kd.S_append (Kd.slice 3 (Kd.int .i64)) (w0 := w) w.heap.size rfl (.tmp 42) (.tmp 44) 40 22 (.slice none 0 0) 24 rfl Try.underlying40 info22 rfl (by decide) (by omega) u4 x4_1 x6_2 [.slice Ao26 x6_2.length co26] (fun _ => True) (fun k_ => some k_ = (.slice Ao26 x6_2.length co26 : Value).ownBlock) rfl rfl ?aP (fun k_ hk_ => ((Kd.R_mono (ok' := fun k_ => ((fun _ => True)) k_ ∧ some k_ ≠ (u4 : Value).ownBlock) (Kd.R_apart' (HO_6.out) (Kd.S_typed HO_4.out) (by decide)) (fun k_ hk => ⟨trivial, hk.2⟩))).1 k_ hk_.symm) ?aF ?aO ?aB ?aS ?aL ?_; (case aP => exact Kd.M_row (Kd.R_mono (Kd.R_tight rfl (Kd.R_mono (ok' := fun k_ => ((fun _ => True)) k_ ∧ some k_ ≠ (u4 : Value).ownBlock) (Kd.R_apart' (HO_6.out) (Kd.S_typed HO_4.out) (by decide)) (fun k_ hk => ⟨trivial, hk.2⟩))) (fun _ h_ => h_))); (case aB => exact hB_); (case aF => exact (fun _ _ => trivial)); (case aO => exact (sw_ (Kd.S_mono HO_4.out (fun k_ hk => ⟨trivial, fun e_ => hk e_⟩)))); (case aS => exact (below_size hB_)); (case aL => have := LMc24.out; omega); intro v433 w25 ho hb hg hat; rw [← Ny432.out] at ho; replace HO_3 := Aside0.mk (Kd.R_over' (rr_ HO_3) (Kd.S_typed (ss_ HO_4)) (by decide) hg); replace HB := Aside0.mk hb; have HO434 := Aside0.mk ho; clear HO_4 HO_6; clear ho hb hg hat))
                  (try simp only [← hl3_2])
                  go_roundg k2
                  case measure => have := HK1.out; have := HK2.out; omega
                  case rel => exact ⟨(x3_2), (y432), (wrap64 (x17_1 + 1)), qc_, H', ⟨by have := HK1.out; have := HK2.out; omega⟩, ⟨by (try simp only [hl3_2]); (with_reducible repeat (first | apply Kd.R_alloc | apply Kd.R_drewN | apply Kd.R_drew)); exact HO_3.out⟩, ⟨by (try simp only [hl3_2]); (with_reducible repeat (first | apply Kd.S_alloc | apply Kd.S_drewN | apply Kd.S_drew)); exact HO434.out⟩, ⟨hB_⟩⟩
                · replace c23 := Bool.eq_false_iff.mpr c23
                  subst c23
                  have H1 : (if x6_2.length < 17592186044416 then (if x7_2 < (l0.length : Int) then (impl_CyclesOf.l1 k2 l0 (x3_2.set (x7_2 : Int).toNat true) x4_1 (x6_2 ++ [x7_2]) (rd l0 x7_2) (l0.length : Int) x17_1) else (none)) else (none)) = some r := by rw [if_neg (show ¬ (false = true) by decide)] at H; exact H
                  clear H
                  have H := H1
                  clear H1
                  obtain ⟨y435, hy435⟩ : ∃ y_ : List Bool, y_ = (x3_2.set (x7_2 : Int).toNat true) := ⟨_, rfl⟩
                  replace H : (if x6_2.length < 17592186044416 then (if x7_2 < (l0.length : Int) then (impl_CyclesOf.l1 k2 l0 y435 x4_1 (x6_2 ++ [x7_2]) (rd l0 x7_2) (l0.length : Int) x17_1) else (none)) else (none)) = some r := by first | (rw [hy435]; exact H) | exact H
                  have Ny435 := Aside0.mk hy435
                  clear hy435
                  have c28 := cp_ H
                  replace H := ca_ H
                  have LMc28 := Aside0.mk c28
                  clear c28
                  obtain ⟨y436, hy436⟩ : ∃ y_ : List Int, y_ = (x6_2 ++ [x7_2]) := ⟨_, rfl⟩
                  replace H : (if x7_2 < (l0.length : Int) then (impl_CyclesOf.l1 k2 l0 y435 x4_1 y436 (rd l0 x7_2) (l0.length : Int) x17_1) else (none)) = some r := by first | (rw [hy436]; exact H) | exact H
                  have Ny436 := Aside0.mk hy436
                  clear hy436
                  have c29 := cp_ H
                  replace H := ca_ H
                  have c29b0 := decide_eq_true c29
                  clear c29
                  have H' := Aside0.mk H
                  clear H
                  have p431 : 0 ≤ (x7_2 : Int) := of_decide_eq_true qe_
                  have q431 : x7_2 < (x3_2.length : Int) := of_decide_eq_true qe_
                  obtain ⟨ad431, e431, hx431_0⟩ := Kd.at_bool (Kd.R_reads' HO_3.out).2.2 x7_2 p431 q431
                  (try rw [← Nbq14.out] at hx431_0)
                  (try rw [← Nbq22.out] at hx431_0)
                  obtain rfl : (⟨g427, 0, none⟩ : Addr) = ad431 := (by injection e431)
                  (try simp only [add_plain] at hx431_0)
                  replace p431 := eq_true p431
                  replace q431 := eq_true q431
                  have p27 : 0 ≤ (x7_2 : Int) := of_decide_eq_true qe_
                  have q27 : (x7_2 : Int) < ((x3_2.length : Int) : Int) := of_decide_eq_true qe_
                  obtain ⟨go27, co27, eo27, gb27, gl27, cl27, HG27⟩ := Kd.R_form HO_3.out (by omega)
                  (first | cases eo27 | (injection eo27 with ea_ en_ ec_; (first | subst ea_ | (injection ea_ with ea_; subst ea_)); subst ec_; clear en_))
                  have GB27 := Aside0.mk gb27
                  have GG27 := Aside0.mk HG27
                  clear gb27 gl27 HG27
                  (first | simp only [add_plain] at hx427_0 | skip)
                  (first | simp only [add_plain] at hx431_0 | skip)
                  obtain ⟨hx27_0, hf27_0⟩ := Kd.R_celln false HO_3.out (x7_2 : Int) p27 q27
                  replace p27 := eq_true p27
                  replace q27 := eq_true q27
                  have HP30 := Kd.R_putg HO_3.out (x7_2 : Int) true
                  go_wp2_with (first | ((with_reducible refine gate_store (t := 4) (p := 37) rfl ?_); refine store_event (t := 4) (p := 37) (v := ?vo_w31) (w1 := (wr.setCell ⟨g427, (x7_2 : Int).toNat, none⟩ (.bool true))) ?hg ?ho ?hn ?hr ?_; (case ho => rfl); (case hg => rfl); (case hn => rfl); (case hr => first | (go_simp; done) | (go_simp; rfl)); intro w31 hw; have hg : wr.grownBy w31 (some g427) := (by rw [hw]; exact HP30.2); have hp_ : Kd.R Kd.bool 4 w31 w.heap.size (fun _ => True) (.slice (some ⟨g427, 0, none⟩) x3_2.length co17) y435 := (by rw [hw, Ny435.out]; exact HP30.1); clear HP30; replace HO_4 := Aside0.mk (Kd.S_over' (v := (.slice (some ⟨g427, 0, none⟩) x3_2.length co17)) (ss_ HO_4) (Kd.R_typed HO_3.out) (by decide) hg); replace HO_6 := Aside0.mk (Kd.R_over' (v := (.slice (some ⟨g427, 0, none⟩) x3_2.length co17)) (rr_ HO_6) (Kd.R_typed HO_3.out) (by decide) hg); replace HO_3 := Aside0.mk (hp_); replace HB := Aside0.mk ((by rw [hw]; exact below_set (HB.out) GB27.out : Below w.heap.size w w31)); clear hg hw hp_) | ((with_reducible refine gate_builtin (b := .append) (xs := #[.tmp 38, .tmp 40]) rfl ?_); at_builtin; refine Kd.R_append (Kd.int .i64) (w0 := w) w.heap.size rfl (.tmp 38) (.tmp 40) 22 3 (.int .i64 0) 8 rfl Try.underlying22 info3 rfl (by decide) (by omega) u6 x6_2 x7_2 [.int .i64 x7_2] (fun _ => True) (fun _ => False) rfl rfl ?aP (fun _ hk => hk.elim) ?aF ?aO ?aB ?aS ?aL ?_; (case aP => exact rfl); (case aB => exact hB_); (case aF => exact (fun _ _ => trivial)); (case aO => exact (rr_ HO_6)); (case aS => exact (below_size hB_)); (case aL => have := LMc28.out; omega); intro v437 w32 ho hb hg hat; rw [← Ny436.out] at ho; replace HO_3 := Aside0.mk (Kd.R_over' (rr_ HO_3) (Kd.R_typed (rr_ HO_6)) (by decide) hg); replace HO_4 := Aside0.mk (Kd.S_after (ok := (fun _ => True)) (sw_ (Kd.S_mono HO_4.out (fun _ hk => ⟨trivial, hk⟩))) hg hat); replace HB := Aside0.mk hb; have HO438 := Aside0.mk ho; clear HO_6; clear ho hb hg hat; have p439 : 0 ≤ (x7_2 : Int) := of_decide_eq_true qe_; have q439 : x7_2 < (l0.length : Int) := of_decide_eq_true qe_; obtain ⟨ad439, e439, hx439_0⟩ := Kd.at_int HR0.out x7_2 p439 q439; cases e439; replace hx439_0 := (HB.out.cell (World.block_lt_of_cell? w _ hx439_0)).trans hx439_0; replace p439 := eq_true p439; replace q439 := eq_true q439))
                  (try simp only [← hl3_2])
                  go_roundg k2
                  case measure => have := HK1.out; have := HK2.out; omega
                  case rel => exact ⟨(y435), (y436), (rd l0 x7_2), qc_, H', ⟨by have := HK1.out; have := HK2.out; omega⟩, ⟨by (try simp only [hl3_2]); (with_reducible repeat (first | apply Kd.R_alloc | apply Kd.R_drewN | apply Kd.R_drew)); exact HO_3.out⟩, ⟨by (try simp only [hl3_2]); (with_reducible repeat (first | apply Kd.S_alloc | apply Kd.S_drewN | apply Kd.S_drew)); exact Kd.S_mono HO_4.out (fun _ hk => hk.2)⟩, ⟨by (try simp only [hl3_2]); (with_reducible repeat (first | apply Kd.R_alloc | apply Kd.R_drewN | apply Kd.R_drew)); exact HO438.out⟩, ⟨hB_⟩⟩
        · rw [if_neg c11] at H
          have c11b0 := decide_eq_false c11
          clear c11
          obtain rfl := Option.some.inj H
          go_wp2
          go_ret
          exact ⟨_, qb_, (ss_ HO_4), hB_⟩
  · replace c3 := Bool.eq_false_iff.mpr c3
    subst c3
    have H1 : (some ([] : List (List Int))) = some r := by rw [if_neg (show ¬ (false = true) by decide)] at H; exact H
    clear H
    have H := H1
    clear H1
    obtain rfl := Option.some.inj H
    go_enter Try.func56, Try.ntmps56
    go_wp2_with (first | ((with_reducible refine gate_callee (f := 98) rfl ?_); refine gL_ (some 9) Try.func98 #[.slice A0 l0.length c0] rfl qa_ ?_; (with_reducible refine (impl_PermOk.calls k _ _ l0 false _ (cc_ HR0) HC0.out A2.out).mono ?_); rintro e w33 ⟨rfl, hb⟩; refine ⟨_, rfl, ?_⟩; replace HB := b1_ hb; clear hb))
    go_ret
    exact ⟨_, qb_, by first | exact Kd.S_nil _ _ _ _ _ | exact Kd.N_nil _ _ _ _ _ | exact Kd.V_nil _ _ _ _ _ | exact Kd.Q_nil _ _ _ _ _ | exact Kd.R_nil _ _ _ _ _, hB_⟩
end Go.Proofs.Ytbdnellgioimbaa.A
end
section
namespace Go.Proofs.Ytbdnellgioimbaa.A
open Go.RowKit Go.Proofs.YtbdnellgioimbaaW.PrintWords Go.Proofs.YtbdnellgioimbaaW.PrintLast Go.Proofs.YtbdnellgioimbaaW.PrintMore
attribute [local go_sem] max2_int min2_int max_two min_two max_three min_three max_four min_four
set_option linter.unusedVariables false
set_option linter.unusedSimpArgs false
def impl_InversePerm.l0 : Nat → List Int → List Int → Int → Int → Option (List Int)
  | 0, _, _, _, _ => none
  | k + 1, x3, x12, x13, x14 => if x14 < x13 then (if 0 ≤ x14 then (if x14 < (x12.length : Int) then (if 0 ≤ (rd x12 x14) then (if (rd x12 x14) < (x3.length : Int) then (impl_InversePerm.l0 k (x3.set ((rd x12 x14) : Int).toNat x14) x12 x13 (wrap64 (x14 + 1))) else (none)) else (none)) else (none)) else (none)) else (some x3)
def impl_InversePerm.f (k : Nat) (l0 : List Int) : Option (List Int) := (impl_PermOk.f k l0).bind fun t351 => (if t351 = true then (if 0 ≤ (l0.length : Int) then (if ((l0.length : Int) : Int).toNat ≤ 35184372088832 then (impl_InversePerm.l0 k (List.replicate ((l0.length : Int) : Int).toNat 0) l0 (l0.length : Int) 0) else (none)) else (none)) else (some ([] : List Int)))
theorem impl_InversePerm.mono_l : ∀ k, (∀ y0 y1 y2 y3, LeO (impl_InversePerm.l0 k y0 y1 y2 y3) (impl_InversePerm.l0 (k + 1) y0 y1 y2 y3))
  | 0 => fun _ _ _ _ r h => by simp [impl_InversePerm.l0] at h
  | k + 1 => by
    have ih0 := impl_InversePerm.mono_l k
    · intro y0 y1 y2 y3
      unfold impl_InversePerm.l0
      repeat' first|exact ih0 _ _ _ _|exact impl_PermOk.mono _ _|exact lo_|refine LeO.ite ?_ ?_|refine LeO.bind ?_ (fun _ => ?_)
theorem impl_InversePerm.mono : ∀ a0 k, LeO (impl_InversePerm.f k a0) (impl_InversePerm.f (k + 1) a0) := by
  intro a0 k
  have ih0 := impl_InversePerm.mono_l k
  unfold impl_InversePerm.f
  repeat' first|exact ih0 _ _ _ _|exact impl_PermOk.mono _ _|exact lo_|refine LeO.ite ?_ ?_|refine LeO.bind ?_ (fun _ => ?_)
set_option maxHeartbeats 8000000 in
set_option maxRecDepth 100000 in
theorem impl_InversePerm.calls (k : Nat) (A0 : Option Addr) (c0 : Nat) (l0 : List Int) (r : List Int) (w : World) (hr0 : Kd.C (Kd.int .i64) w A0 l0.length l0) (hc0 : l0.length ≤ c0) (h : impl_InversePerm.f k l0 = some r) :
    Calls Try.prog 119 #[.slice A0 l0.length c0] w fun e w' => ∃ v0_ : Value, e = .returned (v0_) ∧ Kd.R (Kd.int .i64) 3 w' w.heap.size (fun _ => True) v0_ r ∧ Below w.heap.size w w' := by
  have HR0 := Aside0.mk hr0
  have HC0 := Aside0.mk hc0
  clear hr0 hc0
  have HB := Aside0.mk (Below.refl w.heap.size w)
  have H := h
  unfold impl_InversePerm.f at H
  clear h
  obtain ⟨t351, A2, H⟩ := bi_ H
  by_cases c3 : t351 = true
  · subst c3
    rw [if_pos rfl] at H
    have c4 := cp_ H
    replace H := ca_ H
    have c4b0 := eq_true c4
    have c4b1 := decide_eq_true c4
    clear c4
    have c5 := cp_ H
    replace H := ca_ H
    have c5b0 := eq_true c5
    have c5b1 := decide_eq_true c5
    clear c5
    obtain ⟨y352, hy352⟩ : ∃ y_ : List Int, y_ = (List.replicate ((l0.length : Int) : Int).toNat 0) := ⟨_, rfl⟩
    replace H : (impl_InversePerm.l0 k y352 l0 (l0.length : Int) 0) = some r := by first | (rw [hy352]; exact H) | exact H
    have Ny352 := Aside0.mk hy352
    clear hy352
    have H' := Aside0.mk H
    clear H
    go_enter Try.func119, Try.ntmps119
    go_wp2_with (first | ((with_reducible refine gate_callee (f := 98) rfl ?_); refine gL_ (some 7) Try.func98 #[.slice A0 l0.length c0] rfl qa_ ?_; (with_reducible refine (impl_PermOk.calls k _ _ l0 true _ (cc_ HR0) HC0.out A2.out).mono ?_); rintro e w6 ⟨rfl, hb⟩; refine ⟨_, rfl, ?_⟩; replace HB := b1_ hb; clear hb) | ((with_reducible refine gate_dst (N := 11) rfl ?_); refine Kd.R_make (Kd.int .i64) _ 3 rfl (N := 11) rfl 22 _ _ rfl (l0.length : Int) rfl rfl Try.underlying22 (.int .i64 0) 8 info3 rfl (by decide) (by omega) 0 (ok := fun _ => True) (okp := fun _ => True) rfl (fun _ hk => hk) trivial (of_decide_eq_true qe_) (Nat.le_trans (Nat.mul_le_mul_right _ (of_decide_eq_true qe_ : (l0.length : Int).toNat ≤ 35184372088832)) (by omega)) (Below.refl _ _) (Nat.le_refl _) ?_; intro v353 w7 ho8 hb hg_ hnew_; clear hg_ hnew_; (first | rw [← Ny352.out] at ho8 | (simp only [Int.reduceToNat] at ho8; rw [← Ny352.out] at ho8)); have HO354 := rl_ w ho8; replace HB := b1_ hb; clear hb ho8))
    go_loopg [14] k (fun kq v14 w' => ∃ (x3_1 : List Int) (x14_1 : Int), v14 = .int .i64 x14_1 ∧ Aside0 (impl_InversePerm.l0 kq x3_1 l0 (l0.length : Int) x14_1 = some r) ∧ Aside0 (kq ≤ k) ∧ Aside0 (Kd.R (Kd.int .i64) 3 w' w.heap.size (fun _ => True) v353 x3_1) ∧ Aside0 (Below w.heap.size w w'))
    case atStart => exact ⟨(y352), (0), qc_, H', ⟨Nat.le_refl _⟩, ⟨(rr_ HO354)⟩, ⟨hB_⟩⟩
    case round =>
      clear H'
      obtain ⟨x3_1, x14_1, rfl, HA, HK1, HO_3, HB⟩ := hrel
      cases gk with
      | zero => exact absurd HA.out (by simp [impl_InversePerm.l0])
      | succ k1 =>
        have H := HA.out
        clear HA
        simp only [impl_InversePerm.l0] at H
        by_cases c9 : x14_1 < (l0.length : Int)
        · rw [if_pos c9] at H
          have c9b0 := decide_eq_true c9
          clear c9
          have c10 := cp_ H
          replace H := ca_ H
          have c10b0 := decide_eq_true c10
          clear c10
          have c11 := cp_ H
          replace H := ca_ H
          have c11b0 := decide_eq_true c11
          clear c11
          have c12 := cp_ H
          replace H := ca_ H
          have c12b0 := decide_eq_true c12
          clear c12
          have c13 := cp_ H
          replace H := ca_ H
          have c13b0 := decide_eq_true c13
          clear c13
          obtain ⟨y356, hy356⟩ : ∃ y_ : List Int, y_ = (x3_1.set ((rd l0 x14_1) : Int).toNat x14_1) := ⟨_, rfl⟩
          replace H : (impl_InversePerm.l0 k1 y356 l0 (l0.length : Int) (wrap64 (x14_1 + 1))) = some r := by first | (rw [hy356]; exact H) | exact H
          have Ny356 := Aside0.mk hy356
          clear hy356
          have H' := Aside0.mk H
          clear H
          have p355 : 0 ≤ (x14_1 : Int) := of_decide_eq_true qe_
          have q355 : x14_1 < (l0.length : Int) := of_decide_eq_true qe_
          obtain ⟨ad355, e355, hx355_0⟩ := Kd.at_int HR0.out x14_1 p355 q355
          cases e355
          replace hx355_0 := (HB.out.cell (World.block_lt_of_cell? w _ hx355_0)).trans hx355_0
          replace p355 := eq_true p355
          replace q355 := eq_true q355
          have p14 : 0 ≤ ((rd l0 x14_1) : Int) := of_decide_eq_true qe_
          have q14 : ((rd l0 x14_1) : Int) < ((x3_1.length : Int) : Int) := of_decide_eq_true qe_
          obtain ⟨go14, co14, eo14, gb14, gl14, cl14, HG14⟩ := Kd.R_form HO_3.out (by omega)
          (first | cases eo14 | (injection eo14 with ea_ en_ ec_; (first | subst ea_ | (injection ea_ with ea_; subst ea_)); subst ec_; clear en_))
          have GB14 := Aside0.mk gb14
          have GG14 := Aside0.mk HG14
          clear gb14 gl14 HG14
          obtain ⟨hx14_0, hf14_0⟩ := Kd.R_celln 0 HO_3.out ((rd l0 x14_1) : Int) p14 q14
          replace p14 := eq_true p14
          replace q14 := eq_true q14
          have HP15 := Kd.R_putg HO_3.out ((rd l0 x14_1) : Int) x14_1
          go_wp2_with (first | ((with_reducible refine gate_store (t := 3) (p := 22) rfl ?_); refine store_event (t := 3) (p := 22) (v := ?vo_w16) (w1 := (wr.setCell ⟨go14, ((rd l0 x14_1) : Int).toNat, none⟩ (.int .i64 x14_1))) ?hg ?ho ?hn ?hr ?_; (case ho => rfl); (case hg => rfl); (case hn => rfl); (case hr => first | (go_simp; done) | (go_simp; rfl)); intro w16 hw; have hg : wr.grownBy w16 (some go14) := (by rw [hw]; exact HP15.2); have hp_ : Kd.R (Kd.int .i64) 3 w16 w.heap.size (fun _ => True) (.slice (some ⟨go14, 0, none⟩) x3_1.length co14) y356 := (by rw [hw, Ny356.out]; exact HP15.1); clear HP15; replace HO_3 := Aside0.mk (hp_); replace HB := Aside0.mk ((by rw [hw]; exact below_set (HB.out) GB14.out : Below w.heap.size w w16)); clear hg hw hp_))
          go_roundg k1
          case measure => have := HK1.out; omega
          case rel => exact ⟨(y356), (wrap64 (x14_1 + 1)), qc_, H', ⟨by have := HK1.out; omega⟩, ⟨(rr_ HO_3)⟩, ⟨hB_⟩⟩
        · rw [if_neg c9] at H
          have c9b0 := decide_eq_false c9
          clear c9
          obtain rfl := Option.some.inj H
          go_wp2
          go_ret
          exact ⟨_, qb_, (rr_ HO_3), hB_⟩
  · replace c3 := Bool.eq_false_iff.mpr c3
    subst c3
    have H1 : (some ([] : List Int)) = some r := by rw [if_neg (show ¬ (false = true) by decide)] at H; exact H
    clear H
    have H := H1
    clear H1
    obtain rfl := Option.some.inj H
    go_enter Try.func119, Try.ntmps119
    go_wp2_with (first | ((with_reducible refine gate_callee (f := 98) rfl ?_); refine gL_ (some 7) Try.func98 #[.slice A0 l0.length c0] rfl qa_ ?_; (with_reducible refine (impl_PermOk.calls k _ _ l0 false _ (cc_ HR0) HC0.out A2.out).mono ?_); rintro e w17 ⟨rfl, hb⟩; refine ⟨_, rfl, ?_⟩; replace HB := b1_ hb; clear hb))
    go_ret
    exact ⟨_, qb_, by first | exact Kd.R_nil _ _ _ _ _ | exact Kd.N_nil _ _ _ _ _ | exact Kd.V_nil _ _ _ _ _ | exact Kd.Q_nil _ _ _ _ _ | exact Kd.S_nil _ _ _ _ _, hB_⟩
end Go.Proofs.Ytbdnellgioimbaa.A
end
section
namespace Go.Proofs.Ytbdnellgioimbaa.A
open Go.RowKit Go.Proofs.YtbdnellgioimbaaW.PrintWords Go.Proofs.YtbdnellgioimbaaW.PrintLast Go.Proofs.YtbdnellgioimbaaW.PrintMore
attribute [local go_sem] max2_int min2_int max_two min_two max_three min_three max_four min_four
set_option linter.unusedVariables false
set_option linter.unusedSimpArgs false
mutual
def impl_ThenPerm.j0 : Nat → List Int → List Int → Bool → Option (List Int)
  | 0, _, _, _ => none
  | k + 1, x0, x1, x22 => if x22 = true then (some ([] : List Int)) else (if 0 ≤ (x0.length : Int) then (if ((x0.length : Int) : Int).toNat ≤ 35184372088832 then (impl_ThenPerm.l0 k x1 (List.replicate ((x0.length : Int) : Int).toNat 0) x0 (x0.length : Int) 0) else (none)) else (none))
def impl_ThenPerm.l0 : Nat → List Int → List Int → List Int → Int → Int → Option (List Int)
  | 0, _, _, _, _, _ => none
  | k + 1, x1, x5, x26, x27, x28 => if x28 < x27 then (if 0 ≤ x28 then (if x28 < (x26.length : Int) then (if 0 ≤ (rd x26 x28) then (if (rd x26 x28) < (x1.length : Int) then (if x28 < (x5.length : Int) then (impl_ThenPerm.l0 k x1 (x5.set (x28 : Int).toNat (rd x1 (rd x26 x28))) x26 x27 (wrap64 (x28 + 1))) else (none)) else (none)) else (none)) else (none)) else (none)) else (some x5)
end
def impl_ThenPerm.f (k : Nat) (l0 : List Int) (l1 : List Int) : Option (List Int) := (impl_PermOk.f k l0).bind fun t440 => (if t440 = true then ((impl_PermOk.f k l1).bind fun t441 => (if t441 = true then (impl_ThenPerm.j0 k l0 l1 ((l0.length : Int) != (l1.length : Int))) else (impl_ThenPerm.j0 k l0 l1 true))) else (impl_ThenPerm.j0 k l0 l1 true))
theorem impl_ThenPerm.mono_l : ∀ k, (∀ y0 y1 y2, LeO (impl_ThenPerm.j0 k y0 y1 y2) (impl_ThenPerm.j0 (k + 1) y0 y1 y2)) ∧ (∀ y0 y1 y2 y3 y4, LeO (impl_ThenPerm.l0 k y0 y1 y2 y3 y4) (impl_ThenPerm.l0 (k + 1) y0 y1 y2 y3 y4))
  | 0 => ⟨fun _ _ _ r h => by simp [impl_ThenPerm.j0] at h, fun _ _ _ _ _ r h => by simp [impl_ThenPerm.l0] at h⟩
  | k + 1 => by
    obtain ⟨ih0, ih1⟩ := impl_ThenPerm.mono_l k
    refine ⟨?_, ?_⟩
    · intro y0 y1 y2
      unfold impl_ThenPerm.j0
      repeat' first|exact ih0 _ _ _|exact ih1 _ _ _ _ _|exact impl_PermOk.mono _ _|exact lo_|refine LeO.ite ?_ ?_|refine LeO.bind ?_ (fun _ => ?_)
    · intro y0 y1 y2 y3 y4
      unfold impl_ThenPerm.l0
      repeat' first|exact ih0 _ _ _|exact ih1 _ _ _ _ _|exact impl_PermOk.mono _ _|exact lo_|refine LeO.ite ?_ ?_|refine LeO.bind ?_ (fun _ => ?_)
theorem impl_ThenPerm.mono : ∀ a0 a1 k, LeO (impl_ThenPerm.f k a0 a1) (impl_ThenPerm.f (k + 1) a0 a1) := by
  intro a0 a1 k
  obtain ⟨ih0, ih1⟩ := impl_ThenPerm.mono_l k
  unfold impl_ThenPerm.f
  repeat' first|exact ih0 _ _ _|exact ih1 _ _ _ _ _|exact impl_PermOk.mono _ _|exact lo_|refine LeO.ite ?_ ?_|refine LeO.bind ?_ (fun _ => ?_)
set_option maxHeartbeats 8000000 in
set_option maxRecDepth 100000 in
theorem impl_ThenPerm.calls (k : Nat) (A0 : Option Addr) (c0 : Nat) (l0 : List Int) (A1 : Option Addr) (c1 : Nat) (l1 : List Int) (r : List Int) (w : World) (hr0 : Kd.C (Kd.int .i64) w A0 l0.length l0) (hc0 : l0.length ≤ c0) (hr1 : Kd.C (Kd.int .i64) w A1 l1.length l1) (hc1 : l1.length ≤ c1) (h : impl_ThenPerm.f k l0 l1 = some r) :
    Calls Try.prog 118 #[.slice A0 l0.length c0, .slice A1 l1.length c1] w fun e w' => ∃ v0_ : Value, e = .returned (v0_) ∧ Kd.R (Kd.int .i64) 3 w' w.heap.size (fun _ => True) v0_ r ∧ Below w.heap.size w w' := by
  have HR0 := Aside0.mk hr0
  have HC0 := Aside0.mk hc0
  clear hr0 hc0
  have HR1 := Aside0.mk hr1
  have HC1 := Aside0.mk hc1
  clear hr1 hc1
  have HB := Aside0.mk (Below.refl w.heap.size w)
  have H := h
  unfold impl_ThenPerm.f at H
  clear h
  have HC3 := Aside0.mk H
  clear H
  go_enter Try.func118, Try.ntmps118
  go_upto_region 1 with (fail)
  go_cut [22] (fun v22 wc => ∃ (kq : Nat) (x22_2 : Bool), v22 = .bool x22_2 ∧ Aside0 (impl_ThenPerm.j0 kq l0 l1 x22_2 = some r) ∧ Aside0 (kq ≤ k) ∧ Aside0 (Below w.heap.size w wc))
  case first =>
    have H := HC3.out
    clear HC3
    obtain ⟨t440, A4, H⟩ := bi_ H
    by_cases c5 : t440 = true
    · subst c5
      rw [if_pos rfl] at H
      obtain ⟨t441, A6, H⟩ := bi_ H
      by_cases c7 : t441 = true
      · subst c7
        rw [if_pos rfl] at H
        have H' := Aside0.mk H
        clear H
        go_wp2_with (first | ((with_reducible refine gate_callee (f := 98) rfl ?_); refine gL_ (some 9) Try.func98 #[.slice A0 l0.length c0] rfl qa_ ?_; (with_reducible refine (impl_PermOk.calls k _ _ l0 true _ (cb_ HR0) HC0.out A4.out).mono ?_); rintro e w8 ⟨rfl, hb⟩; refine ⟨_, rfl, ?_⟩; replace HB := b1_ hb; clear hb) | (go_at_call 98; (with_reducible refine (impl_PermOk.calls k _ _ l1 true _ (cb_ HR1) HC1.out A6.out).mono ?_); rintro e w9 ⟨rfl, hb⟩; replace HB := b1_ hb; clear hb))
        go_meet
        case rel => exact ⟨_, (((l0.length : Int) != (l1.length : Int))), qc_, H', ⟨qd_⟩, ⟨hB_⟩⟩
      · replace c7 := Bool.eq_false_iff.mpr c7
        subst c7
        have H1 : (impl_ThenPerm.j0 k l0 l1 true) = some r := by rw [if_neg (show ¬ (false = true) by decide)] at H; exact H
        clear H
        have H := H1
        clear H1
        have H' := Aside0.mk H
        clear H
        go_wp2_with (first | ((with_reducible refine gate_callee (f := 98) rfl ?_); refine gL_ (some 9) Try.func98 #[.slice A0 l0.length c0] rfl qa_ ?_; (with_reducible refine (impl_PermOk.calls k _ _ l0 true _ (cb_ HR0) HC0.out A4.out).mono ?_); rintro e w10 ⟨rfl, hb⟩; refine ⟨_, rfl, ?_⟩; replace HB := b1_ hb; clear hb) | (go_at_call 98; (with_reducible refine (impl_PermOk.calls k _ _ l1 false _ (cb_ HR1) HC1.out A6.out).mono ?_); rintro e w11 ⟨rfl, hb⟩; replace HB := b1_ hb; clear hb))
        go_meet
        case rel => exact ⟨_, (true), qc_, H', ⟨qd_⟩, ⟨hB_⟩⟩
    · replace c5 := Bool.eq_false_iff.mpr c5
      subst c5
      have H1 : (impl_ThenPerm.j0 k l0 l1 true) = some r := by rw [if_neg (show ¬ (false = true) by decide)] at H; exact H
      clear H
      have H := H1
      clear H1
      have H' := Aside0.mk H
      clear H
      go_wp2_with (first | ((with_reducible refine gate_callee (f := 98) rfl ?_); refine gL_ (some 9) Try.func98 #[.slice A0 l0.length c0] rfl qa_ ?_; (with_reducible refine (impl_PermOk.calls k _ _ l0 false _ (cb_ HR0) HC0.out A4.out).mono ?_); rintro e w12 ⟨rfl, hb⟩; refine ⟨_, rfl, ?_⟩; replace HB := b1_ hb; clear hb))
      go_meet
      case rel => exact ⟨_, (true), qc_, H', ⟨qd_⟩, ⟨hB_⟩⟩
  case rest =>
    clear HC3
    obtain ⟨kq, x22_2, rfl, HA, HJ2, HB⟩ := hcut
    cases kq with
    | zero => exact absurd HA.out (by simp [impl_ThenPerm.j0])
    | succ kj2 =>
      have H := HA.out
      clear HA
      simp only [impl_ThenPerm.j0] at H
      by_cases c13 : x22_2 = true
      · subst c13
        rw [if_pos rfl] at H
        obtain rfl := Option.some.inj H
        go_wp2
        go_ret
        exact ⟨_, qb_, by first | exact Kd.R_nil _ _ _ _ _ | exact Kd.N_nil _ _ _ _ _ | exact Kd.V_nil _ _ _ _ _ | exact Kd.Q_nil _ _ _ _ _ | exact Kd.S_nil _ _ _ _ _, hB_⟩
      · replace c13 := Bool.eq_false_iff.mpr c13
        subst c13
        have H1 : (if 0 ≤ (l0.length : Int) then (if ((l0.length : Int) : Int).toNat ≤ 35184372088832 then (impl_ThenPerm.l0 kj2 l1 (List.replicate ((l0.length : Int) : Int).toNat 0) l0 (l0.length : Int) 0) else (none)) else (none)) = some r := by rw [if_neg (show ¬ (false = true) by decide)] at H; exact H
        clear H
        have H := H1
        clear H1
        have c14 := cp_ H
        replace H := ca_ H
        have c14b0 := eq_true c14
        have c14b1 := decide_eq_true c14
        clear c14
        have c15 := cp_ H
        replace H := ca_ H
        have c15b0 := eq_true c15
        have c15b1 := decide_eq_true c15
        clear c15
        obtain ⟨y442, hy442⟩ : ∃ y_ : List Int, y_ = (List.replicate ((l0.length : Int) : Int).toNat 0) := ⟨_, rfl⟩
        replace H : (impl_ThenPerm.l0 kj2 l1 y442 l0 (l0.length : Int) 0) = some r := by first | (rw [hy442]; exact H) | exact H
        have Ny442 := Aside0.mk hy442
        clear hy442
        have H' := Aside0.mk H
        clear H
        go_wp2_with (first | ((with_reducible refine gate_dst (N := 25) rfl ?_); (try (refine gate_guard (by rfl) ?_; dsimp only)); refine Kd.R_make (Kd.int .i64) _ 3 rfl (N := 25) rfl 22 _ _ rfl (l0.length : Int) rfl rfl Try.underlying22 (.int .i64 0) 8 info3 rfl (by decide) (by omega) 0 (ok := fun _ => True) (okp := fun _ => True) rfl (fun _ hk => hk) trivial (of_decide_eq_true qe_) (Nat.le_trans (Nat.mul_le_mul_right _ (of_decide_eq_true qe_ : (l0.length : Int).toNat ≤ 35184372088832)) (by omega)) (Below.refl _ _) (Nat.le_refl _) ?_; intro v443 w16 ho17 hb hg_ hnew_; clear hg_ hnew_; (first | rw [← Ny442.out] at ho17 | (simp only [Int.reduceToNat] at ho17; rw [← Ny442.out] at ho17)); have HO444 := rl_ w ho17; replace HB := b1_ hb; clear hb ho17))
        go_loopg [28] kj2 (fun kq v28 w' => ∃ (x5_2 : List Int) (x28_2 : Int), v28 = .int .i64 x28_2 ∧ Aside0 (impl_ThenPerm.l0 kq l1 x5_2 l0 (l0.length : Int) x28_2 = some r) ∧ Aside0 (kq ≤ kj2) ∧ Aside0 (Kd.R (Kd.int .i64) 3 w' w.heap.size (fun _ => True) v443 x5_2) ∧ Aside0 (Below w.heap.size w w'))
        case atStart => exact ⟨(y442), (0), qc_, H', ⟨Nat.le_refl _⟩, ⟨(rr_ HO444)⟩, ⟨hB_⟩⟩
        case round =>
          clear H'
          obtain ⟨x5_2, x28_2, rfl, HA, HK2, HO_5, HB⟩ := hrel
          cases gk with
          | zero => exact absurd HA.out (by simp [impl_ThenPerm.l0])
          | succ k2 =>
            have H := HA.out
            clear HA
            simp only [impl_ThenPerm.l0] at H
            by_cases c18 : x28_2 < (l0.length : Int)
            · rw [if_pos c18] at H
              have c18b0 := decide_eq_true c18
              clear c18
              have c19 := cp_ H
              replace H := ca_ H
              have c19b0 := decide_eq_true c19
              clear c19
              have c20 := cp_ H
              replace H := ca_ H
              have c20b0 := decide_eq_true c20
              clear c20
              have c21 := cp_ H
              replace H := ca_ H
              have c21b0 := decide_eq_true c21
              clear c21
              have c22 := cp_ H
              replace H := ca_ H
              have c22b0 := decide_eq_true c22
              clear c22
              have c23 := cp_ H
              replace H := ca_ H
              have c23b0 := decide_eq_true c23
              clear c23
              obtain ⟨y447, hy447⟩ : ∃ y_ : List Int, y_ = (x5_2.set (x28_2 : Int).toNat (rd l1 (rd l0 x28_2))) := ⟨_, rfl⟩
              replace H : (impl_ThenPerm.l0 k2 l1 y447 l0 (l0.length : Int) (wrap64 (x28_2 + 1))) = some r := by first | (rw [hy447]; exact H) | exact H
              have Ny447 := Aside0.mk hy447
              clear hy447
              have H' := Aside0.mk H
              clear H
              have p445 : 0 ≤ (x28_2 : Int) := of_decide_eq_true qe_
              have q445 : x28_2 < (l0.length : Int) := of_decide_eq_true qe_
              obtain ⟨ad445, e445, hx445_0⟩ := Kd.at_int HR0.out x28_2 p445 q445
              cases e445
              replace hx445_0 := (HB.out.cell (World.block_lt_of_cell? w _ hx445_0)).trans hx445_0
              replace p445 := eq_true p445
              replace q445 := eq_true q445
              have p446 : 0 ≤ ((rd l0 x28_2) : Int) := of_decide_eq_true qe_
              have q446 : (rd l0 x28_2) < (l1.length : Int) := of_decide_eq_true qe_
              obtain ⟨ad446, e446, hx446_0⟩ := Kd.at_int HR1.out (rd l0 x28_2) p446 q446
              cases e446
              replace hx446_0 := (HB.out.cell (World.block_lt_of_cell? w _ hx446_0)).trans hx446_0
              replace p446 := eq_true p446
              replace q446 := eq_true q446
              have p24 : 0 ≤ (x28_2 : Int) := of_decide_eq_true qe_
              have q24 : (x28_2 : Int) < ((x5_2.length : Int) : Int) := of_decide_eq_true qe_
              obtain ⟨go24, co24, eo24, gb24, gl24, cl24, HG24⟩ := Kd.R_form HO_5.out (by omega)
              (first | cases eo24 | (injection eo24 with ea_ en_ ec_; (first | subst ea_ | (injection ea_ with ea_; subst ea_)); subst ec_; clear en_))
              have GB24 := Aside0.mk gb24
              have GG24 := Aside0.mk HG24
              clear gb24 gl24 HG24
              obtain ⟨hx24_0, hf24_0⟩ := Kd.R_celln 0 HO_5.out (x28_2 : Int) p24 q24
              replace p24 := eq_true p24
              replace q24 := eq_true q24
              have HP25 := Kd.R_putg HO_5.out (x28_2 : Int) (rd l1 (rd l0 x28_2))
              go_wp2_with (first | ((with_reducible refine gate_store (t := 3) (p := 39) rfl ?_); refine store_event (t := 3) (p := 39) (v := ?vo_w26) (w1 := (wr.setCell ⟨go24, (x28_2 : Int).toNat, none⟩ (.int .i64 (rd l1 (rd l0 x28_2))))) ?hg ?ho ?hn ?hr ?_; (case ho => rfl); (case hg => rfl); (case hn => rfl); (case hr => first | (go_simp; done) | (go_simp; rfl)); intro w26 hw; have hg : wr.grownBy w26 (some go24) := (by rw [hw]; exact HP25.2); have hp_ : Kd.R (Kd.int .i64) 3 w26 w.heap.size (fun _ => True) (.slice (some ⟨go24, 0, none⟩) x5_2.length co24) y447 := (by rw [hw, Ny447.out]; exact HP25.1); clear HP25; replace HO_5 := Aside0.mk (hp_); replace HB := Aside0.mk ((by rw [hw]; exact below_set (HB.out) GB24.out : Below w.heap.size w w26)); clear hg hw hp_))
              go_roundg k2
              case measure => have := HJ2.out; have := HK2.out; omega
              case rel => exact ⟨(y447), (wrap64 (x28_2 + 1)), qc_, H', ⟨by have := HJ2.out; have := HK2.out; omega⟩, ⟨(rr_ HO_5)⟩, ⟨hB_⟩⟩
            · rw [if_neg c18] at H
              have c18b0 := decide_eq_false c18
              clear c18
              obtain rfl := Option.some.inj H
              go_wp2
              go_ret
              exact ⟨_, qb_, (rr_ HO_5), hB_⟩
end Go.Proofs.Ytbdnellgioimbaa.A
end
section
namespace Go.Proofs.Ytbdnellgioimbaa.A
open Go.RowKit Go.Proofs.YtbdnellgioimbaaW.PrintWords Go.Proofs.YtbdnellgioimbaaW.PrintLast Go.Proofs.YtbdnellgioimbaaW.PrintMore
attribute [local go_sem] max2_int min2_int max_two min_two max_three min_three max_four min_four
set_option linter.unusedVariables false
set_option linter.unusedSimpArgs false
def impl_AroundOf.f (k : Nat) (l0_0 : List Int) (l0_1 : List Int) : Option (List Int) := (impl_SurfaceOk.f k l0_0 l0_1).bind fun t449 => (if t449 = true then ((impl_ThenPerm.f k l0_0 l0_1).bind fun t450 => ((impl_InversePerm.f k l0_0).bind fun t453 => ((impl_InversePerm.f k l0_1).bind fun t456 => ((impl_ThenPerm.f k t453 t456).bind fun t459 => ((impl_ThenPerm.f k t450 t459).bind fun t462 => (some t462)))))) else (some ([] : List Int)))
theorem impl_AroundOf.mono : ∀ a0 a1 k, LeO (impl_AroundOf.f k a0 a1) (impl_AroundOf.f (k + 1) a0 a1) := by
  intro a0 a1 k
  unfold impl_AroundOf.f
  repeat' first|exact impl_InversePerm.mono _ _|exact impl_SurfaceOk.mono _ _ _|exact impl_ThenPerm.mono _ _ _|exact lo_|refine LeO.ite ?_ ?_|refine LeO.bind ?_ (fun _ => ?_)
def impl_AroundOf.T3 : Bool × List (List Nat × List Nat) := (true, [([], []), ([0], [0]), ([], []), ([2], [2]), ([1, 3], [1, 3]), ([], []), ([5], [5]), ([6, 4], [6]), ([], []), ([8], [8]), ([9, 7], [9]), ([7, 10, 10], [7, 10]), ([4, 11, 11], [4, 11]), ([12, 12, 0, 1, 2, 3, 4, 5, 6, 7, 8, 9, 10, 11, 12], [12])])
def impl_AroundOf.B3 : List Nat := [0, 1, 0, 4, 15, 0, 32, 127, 0, 256, 1023, 2047, 4095, 8191]
theorem impl_AroundOf.tab3 : rtab .any (opsOf Try.f77 3) = impl_AroundOf.T3 := by kernel_rfl
theorem impl_AroundOf.bits3 : waitsOk impl_AroundOf.T3.2 impl_AroundOf.B3 = true := by kernel_rfl
set_option maxHeartbeats 8000000 in
set_option maxRecDepth 100000 in
theorem impl_AroundOf.calls (k : Nat) (A0_0 : Option Addr) (c0_0 : Nat) (l0_0 : List Int) (A0_1 : Option Addr) (c0_1 : Nat) (l0_1 : List Int) (r : List Int) (w : World) (hr0_0 : Kd.C (Kd.int .i64) w A0_0 l0_0.length l0_0) (hc0_0 : l0_0.length ≤ c0_0) (hr0_1 : Kd.C (Kd.int .i64) w A0_1 l0_1.length l0_1) (hc0_1 : l0_1.length ≤ c0_1) (h : impl_AroundOf.f k l0_0 l0_1 = some r) :
    Calls Try.prog 77 #[.agg #[.slice A0_0 l0_0.length c0_0, .slice A0_1 l0_1.length c0_1]] w fun e w' => ∃ v0_ : Value, e = .returned (v0_) ∧ Kd.R (Kd.int .i64) 3 w' w.heap.size (fun _ => True) v0_ r ∧ Below w.heap.size w w' := by
  have hu27 := Try.underlying27
  have HR0_0 := Aside0.mk hr0_0
  have HC0_0 := Aside0.mk hc0_0
  clear hr0_0 hc0_0
  have HR0_1 := Aside0.mk hr0_1
  have HC0_1 := Aside0.mk hc0_1
  clear hr0_1 hc0_1
  have HB := Aside0.mk (Below.refl w.heap.size w)
  have H := h
  unfold impl_AroundOf.f at H
  clear h
  obtain ⟨t449, A2, H⟩ := bi_ H
  by_cases c3 : t449 = true
  · subst c3
    rw [if_pos rfl] at H
    obtain ⟨t450, A4, H⟩ := bi_ H
    obtain ⟨t453, A5, H⟩ := bi_ H
    obtain ⟨t456, A6, H⟩ := bi_ H
    obtain ⟨t459, A7, H⟩ := bi_ H
    obtain ⟨t462, A8, H⟩ := bi_ H
    obtain rfl := Option.some.inj H
    go_enter Try.func77, Try.ntmps77
    try go_wp2_with (first | ((with_reducible refine gate_dst (N := 1) rfl ?_); refine bx_ 1 #[.slice A0_0 l0_0.length c0_0, .slice A0_1 l0_1.length c0_1] 27 ?_; intro gb448 hg w9 hbox hb; have BK448 := Aside0.mk hbox; have GW448 := gw_ w hg; have GE448 := GW448; replace HB := b1_ hb; clear hb hbox hg; obtain ⟨hcz10_0, hcz10_1, hfz10_0, hfz10_1⟩ := c2_ BK448) | ((with_reducible refine gate_callee (f := 65) rfl ?_); refine gL_ (some 4) Try.func65 #[.agg #[.slice A0_0 l0_0.length c0_0, .slice A0_1 l0_1.length c0_1]] rfl qa_ ?_; (with_reducible refine (impl_SurfaceOk.calls k _ _ l0_0 _ _ l0_1 true _ (cb_ HR0_0) HC0_0.out (cb_ HR0_1) HC0_1.out A2.out).mono ?_); rintro e w11 ⟨rfl, hb⟩; refine ⟨_, rfl, ?_⟩; replace BK448 := bb_ BK448 hb; replace HB := b1_ hb; clear hb))
    replace BK448 := Aside0.mk (blk_drew BK448.out)
    replace HB := Aside0.mk (below_drew1 HB.out)
    refine start_ (n := 14) (S := fun w' => w'.cell? ⟨gb448, 0, none⟩ = some (.slice A0_0 l0_0.length c0_0) ∧ w'.cell? ⟨gb448, 1, none⟩ = some (.slice A0_1 l0_1.length c0_1)) (ds := []) (bl_ 14 0) (by kernel_rfl) rfl (by kernel_rfl) ⟨cz0_ BK448, cz1_ BK448⟩ (fun hHeld => ?_); refine with_tabW impl_AroundOf.tab3 impl_AroundOf.bits3 (fun HT_ HW_ => ?_)
    generalize w11.drew = w12 at BK448 HB hHeld ⊢
    refine pu_ 0 (some 6) (bl_ 14 1) HT_ ?_
    refine pu_ 2 (some 8) (bl_ 14 5) HT_ ?_
    refine pu_ 5 (some 11) (bl_ 14 37) HT_ ?_
    refine pu_ 8 (some 14) (bl_ 14 293) HT_ ?_
    refine ta_ 1 (some 7) (bl_ 14 295) HT_ HW_ hHeld ?_
    refine ta_ 3 (some 9) (bl_ 14 303) HT_ HW_ hHeld ?_
    refine ta_ 6 (some 12) (bl_ 14 367) HT_ HW_ hHeld ?_
    refine ta_ 9 (some 15) (bl_ 14 879) HT_ HW_ hHeld ?_
    refine on_ 4 (some 10) (bl_ 14 895) HT_ (fun K hK => ?_)
    refine gO_ Try.func118 #[.slice A0_0 l0_0.length c0_0, .slice A0_1 l0_1.length c0_1] (by rfl) rfl rfl qa_ ?_
    with_reducible refine (impl_ThenPerm.calls k _ _ l0_0 _ _ l0_1 t450 _ (cb_ HR0_0) HC0_0.out (cb_ HR0_1) HC0_1.out A4.out).mono ?_
    rintro e w13 ⟨v451, rfl, ho0, hb⟩
    refine ⟨_, rfl, ?_⟩
    have HO452 := rl_ w ho0
    replace BK448 := bb_ BK448 hb
    replace HB := b1_ hb
    clear hb ho0
    refine hK.out _ _ ⟨cz0_ BK448, cz1_ BK448⟩ (fun hHeld => ?_)
    clear hK K
    refine no_ (some 10) ?_
    refine on_ 7 (some 13) (bl_ 14 1023) HT_ (fun K hK => ?_)
    refine gO_ Try.func119 #[.slice A0_0 l0_0.length c0_0] (by rfl) rfl rfl qa_ ?_
    with_reducible refine (impl_InversePerm.calls k _ _ l0_0 t453 _ (cb_ HR0_0) HC0_0.out A5.out).mono ?_
    rintro e w14 ⟨v454, rfl, ho0, hb⟩
    refine ⟨_, rfl, ?_⟩
    have HO455 := Aside0.mk (Kd.R_lower (Kd.R_new' ho0 (Kd.R_lt (rr_ HO452))) (below_size hB_))
    replace HO452 := Aside0.mk (Kd.R_elder' (rr_ HO452) (Kd.R_base ho0) hb)
    replace BK448 := bb_ BK448 hb
    replace HB := b1_ hb
    clear hb ho0
    refine hK.out _ _ ⟨cz0_ BK448, cz1_ BK448⟩ (fun hHeld => ?_)
    clear hK K
    refine no_ (some 13) ?_
    refine on_ 10 (some 16) (bl_ 14 2047) HT_ (fun K hK => ?_)
    refine gO_ Try.func119 #[.slice A0_1 l0_1.length c0_1] (by rfl) rfl rfl qa_ ?_
    with_reducible refine (impl_InversePerm.calls k _ _ l0_1 t456 _ (cb_ HR0_1) HC0_1.out A6.out).mono ?_
    rintro e w15 ⟨v457, rfl, ho0, hb⟩
    refine ⟨_, rfl, ?_⟩
    have HO458 := Aside0.mk (Kd.R_lower (Kd.R_new' (Kd.R_new' ho0 (Kd.R_lt (rr_ HO452))) (Kd.R_lt (rr_ HO455))) (below_size hB_))
    replace HO452 := Aside0.mk (Kd.R_elder' (rr_ HO452) (Kd.R_base ho0) hb)
    replace HO455 := Aside0.mk (Kd.R_elder' (rr_ HO455) (Kd.R_base ho0) hb)
    replace BK448 := bb_ BK448 hb
    replace HB := b1_ hb
    clear hb ho0
    obtain ⟨Ao16, co16, eo16⟩ := Kd.R_slice HO455.out
    (first | subst eo16 | (injection eo16 with f1_ f2_ f3_; have f4_ := f1_.symm; have f5_ := f3_.symm; clear f1_ f2_ f3_; subst f4_; subst f5_))
    obtain ⟨Ao17, co17, eo17⟩ := Kd.R_slice HO458.out
    (first | subst eo17 | (injection eo17 with f1_ f2_ f3_; have f4_ := f1_.symm; have f5_ := f3_.symm; clear f1_ f2_ f3_; subst f4_; subst f5_))
    refine hK.out _ _ ⟨cz0_ BK448, cz1_ BK448⟩ (fun hHeld => ?_)
    clear hK K
    refine no_ (some 16) ?_
    refine on_ 11 (some 17) (bl_ 14 4095) HT_ (fun K hK => ?_)
    refine gO_ Try.func118 #[.slice Ao16 t453.length co16, .slice Ao17 t456.length co17] (by rfl) rfl rfl qa_ ?_
    with_reducible refine (impl_ThenPerm.calls k _ _ t453 _ _ t456 t459 _ (cr_ HO455) ((Kd.R_reads' HO455.out).2.1) (cr_ HO458) ((Kd.R_reads' HO458.out).2.1) A7.out).mono ?_
    rintro e w18 ⟨v460, rfl, ho0, hb⟩
    refine ⟨_, rfl, ?_⟩
    have HO461 := Aside0.mk (Kd.R_lower (Kd.R_new' (Kd.R_new' (Kd.R_new' ho0 (Kd.R_lt (rr_ HO452))) (Kd.R_lt (rr_ HO455))) (Kd.R_lt (rr_ HO458))) (below_size hB_))
    replace HO452 := Aside0.mk (Kd.R_elder' (rr_ HO452) (Kd.R_base ho0) hb)
    replace HO455 := Aside0.mk (Kd.R_elder' (rr_ HO455) (Kd.R_base ho0) hb)
    replace HO458 := Aside0.mk (Kd.R_elder' (rr_ HO458) (Kd.R_base ho0) hb)
    replace BK448 := bb_ BK448 hb
    replace HB := b1_ hb
    clear hb ho0
    obtain ⟨Ao19, co19, eo19⟩ := Kd.R_slice HO452.out
    (first | subst eo19 | (injection eo19 with f1_ f2_ f3_; have f4_ := f1_.symm; have f5_ := f3_.symm; clear f1_ f2_ f3_; subst f4_; subst f5_))
    obtain ⟨Ao20, co20, eo20⟩ := Kd.R_slice HO461.out
    (first | subst eo20 | (injection eo20 with f1_ f2_ f3_; have f4_ := f1_.symm; have f5_ := f3_.symm; clear f1_ f2_ f3_; subst f4_; subst f5_))
    refine hK.out _ _ ⟨cz0_ BK448, cz1_ BK448⟩ (fun hHeld => ?_)
    clear hK K
    refine no_ (some 17) ?_
    refine on_ 12 (some 18) (bl_ 14 8191) HT_ (fun K hK => ?_)
    refine gO_ Try.func118 #[.slice Ao19 t450.length co19, .slice Ao20 t459.length co20] (by rfl) rfl rfl qa_ ?_
    with_reducible refine (impl_ThenPerm.calls k _ _ t450 _ _ t459 t462 _ (cr_ HO452) ((Kd.R_reads' HO452.out).2.1) (cr_ HO461) ((Kd.R_reads' HO461.out).2.1) A8.out).mono ?_
    rintro e w21 ⟨v463, rfl, ho0, hb⟩
    refine ⟨_, rfl, ?_⟩
    have HO464 := Aside0.mk (Kd.R_lower (Kd.R_new' (Kd.R_new' (Kd.R_new' (Kd.R_new' ho0 (Kd.R_lt (rr_ HO452))) (Kd.R_lt (rr_ HO455))) (Kd.R_lt (rr_ HO458))) (Kd.R_lt (rr_ HO461))) (below_size hB_))
    replace HO452 := Aside0.mk (Kd.R_elder' (rr_ HO452) (Kd.R_base ho0) hb)
    replace HO455 := Aside0.mk (Kd.R_elder' (rr_ HO455) (Kd.R_base ho0) hb)
    replace HO458 := Aside0.mk (Kd.R_elder' (rr_ HO458) (Kd.R_base ho0) hb)
    replace HO461 := Aside0.mk (Kd.R_elder' (rr_ HO461) (Kd.R_base ho0) hb)
    replace BK448 := bb_ BK448 hb
    replace HB := b1_ hb
    clear hb ho0
    refine hK.out _ _ ⟨cz0_ BK448, cz1_ BK448⟩ (fun hHeld => ?_)
    clear hK K
    refine no_ (some 18) ?_
    refine pu_ 13 (some 2) (bl_ 14 16383) HT_ ?_
    refine done_ (done_of HT_.out (by kernel_rfl)) ?_
    try go_wp2
    go_ret
    exact ⟨_, qb_, (rw_ (Kd.R_mono HO464.out (fun _ hk => trivial))), hB_⟩
  · replace c3 := Bool.eq_false_iff.mpr c3
    subst c3
    have H1 : (some ([] : List Int)) = some r := by rw [if_neg (show ¬ (false = true) by decide)] at H; exact H
    clear H
    have H := H1
    clear H1
    obtain rfl := Option.some.inj H
    go_enter Try.func77, Try.ntmps77
    go_wp2_with (first | ((with_reducible refine gate_dst (N := 1) rfl ?_); refine bx_ 1 #[.slice A0_0 l0_0.length c0_0, .slice A0_1 l0_1.length c0_1] 27 ?_; intro gb448 hg w22 hbox hb; have BK448 := Aside0.mk hbox; have GW448 := gw_ w hg; have GE448 := GW448; replace HB := b1_ hb; clear hb hbox hg; obtain ⟨hcz23_0, hcz23_1, hfz23_0, hfz23_1⟩ := c2_ BK448) | ((with_reducible refine gate_callee (f := 65) rfl ?_); refine gL_ (some 4) Try.func65 #[.agg #[.slice A0_0 l0_0.length c0_0, .slice A0_1 l0_1.length c0_1]] rfl qa_ ?_; (with_reducible refine (impl_SurfaceOk.calls k _ _ l0_0 _ _ l0_1 false _ (cb_ HR0_0) HC0_0.out (cb_ HR0_1) HC0_1.out A2.out).mono ?_); rintro e w24 ⟨rfl, hb⟩; refine ⟨_, rfl, ?_⟩; replace BK448 := bb_ BK448 hb; replace HB := b1_ hb; clear hb))
    go_ret
    exact ⟨_, qb_, by first | exact Kd.R_nil _ _ _ _ _ | exact Kd.N_nil _ _ _ _ _ | exact Kd.V_nil _ _ _ _ _ | exact Kd.Q_nil _ _ _ _ _ | exact Kd.S_nil _ _ _ _ _, hB_⟩
end Go.Proofs.Ytbdnellgioimbaa.A
end
section
namespace Go.Proofs.Ytbdnellgioimbaa.A
open Go.RowKit Go.Proofs.YtbdnellgioimbaaW.PrintWords Go.Proofs.YtbdnellgioimbaaW.PrintLast Go.Proofs.YtbdnellgioimbaaW.PrintMore
attribute [local go_sem] max2_int min2_int max_two min_two max_three min_three max_four min_four
set_option linter.unusedVariables false
set_option linter.unusedSimpArgs false
def slices_Index_int_int.l0 : Nat → List Int → Int → Int → Int → Option (Int)
  | 0, _, _, _, _ => none
  | k + 1, x0, x1, x7, x8 => if x8 < x7 then (if 0 ≤ x8 then (if x8 < (x0.length : Int) then (if x1 = (rd x0 x8) then (some x8) else (slices_Index_int_int.l0 k x0 x1 x7 (wrap64 (x8 + 1)))) else (none)) else (none)) else (some (-1))
def slices_Index_int_int.f (k : Nat) (l0 : List Int) (a1 : Int) : Option (Int) := slices_Index_int_int.l0 k l0 a1 (l0.length : Int) 0
theorem slices_Index_int_int.mono_l : ∀ k, (∀ y0 y1 y2 y3, LeO (slices_Index_int_int.l0 k y0 y1 y2 y3) (slices_Index_int_int.l0 (k + 1) y0 y1 y2 y3))
  | 0 => fun _ _ _ _ r h => by simp [slices_Index_int_int.l0] at h
  | k + 1 => by
    have ih0 := slices_Index_int_int.mono_l k
    · intro y0 y1 y2 y3
      unfold slices_Index_int_int.l0
      repeat' first|exact ih0 _ _ _ _|exact lo_|refine LeO.ite ?_ ?_|refine LeO.bind ?_ (fun _ => ?_)
theorem slices_Index_int_int.mono : ∀ a0 a1 k, LeO (slices_Index_int_int.f k a0 a1) (slices_Index_int_int.f (k + 1) a0 a1) := by
  intro a0 a1 k
  have ih0 := slices_Index_int_int.mono_l k
  unfold slices_Index_int_int.f
  repeat' first|exact ih0 _ _ _ _|exact lo_|refine LeO.ite ?_ ?_|refine LeO.bind ?_ (fun _ => ?_)
set_option maxHeartbeats 8000000 in
set_option maxRecDepth 100000 in
theorem slices_Index_int_int.calls (k : Nat) (A0 : Option Addr) (c0 : Nat) (l0 : List Int) (a1 : Int) (r : Int) (w : World) (hr0 : Kd.C (Kd.int .i64) w A0 l0.length l0) (hc0 : l0.length ≤ c0) (h : slices_Index_int_int.f k l0 a1 = some r) :
    Calls Try.prog 145 #[.slice A0 l0.length c0, .int .i64 a1] w fun e w' => e = .returned (.int .i64 r) ∧ Drawn0 w w' := by
  have HR0 := Aside0.mk hr0
  have HC0 := Aside0.mk hc0
  clear hr0 hc0
  have H := h
  unfold slices_Index_int_int.f at H
  clear h
  have H' := Aside0.mk H
  clear H
  go_enter Try.func145, Try.ntmps145
  go_wp2
  go_loopg [8] k (fun kq v8 w' => ∃ (x8_1 : Int), v8 = .int .i64 x8_1 ∧ Aside0 (slices_Index_int_int.l0 kq l0 a1 (l0.length : Int) x8_1 = some r) ∧ Aside0 (kq ≤ k) ∧ Drawn0 w w')
  case atStart => exact ⟨(0), qc_, H', ⟨Nat.le_refl _⟩, by repeat (first | exact Drawn0.refl _ | apply Drawn0.step)⟩
  case round =>
    clear H'
    obtain ⟨x8_1, rfl, HA, HK1, ⟨m1, rfl⟩⟩ := hrel
    cases gk with
    | zero => exact absurd HA.out (by simp [slices_Index_int_int.l0])
    | succ k1 =>
      have H := HA.out
      clear HA
      simp only [slices_Index_int_int.l0] at H
      by_cases c3 : x8_1 < (l0.length : Int)
      · rw [if_pos c3] at H
        have c3b0 := decide_eq_true c3
        clear c3
        have c4 := cp_ H
        replace H := ca_ H
        have c4b0 := decide_eq_true c4
        clear c4
        have c5 := cp_ H
        replace H := ca_ H
        have c5b0 := decide_eq_true c5
        clear c5
        by_cases c6 : a1 = (rd l0 x8_1)
        · rw [if_pos c6] at H
          have c6b0 : (a1 == (rd l0 x8_1)) = true := beq_iff_eq.mpr c6
          have c6b1 : (a1 != (rd l0 x8_1)) = false := bne_eq_false_iff_eq.mpr c6
          clear c6
          obtain rfl := Option.some.inj H
          have p622 : 0 ≤ (x8_1 : Int) := of_decide_eq_true qe_
          have q622 : x8_1 < (l0.length : Int) := of_decide_eq_true qe_
          obtain ⟨ad622, e622, hx622_0⟩ := Kd.at_int HR0.out x8_1 p622 q622
          cases e622
          replace p622 := eq_true p622
          replace q622 := eq_true q622
          go_wp2
          go_ret
          exact ⟨qc_, by repeat (first | exact Drawn0.refl _ | apply Drawn0.step)⟩
        · rw [if_neg c6] at H
          have c6b0 : (a1 == (rd l0 x8_1)) = false := beq_eq_false_iff_ne.mpr c6
          have c6b1 : (a1 != (rd l0 x8_1)) = true := bne_iff_ne.mpr c6
          have H' := Aside0.mk H
          clear H
          have p622 : 0 ≤ (x8_1 : Int) := of_decide_eq_true qe_
          have q622 : x8_1 < (l0.length : Int) := of_decide_eq_true qe_
          obtain ⟨ad622, e622, hx622_0⟩ := Kd.at_int HR0.out x8_1 p622 q622
          cases e622
          replace p622 := eq_true p622
          replace q622 := eq_true q622
          go_wp2
          go_roundg k1
          case measure => have := HK1.out; omega
          case rel => exact ⟨(wrap64 (x8_1 + 1)), qc_, H', ⟨by have := HK1.out; omega⟩, by repeat (first | exact Drawn0.refl _ | apply Drawn0.step)⟩
      · rw [if_neg c3] at H
        have c3b0 := decide_eq_false c3
        clear c3
        obtain rfl := Option.some.inj H
        go_wp2
        go_ret
        exact ⟨qc_, by repeat (first | exact Drawn0.refl _ | apply Drawn0.step)⟩
end Go.Proofs.Ytbdnellgioimbaa.A
end
section
namespace Go.Proofs.Ytbdnellgioimbaa.A
open Go.RowKit Go.Proofs.YtbdnellgioimbaaW.PrintWords Go.Proofs.YtbdnellgioimbaaW.PrintLast Go.Proofs.YtbdnellgioimbaaW.PrintMore
attribute [local go_sem] max2_int min2_int max_two min_two max_three min_three max_four min_four
set_option linter.unusedVariables false
set_option linter.unusedSimpArgs false
def slices_Contains_int_int.f (k : Nat) (l0 : List Int) (a1 : Int) : Option (Bool) := (slices_Index_int_int.f k l0 a1).bind fun t623 => (some (decide (t623 ≥ 0)))
theorem slices_Contains_int_int.mono : ∀ a0 a1 k, LeO (slices_Contains_int_int.f k a0 a1) (slices_Contains_int_int.f (k + 1) a0 a1) := by
  intro a0 a1 k
  unfold slices_Contains_int_int.f
  repeat' first|exact slices_Index_int_int.mono _ _ _|exact lo_|refine LeO.ite ?_ ?_|refine LeO.bind ?_ (fun _ => ?_)
set_option maxHeartbeats 8000000 in
set_option maxRecDepth 100000 in
theorem slices_Contains_int_int.calls (k : Nat) (A0 : Option Addr) (c0 : Nat) (l0 : List Int) (a1 : Int) (r : Bool) (w : World) (hr0 : Kd.C (Kd.int .i64) w A0 l0.length l0) (hc0 : l0.length ≤ c0) (h : slices_Contains_int_int.f k l0 a1 = some r) :
    Calls Try.prog 120 #[.slice A0 l0.length c0, .int .i64 a1] w fun e w' => e = .returned (.bool r) ∧ Drawn0 w w' := by
  have HR0 := Aside0.mk hr0
  have HC0 := Aside0.mk hc0
  clear hr0 hc0
  have H := h
  unfold slices_Contains_int_int.f at H
  clear h
  obtain ⟨t623, A3, H⟩ := bi_ H
  obtain rfl := Option.some.inj H
  go_enter Try.func120, Try.ntmps120
  go_wp2_with (first | ((with_reducible refine gate_callee (f := 145) rfl ?_); refine gL_ (some 7) Try.func145 #[.slice A0 l0.length c0, .int .i64 a1] rfl qa_ ?_; (with_reducible refine (slices_Index_int_int.calls k _ _ l0 a1 t623 _ (cc_ HR0) HC0.out A3.out).mono ?_); rintro e w' ⟨rfl, ⟨nd, rfl⟩⟩; refine ⟨_, rfl, ?_⟩))
  go_ret
  exact ⟨qc_, by repeat (first | exact Drawn0.refl _ | apply Drawn0.step)⟩
end Go.Proofs.Ytbdnellgioimbaa.A
end
section
namespace Go.Proofs.Ytbdnellgioimbaa.A
open Go.RowKit Go.Proofs.YtbdnellgioimbaaW.PrintWords Go.Proofs.YtbdnellgioimbaaW.PrintLast Go.Proofs.YtbdnellgioimbaaW.PrintMore
attribute [local go_sem] max2_int min2_int max_two min_two max_three min_three max_four min_four
set_option linter.unusedVariables false
set_option linter.unusedSimpArgs false
def impl_rowOf.l0 : Nat → Int → List (List Int) → Int → Int → Option (List Int)
  | 0, _, _, _, _ => none
  | k + 1, x1, x9, x10, x11 => if x11 < x10 then (if 0 ≤ x11 then (if x11 < (x9.length : Int) then ((slices_Contains_int_int.f k (rd_L1 x9 x11) x1).bind fun t629 => (if t629 = true then (some (rd_L1 x9 x11)) else (impl_rowOf.l0 k x1 x9 x10 (wrap64 (x11 + 1))))) else (none)) else (none)) else (some ([] : List Int))
def impl_rowOf.f (k : Nat) (l0_0 : List Int) (l0_1 : List Int) (a1 : Int) : Option (List Int) := (impl_CyclesOf.f k l0_0).bind fun t625 => (impl_rowOf.l0 k a1 t625 (t625.length : Int) 0)
theorem impl_rowOf.mono_l : ∀ k, (∀ y0 y1 y2 y3, LeO (impl_rowOf.l0 k y0 y1 y2 y3) (impl_rowOf.l0 (k + 1) y0 y1 y2 y3))
  | 0 => fun _ _ _ _ r h => by simp [impl_rowOf.l0] at h
  | k + 1 => by
    have ih0 := impl_rowOf.mono_l k
    · intro y0 y1 y2 y3
      unfold impl_rowOf.l0
      repeat' first|exact ih0 _ _ _ _|exact impl_CyclesOf.mono _ _|exact slices_Contains_int_int.mono _ _ _|exact lo_|refine LeO.ite ?_ ?_|refine LeO.bind ?_ (fun _ => ?_)
theorem impl_rowOf.mono : ∀ a0 a1 a2 k, LeO (impl_rowOf.f k a0 a1 a2) (impl_rowOf.f (k + 1) a0 a1 a2) := by
  intro a0 a1 a2 k
  have ih0 := impl_rowOf.mono_l k
  unfold impl_rowOf.f
  repeat' first|exact ih0 _ _ _ _|exact impl_CyclesOf.mono _ _|exact slices_Contains_int_int.mono _ _ _|exact lo_|refine LeO.ite ?_ ?_|refine LeO.bind ?_ (fun _ => ?_)
set_option maxHeartbeats 8000000 in
set_option maxRecDepth 100000 in
theorem impl_rowOf.calls (k : Nat) (A0_0 : Option Addr) (c0_0 : Nat) (l0_0 : List Int) (A0_1 : Option Addr) (c0_1 : Nat) (l0_1 : List Int) (a1 : Int) (r : List Int) (w : World) (hr0_0 : Kd.C (Kd.int .i64) w A0_0 l0_0.length l0_0) (hc0_0 : l0_0.length ≤ c0_0) (hr0_1 : Kd.C (Kd.int .i64) w A0_1 l0_1.length l0_1) (hc0_1 : l0_1.length ≤ c0_1) (h : impl_rowOf.f k l0_0 l0_1 a1 = some r) :
    Calls Try.prog 78 #[.agg #[.slice A0_0 l0_0.length c0_0, .slice A0_1 l0_1.length c0_1], .int .i64 a1] w fun e w' => ∃ v0_ : Value, e = .returned (v0_) ∧ Kd.R (Kd.int .i64) 3 w' w.heap.size (fun _ => True) v0_ r ∧ Below w.heap.size w w' := by
  have hu27 := Try.underlying27
  have HR0_0 := Aside0.mk hr0_0
  have HC0_0 := Aside0.mk hc0_0
  clear hr0_0 hc0_0
  have HR0_1 := Aside0.mk hr0_1
  have HC0_1 := Aside0.mk hc0_1
  clear hr0_1 hc0_1
  have HB := Aside0.mk (Below.refl w.heap.size w)
  have H := h
  unfold impl_rowOf.f at H
  clear h
  obtain ⟨t625, A3, H⟩ := bi_ H
  have H' := Aside0.mk H
  clear H
  go_enter Try.func78, Try.ntmps78
  go_wp2_with (first | ((with_reducible refine gate_dst (N := 2) rfl ?_); refine bx_ 2 #[.slice A0_0 l0_0.length c0_0, .slice A0_1 l0_1.length c0_1] 27 ?_; intro gb624 hg w4 hbox hb; have BK624 := Aside0.mk hbox; have GW624 := gw_ w hg; have GE624 := GW624; replace HB := b1_ hb; clear hb hbox hg; obtain ⟨hcz5_0, hcz5_1, hfz5_0, hfz5_1⟩ := c2_ BK624) | ((with_reducible refine gate_callee (f := 56) rfl ?_); refine gL_ (some 9) Try.func56 #[.slice A0_0 l0_0.length c0_0] rfl qa_ ?_; (with_reducible refine (impl_CyclesOf.calls k _ _ l0_0 t625 _ (cb_ HR0_0) HC0_0.out A3.out).mono ?_); rintro e w6 ⟨v626, rfl, ho0, hb⟩; refine ⟨_, rfl, ?_⟩; have HO627 := Aside0.mk (Kd.S_lower ho0 (below_size hB_)); replace BK624 := bb_ BK624 hb; replace HB := b1_ hb; clear hb ho0; obtain ⟨Ao7, co7, eo7⟩ := Kd.S_slice HO627.out; subst eo7))
  go_loopg [11] k (fun kq v11 w' => ∃ (x11_1 : Int), v11 = .int .i64 x11_1 ∧ Aside0 (impl_rowOf.l0 kq a1 t625 (t625.length : Int) x11_1 = some r) ∧ Aside0 (kq ≤ k) ∧ Aside0 (Kd.S (Kd.slice 3 (Kd.int .i64)) 22 w' w.heap.size (fun _ => True) (.slice Ao7 t625.length co7) t625) ∧ Aside0 (w'.heap[gb624]? = some (.cells #[(.slice A0_0 l0_0.length c0_0), (.slice A0_1 l0_1.length c0_1)] 27 (0, 0))) ∧ Aside0 (Below w.heap.size w w'))
  case atStart => exact ⟨(0), qc_, H', ⟨Nat.le_refl _⟩, ⟨(ss_ HO627)⟩, ⟨(kk_ BK624)⟩, ⟨hB_⟩⟩
  case round =>
    clear H'
    obtain ⟨x11_1, rfl, HA, HK1, HO_9, BK624, HB⟩ := hrel
    cases gk with
    | zero => exact absurd HA.out (by simp [impl_rowOf.l0])
    | succ k1 =>
      have H := HA.out
      clear HA
      simp only [impl_rowOf.l0] at H
      by_cases c8 : x11_1 < (t625.length : Int)
      · rw [if_pos c8] at H
        have c8b0 := decide_eq_true c8
        clear c8
        have c9 := cp_ H
        replace H := ca_ H
        have c9b0 := decide_eq_true c9
        clear c9
        have c10 := cp_ H
        replace H := ca_ H
        have c10b0 := decide_eq_true c10
        clear c10
        obtain ⟨t629, A11, H⟩ := bi_ H
        by_cases c12 : t629 = true
        · subst c12
          rw [if_pos rfl] at H
          obtain rfl := Option.some.inj H
          have p628 : 0 ≤ (x11_1 : Int) := of_decide_eq_true qe_
          have q628 : x11_1 < (t625.length : Int) := of_decide_eq_true qe_
          obtain ⟨ad628, A628_0, c628_0, e628, hx628_0, hl628_0, hi628_0⟩ := at_L1 (Kd.S_reads' HO_9.out).2.2 x11_1 p628 q628
          cases e628
          obtain ⟨ce628, hce628, hMe628, hcc628⟩ := Kd.S_get HO_9.out [] x11_1 p628 (by first | exact q628 | exact of_decide_eq_true qe_ | (have e_ := (Kd.S_reads' HO_9.out).1; omega))
          obtain ⟨ve628_0, rfl, ge628_0⟩ := hMe628
          have hv628_0 := hcc628 0 _ rfl
          rw [Nat.add_zero, show ((Kd.slice 3 (Kd.int .i64))).sz = 1 from rfl, Nat.mul_one] at hv628_0
          replace hv628_0 := Option.some.inj (hv628_0.symm.trans hx628_0)
          rw [hv628_0] at ge628_0
          have HL628_0 := Aside0.mk (show Kd.R (Kd.int .i64) 3 _ _ _ _ (rd_L1 t625 x11_1) from ge628_0)
          clear hv628_0 ge628_0
          clear hcc628 hce628
          have HR628_0 := Aside0.mk hi628_0
          have HC628_0 := Aside0.mk hl628_0
          clear hi628_0 hl628_0
          replace p628 := eq_true p628
          replace q628 := eq_true q628
          go_wp2_with (first | ((with_reducible refine gate_callee (f := 120) rfl ?_); refine gL_ (some 17) Try.func120 #[.slice A628_0 (rd_L1 t625 x11_1).length c628_0, .int .i64 a1] rfl qa_ ?_; (with_reducible refine (slices_Contains_int_int.calls k1 _ _ (rd_L1 t625 x11_1) a1 true _ (cw_ (by repeat (first | (with_reducible exact HR628_0.out) | (with_reducible refine Kd.C_alloc ?_ _) | (with_reducible refine Kd.C_drewN ?_ _) | (with_reducible refine Kd.C_drew ?_) | exact HR628_0.out))) HC628_0.out A11.out).mono ?_); rintro e w' ⟨rfl, ⟨nd, rfl⟩⟩; refine ⟨_, rfl, ?_⟩))
          go_ret
          exact ⟨_, qb_, (rw_ (Kd.R_mono HL628_0.out (fun _ hk => trivial))), hB_⟩
        · replace c12 := Bool.eq_false_iff.mpr c12
          subst c12
          have H1 : (impl_rowOf.l0 k1 a1 t625 (t625.length : Int) (wrap64 (x11_1 + 1))) = some r := by rw [if_neg (show ¬ (false = true) by decide)] at H; exact H
          clear H
          have H := H1
          clear H1
          have H' := Aside0.mk H
          clear H
          have p628 : 0 ≤ (x11_1 : Int) := of_decide_eq_true qe_
          have q628 : x11_1 < (t625.length : Int) := of_decide_eq_true qe_
          obtain ⟨ad628, A628_0, c628_0, e628, hx628_0, hl628_0, hi628_0⟩ := at_L1 (Kd.S_reads' HO_9.out).2.2 x11_1 p628 q628
          cases e628
          obtain ⟨ce628, hce628, hMe628, hcc628⟩ := Kd.S_get HO_9.out [] x11_1 p628 (by first | exact q628 | exact of_decide_eq_true qe_ | (have e_ := (Kd.S_reads' HO_9.out).1; omega))
          obtain ⟨ve628_0, rfl, ge628_0⟩ := hMe628
          have hv628_0 := hcc628 0 _ rfl
          rw [Nat.add_zero, show ((Kd.slice 3 (Kd.int .i64))).sz = 1 from rfl, Nat.mul_one] at hv628_0
          replace hv628_0 := Option.some.inj (hv628_0.symm.trans hx628_0)
          rw [hv628_0] at ge628_0
          have HL628_0 := Aside0.mk (show Kd.R (Kd.int .i64) 3 _ _ _ _ (rd_L1 t625 x11_1) from ge628_0)
          clear hv628_0 ge628_0
          clear hcc628 hce628
          have HR628_0 := Aside0.mk hi628_0
          have HC628_0 := Aside0.mk hl628_0
          clear hi628_0 hl628_0
          replace p628 := eq_true p628
          replace q628 := eq_true q628
          go_wp2_with (first | ((with_reducible refine gate_callee (f := 120) rfl ?_); refine gL_ (some 17) Try.func120 #[.slice A628_0 (rd_L1 t625 x11_1).length c628_0, .int .i64 a1] rfl qa_ ?_; (with_reducible refine (slices_Contains_int_int.calls k1 _ _ (rd_L1 t625 x11_1) a1 false _ (cw_ (by repeat (first | (with_reducible exact HR628_0.out) | (with_reducible refine Kd.C_alloc ?_ _) | (with_reducible refine Kd.C_drewN ?_ _) | (with_reducible refine Kd.C_drew ?_) | exact HR628_0.out))) HC628_0.out A11.out).mono ?_); rintro e w' ⟨rfl, ⟨nd, rfl⟩⟩; refine ⟨_, rfl, ?_⟩))
          go_roundg k1
          case measure => have := HK1.out; omega
          case rel => exact ⟨(wrap64 (x11_1 + 1)), qc_, H', ⟨by have := HK1.out; omega⟩, ⟨(ss_ HO_9)⟩, ⟨(kk_ BK624)⟩, ⟨hB_⟩⟩
      · rw [if_neg c8] at H
        have c8b0 := decide_eq_false c8
        clear c8
        obtain rfl := Option.some.inj H
        go_wp2
        go_ret
        exact ⟨_, qb_, by first | exact Kd.R_nil _ _ _ _ _ | exact Kd.N_nil _ _ _ _ _ | exact Kd.V_nil _ _ _ _ _ | exact Kd.Q_nil _ _ _ _ _ | exact Kd.S_nil _ _ _ _ _, hB_⟩
end Go.Proofs.Ytbdnellgioimbaa.A
end
section
namespace Go.Proofs.Ytbdnellgioimbaa.A
open Go.RowKit Go.Proofs.YtbdnellgioimbaaW.PrintWords Go.Proofs.YtbdnellgioimbaaW.PrintLast Go.Proofs.YtbdnellgioimbaaW.PrintMore
attribute [local go_sem] max2_int min2_int max_two min_two max_three min_three max_four min_four
set_option linter.unusedVariables false
set_option linter.unusedSimpArgs false
def slices_Min_int_int.l0 : Nat → List Int → Int → Int → Option Int
  | 0, _, _, _ => none
  | k + 1, l, m, i => if i < (l.length : Int) then (if 0 ≤ i then slices_Min_int_int.l0 k l (mn m (rd l i)) (wrap64 (i + 1)) else none) else some m
def slices_Min_int_int.f (k : Nat) (l0 : List Int) : Option Int := if (l0.length : Int) < 1 then none else slices_Min_int_int.l0 k l0 (rd l0 0) 1
theorem slices_Min_int_int.mono_l : ∀ k, (∀ y0 y1 y2, LeO (slices_Min_int_int.l0 k y0 y1 y2) (slices_Min_int_int.l0 (k + 1) y0 y1 y2))
  | 0 => fun _ _ _ r h => by simp [slices_Min_int_int.l0] at h
  | k + 1 => by
    have ih0 := slices_Min_int_int.mono_l k
    · intro y0 y1 y2
      unfold slices_Min_int_int.l0
      repeat' first|exact ih0 _ _ _|exact lo_|refine LeO.ite ?_ ?_|refine LeO.bind ?_ (fun _ => ?_)
theorem slices_Min_int_int.mono : ∀ a0 k, LeO (slices_Min_int_int.f k a0) (slices_Min_int_int.f (k + 1) a0) := by
  intro a0 k
  unfold slices_Min_int_int.f
  exact LeO.ite (LeO.none _) (slices_Min_int_int.mono_l k _ _ _)
set_option maxHeartbeats 8000000 in
set_option maxRecDepth 100000 in
theorem slices_Min_int_int.calls (k : Nat) (A0 : Option Addr) (c0 : Nat) (l0 : List Int) (r : Int) (w : World) (hr0 : Kd.C (Kd.int .i64) w A0 l0.length l0) (hc0 : l0.length ≤ c0) (h : slices_Min_int_int.f k l0 = some r) :
    Calls Try.prog 79 #[.slice A0 l0.length c0] w fun e w' => e = .returned (.int .i64 r) ∧ Drawn0 w w' := by
  have HR0 := Aside0.mk hr0
  have HC0 := Aside0.mk hc0
  clear hr0 hc0
  unfold slices_Min_int_int.f at h
  by_cases c2 : (l0.length : Int) < 1
  · rw [if_pos c2] at h
    cases h
  · rw [if_neg c2] at h
    have c2b0 := decide_eq_false c2
    have c2b1 : decide (l0.length < 1) = false := decide_eq_false (by omega)
    have q0 : (0 : Int) < (l0.length : Int) := by omega
    clear c2
    obtain ⟨ad, e0, hx⟩ := Kd.at_int HR0.out 0 (by omega) q0
    cases e0
    (try simp only [show (0 : Int).toNat = 0 from rfl, Nat.reduceMul, Nat.reduceEqDiff, Go.Addr.add, ↓reduceIte] at hx)
    have q0n : 0 < l0.length := by omega
    have q0b := eq_true q0n
    clear q0n
    have H' := Aside0.mk h
    clear h
    go_enter Try.func79, Try.ntmps79
    go_wp2
    go_loopg [3, 4] k (fun kq v3 v4 w' => ∃ (m : Int) (i : Int), v3 = .int .i64 m ∧ v4 = .int .i64 i ∧ Aside0 (slices_Min_int_int.l0 kq l0 m i = some r) ∧ Aside0 (kq ≤ k) ∧ Drawn0 w w')
    case atStart => exact ⟨rd l0 0, 1, rfl, rfl, H', ⟨Nat.le_refl _⟩, Drawn0.refl _⟩
    case round =>
      clear H' hx
      obtain ⟨m, i, rfl, rfl, HA, HK1, ⟨nd, rfl⟩⟩ := hrel
      cases gk with
      | zero => exact absurd HA.out (by simp [slices_Min_int_int.l0])
      | succ k1 =>
        have H := HA.out
        clear HA
        simp only [slices_Min_int_int.l0] at H
        by_cases c3 : i < (l0.length : Int)
        · rw [if_pos c3] at H
          have c4 := cp_ H
          replace H := ca_ H
          have c3b0 := decide_eq_true c3
          have c4b0 := decide_eq_true c4
          obtain ⟨ad', e0, hx⟩ := Kd.at_int HR0.out i c4 c3
          cases e0
          replace c3 := eq_true c3
          replace c4 := eq_true c4
          have H' := Aside0.mk H
          clear H
          go_wp2
          all_goals
            go_roundg k1
            case measure => have := HK1.out; omega
            case rel => exact ⟨mn m (rd l0 i), wrap64 (i + 1), (by unfold mn; split <;> first | rfl | (exfalso; omega) | (exfalso; simp_all)), rfl, H', ⟨by have := HK1.out; omega⟩, by repeat (first | exact Drawn0.refl _ | apply Drawn0.step)⟩
        · rw [if_neg c3] at H
          have c3b0 := decide_eq_false c3
          clear c3
          obtain rfl := Option.some.inj H
          go_wp2
          go_ret
          exact ⟨rfl, by repeat (first | exact Drawn0.refl _ | apply Drawn0.step)⟩
end Go.Proofs.Ytbdnellgioimbaa.A
end
