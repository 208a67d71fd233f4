/- Lemmas for the row FnExactSixthsInOrbit: the program's functions told as plain functions, and plain mathematics. No conditions. -/
import Derived.Lib.Bytealg
import Derived.Lib.Walk
import Derived.Test.YtcggfjpnfodbaaaQFnExactSixthsInOrbit3
section
namespace Go.Proofs.Ytcggfjpnfodbaaa.A
open Go.RowKit Go.Proofs.YtcggfjpnfodbaaaW.PrintWords Go.Proofs.YtcggfjpnfodbaaaW.PrintLast Go.Proofs.YtcggfjpnfodbaaaW.PrintMore
attribute [local go_sem] max2_int min2_int max_two min_two max_three min_three max_four min_four
set_option linter.unusedVariables false
set_option linter.unusedSimpArgs false
def Z10.f (k : Nat) (l0_0 : List Int) (l0_1 : List Int) (a1 : Int) : Option (List Int × List Int) := if a1 = 84 then ((Z15.f k l0_0 l0_1).bind fun bt390 => (some (bt390.1, bt390.2.1))) else (if a1 = 116 then ((Z5.f k l0_0 l0_1).bind fun bt397 => (some (bt397.1, bt397.2.1))) else (if a1 = 83 then ((Z21.f k l0_0 l0_1).bind fun bt404 => (some (bt404.1, bt404.2.1))) else (if a1 = 115 then ((Z9.f k l0_0 l0_1).bind fun bt411 => (some (bt411.1, bt411.2.1))) else (some (([] : List Int), ([] : List Int))))))
theorem Z10.mono : ∀ a0 a1 a2 k, LeO (Z10.f k a0 a1 a2) (Z10.f (k + 1) a0 a1 a2) := by
 intro a0 a1 a2 k
 unfold Z10.f
 repeat' first|exact Z15.mono _ _ _|exact Z21.mono _ _ _|exact Z5.mono _ _ _|exact Z9.mono _ _ _|exact lo_|refine LeO.ite ?_ ?_|refine LeO.bind ?_ (fun _ => ?_)
set_option maxHeartbeats 8000000 in
set_option maxRecDepth 100000 in
theorem Z10.calls (k : Nat) (A0_0 : Option Addr) (c0_0 : Nat) (l0_0 : List Int) (A0_1 : Option Addr) (c0_1 : Nat) (l0_1 : List Int) (a1 : Int) (r1 : List Int) (r2 : List Int) (w : World) (hr0_0 : Kd.C (Kd.int .i64) w A0_0 l0_0.length l0_0) (hc0_0 : l0_0.length ≤ c0_0) (hr0_1 : Kd.C (Kd.int .i64) w A0_1 l0_1.length l0_1) (hc0_1 : l0_1.length ≤ c0_1) (h : Z10.f k l0_0 l0_1 a1 = some (r1, r2)) :
  Calls Try.prog 63 #[.agg #[.slice A0_0 l0_0.length c0_0, .slice A0_1 l0_1.length c0_1], .int .u8 a1] w fun e w' => ∃ v0_ v1_ : Value, e = .returned (.agg #[v0_, v1_]) ∧ Kd.R (Kd.int .i64) 3 w' w.heap.size (fun k_ => some k_ ≠ (v1_ : Value).ownBlock) v0_ r1 ∧ Kd.R (Kd.int .i64) 3 w' w.heap.size (fun k_ => some k_ ≠ (v0_ : Value).ownBlock) v1_ r2 ∧ Below w.heap.size w w' := by
 have hu25 := Try.underlying25
 have HR0_0 := A_ hr0_0
 have HC0_0 := A_ hc0_0
 clear hr0_0 hc0_0
 have HR0_1 := A_ hr0_1
 have HC0_1 := A_ hc0_1
 clear hr0_1 hc0_1
 have HB := A_ (Below.refl w.heap.size w)
 have H := h
 unfold Z10.f at H
 clear h
 by_cases c3 : a1 = 84
 ·rw [if_pos c3] at H
  have c3b0 : (a1 == 84) = true := beq_iff_eq.mpr c3
  have c3b1 : (a1 != 84) = false := bne_eq_false_iff_eq.mpr c3
  clear c3
  obtain ⟨⟨t390, t393, t396⟩, A4, H⟩ := bi_ H
  try dsimp only at H
  simp only [Option.some.injEq, Prod.mk.injEq] at H
  obtain ⟨rfl, rfl⟩ := H
  go_enter Try.func63, Try.ntmps63
  go_wp2_with (first | ((with_reducible refine gB_ (N := 2) rfl ?_); refine bx_ 2 #[.slice A0_0 l0_0.length c0_0, .slice A0_1 l0_1.length c0_1] 25 ?_; intro gb387 hg w5 hbox hb; have BK387 := A_ hbox; have GW387 := gw_ w hg; have GE387 := GW387; replace HB := b1_ hb; clear hb hbox hg) | ((with_reducible refine gB_ (N := 4) rfl ?_); refine bx_ 4 #[.slice none 0 0, .slice none 0 0] 25 ?_; intro gb388 hg w6 hbox hb; have BK388 := A_ hbox; have GW388 := gw_ w hg; have GE388 := GW388; replace HB := b1_ hb; have NB387_388 := gN_ BK387 hg; have NB388_387 := gP_ BK387 hg; replace BK387 := bb_ BK387 hb; clear hb hbox hg) | ((with_reducible refine gB_ (N := 5) rfl ?_); refine bx_ 5 #[.slice none 0 0, .slice none 0 0] 25 ?_; intro gb389 hg w7 hbox hb; have BK389 := A_ hbox; have GW389 := gw_ w hg; have GE389 := GW389; replace HB := b1_ hb; have NB387_389 := gN_ BK387 hg; have NB389_387 := gP_ BK387 hg; replace BK387 := bb_ BK387 hb; have NB388_389 := gN_ BK388 hg; have NB389_388 := gP_ BK388 hg; replace BK388 := bb_ BK388 hb; clear hb hbox hg; have hnb8 := NB389_387.out; have hnc8 := NB387_389.out; have hnb9 := NB389_388.out; have hnc9 := NB388_389.out; obtain ⟨hcz10_0, hcz10_1, hfz10_0, hfz10_1⟩ := c2_ BK389; have hnb11 := NB387_388.out; have hnc11 := NB388_387.out; obtain ⟨hcz12_0, hcz12_1, hfz12_0, hfz12_1⟩ := c2_ BK387) | ((with_reducible refine gA_ (f := 22) rfl ?_); refine gL_ (some 12) Try.func22 #[.agg #[.slice A0_0 l0_0.length c0_0, .slice A0_1 l0_1.length c0_1]] rfl qa_ ?_; (with_reducible refine (Z15.calls k _ _ l0_0 _ _ l0_1 t390 t393 t396 _ (cD_ HR0_0.out hB_) HC0_0.out (cD_ HR0_1.out hB_) HC0_1.out A4.out).mono ?_); rintro e w13 ⟨v391, v394, rfl, ho0, ho1, hb⟩; refine ⟨_, rfl, ?_⟩; have HO392 := rl_ w ho0; have HO395 := rl_ w ho1; replace BK387 := A_ (kE_ (g := gb387) (o := .cells #[.slice A0_0 l0_0.length c0_0, .slice A0_1 l0_1.length c0_1] 25 (0, 0)) (by (with_reducible repeat (first | refine kA_ ?_ _ | refine kB_ ?_ | refine kC_ ?_ _)); refine blk_far ?_ NB387_389.out _; (with_reducible repeat (first | refine kA_ ?_ _ | refine kB_ ?_ | refine kC_ ?_ _)); refine blk_far ?_ NB387_389.out _; (with_reducible repeat (first | refine kA_ ?_ _ | refine kB_ ?_ | refine kC_ ?_ _)); exact BK387.out) hb); replace BK388 := A_ (kE_ (g := gb388) (o := .cells #[.slice none 0 0, .slice none 0 0] 25 (0, 0)) (by (with_reducible repeat (first | refine kA_ ?_ _ | refine kB_ ?_ | refine kC_ ?_ _)); refine blk_far ?_ NB388_389.out _; (with_reducible repeat (first | refine kA_ ?_ _ | refine kB_ ?_ | refine kC_ ?_ _)); refine blk_far ?_ NB388_389.out _; (with_reducible repeat (first | refine kA_ ?_ _ | refine kB_ ?_ | refine kC_ ?_ _)); exact BK388.out) hb); replace BK389 := A_ (kE_ (g := gb389) (o := .cells #[.slice none 0 0, .slice none 0 0] 25 (0, 0)) qp_ hb); replace HB := b1_ hb; clear hb ho0 ho1; obtain ⟨Ao14, co14, eo14⟩ := Kd.R_slice HO392.out; subst eo14; obtain ⟨hcz15_0, hcz15_1, hfz15_0, hfz15_1⟩ := c2_ BK389; obtain ⟨Ao16, co16, eo16⟩ := Kd.R_slice HO395.out; subst eo16; obtain ⟨hcz17_0, hcz17_1, hfz17_0, hfz17_1⟩ := c2_ BK388))
  refine bodyPost_ret (results_cell_row rfl _ _ gb388 25 #[.slice Ao14 t390.length co14, .slice Ao16 t393.length co16] (0, 0) _ rfl (by (with_reducible repeat (first | refine kA_ ?_ _ | refine kB_ ?_ | refine kC_ ?_ _)); refine blk_put (cs := #[.slice Ao14 t390.length co14, .slice none 0 0]) ?_ 1 _ rfl; (with_reducible repeat (first | refine kA_ ?_ _ | refine kB_ ?_ | refine kC_ ?_ _)); refine blk_put (cs := #[.slice none 0 0, .slice none 0 0]) ?_ 0 _ rfl; (with_reducible repeat (first | refine kA_ ?_ _ | refine kB_ ?_ | refine kC_ ?_ _)); refine blk_far ?_ NB388_389.out _; (with_reducible repeat (first | refine kA_ ?_ _ | refine kB_ ?_ | refine kC_ ?_ _)); refine blk_far ?_ NB388_389.out _; (with_reducible repeat (first | refine kA_ ?_ _ | refine kB_ ?_ | refine kC_ ?_ _)); exact BK388.out) Try.underlying25 rfl (by kernel_rfl)) rfl ?_
  exact ⟨_, _, qb_, (rw_ (Kd.R_mono (Kd.R_far (p := ⟨gb388, 1, none⟩) (Kd.R_far (p := ⟨gb388, 0, none⟩) (Kd.R_far (p := ⟨gb389, 1, none⟩) (Kd.R_far (p := ⟨gb389, 0, none⟩) (Kd.R_types (Kd.R_types HO392.out BK389.out (by decide)) BK388.out (by decide)) (fun _ hk => hk.1.2) (.slice Ao14 t390.length co14)) (fun _ hk => hk.1.2) (.slice Ao16 t393.length co16)) (fun _ hk => hk.2) (.slice Ao14 t390.length co14)) (fun _ hk => hk.2) (.slice Ao16 t393.length co16)) (fun _ hk => hk.1.1))), (rw_ (Kd.R_mono (Kd.R_far (p := ⟨gb388, 1, none⟩) (Kd.R_far (p := ⟨gb388, 0, none⟩) (Kd.R_far (p := ⟨gb389, 1, none⟩) (Kd.R_far (p := ⟨gb389, 0, none⟩) (Kd.R_types (Kd.R_types HO395.out BK389.out (by decide)) BK388.out (by decide)) (fun _ hk => hk.1.2) (.slice Ao14 t390.length co14)) (fun _ hk => hk.1.2) (.slice Ao16 t393.length co16)) (fun _ hk => hk.2) (.slice Ao14 t390.length co14)) (fun _ hk => hk.2) (.slice Ao16 t393.length co16)) (fun _ hk => hk.1.1))), hB_⟩
 ·rw [if_neg c3] at H
  have c3b0 : (a1 == 84) = false := beq_eq_false_iff_ne.mpr c3
  have c3b1 : (a1 != 84) = true := bne_iff_ne.mpr c3
  by_cases c18 : a1 = 116
  ·rw [if_pos c18] at H
   have c18b0 : (a1 == 116) = true := beq_iff_eq.mpr c18
   have c18b1 : (a1 != 116) = false := bne_eq_false_iff_eq.mpr c18
   clear c18
   obtain ⟨⟨t397, t400, t403⟩, A19, H⟩ := bi_ H
   try dsimp only at H
   simp only [Option.some.injEq, Prod.mk.injEq] at H
   obtain ⟨rfl, rfl⟩ := H
   go_enter Try.func63, Try.ntmps63
   go_wp2_with (first | ((with_reducible refine gB_ (N := 2) rfl ?_); refine bx_ 2 #[.slice A0_0 l0_0.length c0_0, .slice A0_1 l0_1.length c0_1] 25 ?_; intro gb387 hg w20 hbox hb; have BK387 := A_ hbox; have GW387 := gw_ w hg; have GE387 := GW387; replace HB := b1_ hb; clear hb hbox hg) | ((with_reducible refine gB_ (N := 4) rfl ?_); refine bx_ 4 #[.slice none 0 0, .slice none 0 0] 25 ?_; intro gb388 hg w21 hbox hb; have BK388 := A_ hbox; have GW388 := gw_ w hg; have GE388 := GW388; replace HB := b1_ hb; have NB387_388 := gN_ BK387 hg; have NB388_387 := gP_ BK387 hg; replace BK387 := bb_ BK387 hb; clear hb hbox hg) | ((with_reducible refine gB_ (N := 5) rfl ?_); refine bx_ 5 #[.slice none 0 0, .slice none 0 0] 25 ?_; intro gb389 hg w22 hbox hb; have BK389 := A_ hbox; have GW389 := gw_ w hg; have GE389 := GW389; replace HB := b1_ hb; have NB387_389 := gN_ BK387 hg; have NB389_387 := gP_ BK387 hg; replace BK387 := bb_ BK387 hb; have NB388_389 := gN_ BK388 hg; have NB389_388 := gP_ BK388 hg; replace BK388 := bb_ BK388 hb; clear hb hbox hg; have hnb23 := NB389_387.out; have hnc23 := NB387_389.out; have hnb24 := NB389_388.out; have hnc24 := NB388_389.out; obtain ⟨hcz25_0, hcz25_1, hfz25_0, hfz25_1⟩ := c2_ BK389; have hnb26 := NB387_388.out; have hnc26 := NB388_387.out; obtain ⟨hcz27_0, hcz27_1, hfz27_0, hfz27_1⟩ := c2_ BK387) | ((with_reducible refine gA_ (f := 99) rfl ?_); refine gL_ (some 19) Try.func99 #[.agg #[.slice A0_0 l0_0.length c0_0, .slice A0_1 l0_1.length c0_1]] rfl qa_ ?_; (with_reducible refine (Z5.calls k _ _ l0_0 _ _ l0_1 t397 t400 t403 _ (cD_ HR0_0.out hB_) HC0_0.out (cD_ HR0_1.out hB_) HC0_1.out A19.out).mono ?_); rintro e w28 ⟨v398, v401, rfl, ho0, ho1, hb⟩; refine ⟨_, rfl, ?_⟩; have HO399 := rl_ w ho0; have HO402 := rl_ w ho1; replace BK387 := A_ (kE_ (g := gb387) (o := .cells #[.slice A0_0 l0_0.length c0_0, .slice A0_1 l0_1.length c0_1] 25 (0, 0)) (by (with_reducible repeat (first | refine kA_ ?_ _ | refine kB_ ?_ | refine kC_ ?_ _)); refine blk_far ?_ NB387_389.out _; (with_reducible repeat (first | refine kA_ ?_ _ | refine kB_ ?_ | refine kC_ ?_ _)); refine blk_far ?_ NB387_389.out _; (with_reducible repeat (first | refine kA_ ?_ _ | refine kB_ ?_ | refine kC_ ?_ _)); exact BK387.out) hb); replace BK388 := A_ (kE_ (g := gb388) (o := .cells #[.slice none 0 0, .slice none 0 0] 25 (0, 0)) (by (with_reducible repeat (first | refine kA_ ?_ _ | refine kB_ ?_ | refine kC_ ?_ _)); refine blk_far ?_ NB388_389.out _; (with_reducible repeat (first | refine kA_ ?_ _ | refine kB_ ?_ | refine kC_ ?_ _)); refine blk_far ?_ NB388_389.out _; (with_reducible repeat (first | refine kA_ ?_ _ | refine kB_ ?_ | refine kC_ ?_ _)); exact BK388.out) hb); replace BK389 := A_ (kE_ (g := gb389) (o := .cells #[.slice none 0 0, .slice none 0 0] 25 (0, 0)) qp_ hb); replace HB := b1_ hb; clear hb ho0 ho1; obtain ⟨Ao29, co29, eo29⟩ := Kd.R_slice HO399.out; subst eo29; obtain ⟨hcz30_0, hcz30_1, hfz30_0, hfz30_1⟩ := c2_ BK389; obtain ⟨Ao31, co31, eo31⟩ := Kd.R_slice HO402.out; subst eo31; obtain ⟨hcz32_0, hcz32_1, hfz32_0, hfz32_1⟩ := c2_ BK388))
   refine bodyPost_ret (results_cell_row rfl _ _ gb388 25 #[.slice Ao29 t397.length co29, .slice Ao31 t400.length co31] (0, 0) _ rfl (by (with_reducible repeat (first | refine kA_ ?_ _ | refine kB_ ?_ | refine kC_ ?_ _)); refine blk_put (cs := #[.slice Ao29 t397.length co29, .slice none 0 0]) ?_ 1 _ rfl; (with_reducible repeat (first | refine kA_ ?_ _ | refine kB_ ?_ | refine kC_ ?_ _)); refine blk_put (cs := #[.slice none 0 0, .slice none 0 0]) ?_ 0 _ rfl; (with_reducible repeat (first | refine kA_ ?_ _ | refine kB_ ?_ | refine kC_ ?_ _)); refine blk_far ?_ NB388_389.out _; (with_reducible repeat (first | refine kA_ ?_ _ | refine kB_ ?_ | refine kC_ ?_ _)); refine blk_far ?_ NB388_389.out _; (with_reducible repeat (first | refine kA_ ?_ _ | refine kB_ ?_ | refine kC_ ?_ _)); exact BK388.out) Try.underlying25 rfl (by kernel_rfl)) rfl ?_
   exact ⟨_, _, qb_, (rw_ (Kd.R_mono (Kd.R_far (p := ⟨gb388, 1, none⟩) (Kd.R_far (p := ⟨gb388, 0, none⟩) (Kd.R_far (p := ⟨gb389, 1, none⟩) (Kd.R_far (p := ⟨gb389, 0, none⟩) (Kd.R_types (Kd.R_types HO399.out BK389.out (by decide)) BK388.out (by decide)) (fun _ hk => hk.1.2) (.slice Ao29 t397.length co29)) (fun _ hk => hk.1.2) (.slice Ao31 t400.length co31)) (fun _ hk => hk.2) (.slice Ao29 t397.length co29)) (fun _ hk => hk.2) (.slice Ao31 t400.length co31)) (fun _ hk => hk.1.1))), (rw_ (Kd.R_mono (Kd.R_far (p := ⟨gb388, 1, none⟩) (Kd.R_far (p := ⟨gb388, 0, none⟩) (Kd.R_far (p := ⟨gb389, 1, none⟩) (Kd.R_far (p := ⟨gb389, 0, none⟩) (Kd.R_types (Kd.R_types HO402.out BK389.out (by decide)) BK388.out (by decide)) (fun _ hk => hk.1.2) (.slice Ao29 t397.length co29)) (fun _ hk => hk.1.2) (.slice Ao31 t400.length co31)) (fun _ hk => hk.2) (.slice Ao29 t397.length co29)) (fun _ hk => hk.2) (.slice Ao31 t400.length co31)) (fun _ hk => hk.1.1))), hB_⟩
  ·rw [if_neg c18] at H
   have c18b0 : (a1 == 116) = false := beq_eq_false_iff_ne.mpr c18
   have c18b1 : (a1 != 116) = true := bne_iff_ne.mpr c18
   by_cases c33 : a1 = 83
   ·rw [if_pos c33] at H
    have c33b0 : (a1 == 83) = true := beq_iff_eq.mpr c33
    have c33b1 : (a1 != 83) = false := bne_eq_false_iff_eq.mpr c33
    clear c33
    obtain ⟨⟨t404, t407, t410⟩, A34, H⟩ := bi_ H
    try dsimp only at H
    simp only [Option.some.injEq, Prod.mk.injEq] at H
    obtain ⟨rfl, rfl⟩ := H
    go_enter Try.func63, Try.ntmps63
    go_wp2_with (first | ((with_reducible refine gB_ (N := 2) rfl ?_); refine bx_ 2 #[.slice A0_0 l0_0.length c0_0, .slice A0_1 l0_1.length c0_1] 25 ?_; intro gb387 hg w35 hbox hb; have BK387 := A_ hbox; have GW387 := gw_ w hg; have GE387 := GW387; replace HB := b1_ hb; clear hb hbox hg) | ((with_reducible refine gB_ (N := 4) rfl ?_); refine bx_ 4 #[.slice none 0 0, .slice none 0 0] 25 ?_; intro gb388 hg w36 hbox hb; have BK388 := A_ hbox; have GW388 := gw_ w hg; have GE388 := GW388; replace HB := b1_ hb; have NB387_388 := gN_ BK387 hg; have NB388_387 := gP_ BK387 hg; replace BK387 := bb_ BK387 hb; clear hb hbox hg) | ((with_reducible refine gB_ (N := 5) rfl ?_); refine bx_ 5 #[.slice none 0 0, .slice none 0 0] 25 ?_; intro gb389 hg w37 hbox hb; have BK389 := A_ hbox; have GW389 := gw_ w hg; have GE389 := GW389; replace HB := b1_ hb; have NB387_389 := gN_ BK387 hg; have NB389_387 := gP_ BK387 hg; replace BK387 := bb_ BK387 hb; have NB388_389 := gN_ BK388 hg; have NB389_388 := gP_ BK388 hg; replace BK388 := bb_ BK388 hb; clear hb hbox hg; have hnb38 := NB389_387.out; have hnc38 := NB387_389.out; have hnb39 := NB389_388.out; have hnc39 := NB388_389.out; obtain ⟨hcz40_0, hcz40_1, hfz40_0, hfz40_1⟩ := c2_ BK389; have hnb41 := NB387_388.out; have hnc41 := NB388_387.out; obtain ⟨hcz42_0, hcz42_1, hfz42_0, hfz42_1⟩ := c2_ BK387) | ((with_reducible refine gA_ (f := 100) rfl ?_); refine gL_ (some 26) Try.func100 #[.agg #[.slice A0_0 l0_0.length c0_0, .slice A0_1 l0_1.length c0_1]] rfl qa_ ?_; (with_reducible refine (Z21.calls k _ _ l0_0 _ _ l0_1 t404 t407 t410 _ (cD_ HR0_0.out hB_) HC0_0.out (cD_ HR0_1.out hB_) HC0_1.out A34.out).mono ?_); rintro e w43 ⟨v405, v408, rfl, ho0, ho1, hb⟩; refine ⟨_, rfl, ?_⟩; have HO406 := rl_ w ho0; have HO409 := rl_ w ho1; replace BK387 := A_ (kE_ (g := gb387) (o := .cells #[.slice A0_0 l0_0.length c0_0, .slice A0_1 l0_1.length c0_1] 25 (0, 0)) (by (with_reducible repeat (first | refine kA_ ?_ _ | refine kB_ ?_ | refine kC_ ?_ _)); refine blk_far ?_ NB387_389.out _; (with_reducible repeat (first | refine kA_ ?_ _ | refine kB_ ?_ | refine kC_ ?_ _)); refine blk_far ?_ NB387_389.out _; (with_reducible repeat (first | refine kA_ ?_ _ | refine kB_ ?_ | refine kC_ ?_ _)); exact BK387.out) hb); replace BK388 := A_ (kE_ (g := gb388) (o := .cells #[.slice none 0 0, .slice none 0 0] 25 (0, 0)) (by (with_reducible repeat (first | refine kA_ ?_ _ | refine kB_ ?_ | refine kC_ ?_ _)); refine blk_far ?_ NB388_389.out _; (with_reducible repeat (first | refine kA_ ?_ _ | refine kB_ ?_ | refine kC_ ?_ _)); refine blk_far ?_ NB388_389.out _; (with_reducible repeat (first | refine kA_ ?_ _ | refine kB_ ?_ | refine kC_ ?_ _)); exact BK388.out) hb); replace BK389 := A_ (kE_ (g := gb389) (o := .cells #[.slice none 0 0, .slice none 0 0] 25 (0, 0)) qp_ hb); replace HB := b1_ hb; clear hb ho0 ho1; obtain ⟨Ao44, co44, eo44⟩ := Kd.R_slice HO406.out; subst eo44; obtain ⟨hcz45_0, hcz45_1, hfz45_0, hfz45_1⟩ := c2_ BK389; obtain ⟨Ao46, co46, eo46⟩ := Kd.R_slice HO409.out; subst eo46; obtain ⟨hcz47_0, hcz47_1, hfz47_0, hfz47_1⟩ := c2_ BK388))
    refine bodyPost_ret (results_cell_row rfl _ _ gb388 25 #[.slice Ao44 t404.length co44, .slice Ao46 t407.length co46] (0, 0) _ rfl (by (with_reducible repeat (first | refine kA_ ?_ _ | refine kB_ ?_ | refine kC_ ?_ _)); refine blk_put (cs := #[.slice Ao44 t404.length co44, .slice none 0 0]) ?_ 1 _ rfl; (with_reducible repeat (first | refine kA_ ?_ _ | refine kB_ ?_ | refine kC_ ?_ _)); refine blk_put (cs := #[.slice none 0 0, .slice none 0 0]) ?_ 0 _ rfl; (with_reducible repeat (first | refine kA_ ?_ _ | refine kB_ ?_ | refine kC_ ?_ _)); refine blk_far ?_ NB388_389.out _; (with_reducible repeat (first | refine kA_ ?_ _ | refine kB_ ?_ | refine kC_ ?_ _)); refine blk_far ?_ NB388_389.out _; (with_reducible repeat (first | refine kA_ ?_ _ | refine kB_ ?_ | refine kC_ ?_ _)); exact BK388.out) Try.underlying25 rfl (by kernel_rfl)) rfl ?_
    exact ⟨_, _, qb_, (rw_ (Kd.R_mono (Kd.R_far (p := ⟨gb388, 1, none⟩) (Kd.R_far (p := ⟨gb388, 0, none⟩) (Kd.R_far (p := ⟨gb389, 1, none⟩) (Kd.R_far (p := ⟨gb389, 0, none⟩) (Kd.R_types (Kd.R_types HO406.out BK389.out (by decide)) BK388.out (by decide)) (fun _ hk => hk.1.2) (.slice Ao44 t404.length co44)) (fun _ hk => hk.1.2) (.slice Ao46 t407.length co46)) (fun _ hk => hk.2) (.slice Ao44 t404.length co44)) (fun _ hk => hk.2) (.slice Ao46 t407.length co46)) (fun _ hk => hk.1.1))), (rw_ (Kd.R_mono (Kd.R_far (p := ⟨gb388, 1, none⟩) (Kd.R_far (p := ⟨gb388, 0, none⟩) (Kd.R_far (p := ⟨gb389, 1, none⟩) (Kd.R_far (p := ⟨gb389, 0, none⟩) (Kd.R_types (Kd.R_types HO409.out BK389.out (by decide)) BK388.out (by decide)) (fun _ hk => hk.1.2) (.slice Ao44 t404.length co44)) (fun _ hk => hk.1.2) (.slice Ao46 t407.length co46)) (fun _ hk => hk.2) (.slice Ao44 t404.length co44)) (fun _ hk => hk.2) (.slice Ao46 t407.length co46)) (fun _ hk => hk.1.1))), hB_⟩
   ·rw [if_neg c33] at H
    have c33b0 : (a1 == 83) = false := beq_eq_false_iff_ne.mpr c33
    have c33b1 : (a1 != 83) = true := bne_iff_ne.mpr c33
    by_cases c48 : a1 = 115
    ·rw [if_pos c48] at H
     have c48b0 : (a1 == 115) = true := beq_iff_eq.mpr c48
     have c48b1 : (a1 != 115) = false := bne_eq_false_iff_eq.mpr c48
     clear c48
     obtain ⟨⟨t411, t414, t417⟩, A49, H⟩ := bi_ H
     try dsimp only at H
     simp only [Option.some.injEq, Prod.mk.injEq] at H
     obtain ⟨rfl, rfl⟩ := H
     go_enter Try.func63, Try.ntmps63
     go_wp2_with (first | ((with_reducible refine gB_ (N := 2) rfl ?_); refine bx_ 2 #[.slice A0_0 l0_0.length c0_0, .slice A0_1 l0_1.length c0_1] 25 ?_; intro gb387 hg w50 hbox hb; have BK387 := A_ hbox; have GW387 := gw_ w hg; have GE387 := GW387; replace HB := b1_ hb; clear hb hbox hg) | ((with_reducible refine gB_ (N := 4) rfl ?_); refine bx_ 4 #[.slice none 0 0, .slice none 0 0] 25 ?_; intro gb388 hg w51 hbox hb; have BK388 := A_ hbox; have GW388 := gw_ w hg; have GE388 := GW388; replace HB := b1_ hb; have NB387_388 := gN_ BK387 hg; have NB388_387 := gP_ BK387 hg; replace BK387 := bb_ BK387 hb; clear hb hbox hg) | ((with_reducible refine gB_ (N := 5) rfl ?_); refine bx_ 5 #[.slice none 0 0, .slice none 0 0] 25 ?_; intro gb389 hg w52 hbox hb; have BK389 := A_ hbox; have GW389 := gw_ w hg; have GE389 := GW389; replace HB := b1_ hb; have NB387_389 := gN_ BK387 hg; have NB389_387 := gP_ BK387 hg; replace BK387 := bb_ BK387 hb; have NB388_389 := gN_ BK388 hg; have NB389_388 := gP_ BK388 hg; replace BK388 := bb_ BK388 hb; clear hb hbox hg; have hnb53 := NB389_387.out; have hnc53 := NB387_389.out; have hnb54 := NB389_388.out; have hnc54 := NB388_389.out; obtain ⟨hcz55_0, hcz55_1, hfz55_0, hfz55_1⟩ := c2_ BK389; have hnb56 := NB387_388.out; have hnc56 := NB388_387.out; obtain ⟨hcz57_0, hcz57_1, hfz57_0, hfz57_1⟩ := c2_ BK387) | ((with_reducible refine gA_ (f := 101) rfl ?_); refine gL_ (some 33) Try.func101 #[.agg #[.slice A0_0 l0_0.length c0_0, .slice A0_1 l0_1.length c0_1]] rfl qa_ ?_; (with_reducible refine (Z9.calls k _ _ l0_0 _ _ l0_1 t411 t414 t417 _ (cD_ HR0_0.out hB_) HC0_0.out (cD_ HR0_1.out hB_) HC0_1.out A49.out).mono ?_); rintro e w58 ⟨v412, v415, rfl, ho0, ho1, hb⟩; refine ⟨_, rfl, ?_⟩; have HO413 := rl_ w ho0; have HO416 := rl_ w ho1; replace BK387 := A_ (kE_ (g := gb387) (o := .cells #[.slice A0_0 l0_0.length c0_0, .slice A0_1 l0_1.length c0_1] 25 (0, 0)) (by (with_reducible repeat (first | refine kA_ ?_ _ | refine kB_ ?_ | refine kC_ ?_ _)); refine blk_far ?_ NB387_389.out _; (with_reducible repeat (first | refine kA_ ?_ _ | refine kB_ ?_ | refine kC_ ?_ _)); refine blk_far ?_ NB387_389.out _; (with_reducible repeat (first | refine kA_ ?_ _ | refine kB_ ?_ | refine kC_ ?_ _)); exact BK387.out) hb); replace BK388 := A_ (kE_ (g := gb388) (o := .cells #[.slice none 0 0, .slice none 0 0] 25 (0, 0)) (by (with_reducible repeat (first | refine kA_ ?_ _ | refine kB_ ?_ | refine kC_ ?_ _)); refine blk_far ?_ NB388_389.out _; (with_reducible repeat (first | refine kA_ ?_ _ | refine kB_ ?_ | refine kC_ ?_ _)); refine blk_far ?_ NB388_389.out _; (with_reducible repeat (first | refine kA_ ?_ _ | refine kB_ ?_ | refine kC_ ?_ _)); exact BK388.out) hb); replace BK389 := A_ (kE_ (g := gb389) (o := .cells #[.slice none 0 0, .slice none 0 0] 25 (0, 0)) qp_ hb); replace HB := b1_ hb; clear hb ho0 ho1; obtain ⟨Ao59, co59, eo59⟩ := Kd.R_slice HO413.out; subst eo59; obtain ⟨hcz60_0, hcz60_1, hfz60_0, hfz60_1⟩ := c2_ BK389; obtain ⟨Ao61, co61, eo61⟩ := Kd.R_slice HO416.out; subst eo61; obtain ⟨hcz62_0, hcz62_1, hfz62_0, hfz62_1⟩ := c2_ BK388))
     refine bodyPost_ret (results_cell_row rfl _ _ gb388 25 #[.slice Ao59 t411.length co59, .slice Ao61 t414.length co61] (0, 0) _ rfl (by (with_reducible repeat (first | refine kA_ ?_ _ | refine kB_ ?_ | refine kC_ ?_ _)); refine blk_put (cs := #[.slice Ao59 t411.length co59, .slice none 0 0]) ?_ 1 _ rfl; (with_reducible repeat (first | refine kA_ ?_ _ | refine kB_ ?_ | refine kC_ ?_ _)); refine blk_put (cs := #[.slice none 0 0, .slice none 0 0]) ?_ 0 _ rfl; (with_reducible repeat (first | refine kA_ ?_ _ | refine kB_ ?_ | refine kC_ ?_ _)); refine blk_far ?_ NB388_389.out _; (with_reducible repeat (first | refine kA_ ?_ _ | refine kB_ ?_ | refine kC_ ?_ _)); refine blk_far ?_ NB388_389.out _; (with_reducible repeat (first | refine kA_ ?_ _ | refine kB_ ?_ | refine kC_ ?_ _)); exact BK388.out) Try.underlying25 rfl (by kernel_rfl)) rfl ?_
     exact ⟨_, _, qb_, (rw_ (Kd.R_mono (Kd.R_far (p := ⟨gb388, 1, none⟩) (Kd.R_far (p := ⟨gb388, 0, none⟩) (Kd.R_far (p := ⟨gb389, 1, none⟩) (Kd.R_far (p := ⟨gb389, 0, none⟩) (Kd.R_types (Kd.R_types HO413.out BK389.out (by decide)) BK388.out (by decide)) (fun _ hk => hk.1.2) (.slice Ao59 t411.length co59)) (fun _ hk => hk.1.2) (.slice Ao61 t414.length co61)) (fun _ hk => hk.2) (.slice Ao59 t411.length co59)) (fun _ hk => hk.2) (.slice Ao61 t414.length co61)) (fun _ hk => hk.1.1))), (rw_ (Kd.R_mono (Kd.R_far (p := ⟨gb388, 1, none⟩) (Kd.R_far (p := ⟨gb388, 0, none⟩) (Kd.R_far (p := ⟨gb389, 1, none⟩) (Kd.R_far (p := ⟨gb389, 0, none⟩) (Kd.R_types (Kd.R_types HO416.out BK389.out (by decide)) BK388.out (by decide)) (fun _ hk => hk.1.2) (.slice Ao59 t411.length co59)) (fun _ hk => hk.1.2) (.slice Ao61 t414.length co61)) (fun _ hk => hk.2) (.slice Ao59 t411.length co59)) (fun _ hk => hk.2) (.slice Ao61 t414.length co61)) (fun _ hk => hk.1.1))), hB_⟩
    ·rw [if_neg c48] at H
     have c48b0 : (a1 == 115) = false := beq_eq_false_iff_ne.mpr c48
     have c48b1 : (a1 != 115) = true := bne_iff_ne.mpr c48
     simp only [Option.some.injEq, Prod.mk.injEq] at H
     obtain ⟨rfl, rfl⟩ := H
     go_enter Try.func63, Try.ntmps63
     go_wp2_with (first | ((with_reducible refine gB_ (N := 2) rfl ?_); refine bx_ 2 #[.slice A0_0 l0_0.length c0_0, .slice A0_1 l0_1.length c0_1] 25 ?_; intro gb387 hg w63 hbox hb; have BK387 := A_ hbox; have GW387 := gw_ w hg; have GE387 := GW387; replace HB := b1_ hb; clear hb hbox hg) | ((with_reducible refine gB_ (N := 4) rfl ?_); refine bx_ 4 #[.slice none 0 0, .slice none 0 0] 25 ?_; intro gb388 hg w64 hbox hb; have BK388 := A_ hbox; have GW388 := gw_ w hg; have GE388 := GW388; replace HB := b1_ hb; have NB387_388 := gN_ BK387 hg; have NB388_387 := gP_ BK387 hg; replace BK387 := bb_ BK387 hb; clear hb hbox hg) | ((with_reducible refine gB_ (N := 5) rfl ?_); refine bx_ 5 #[.slice none 0 0, .slice none 0 0] 25 ?_; intro gb389 hg w65 hbox hb; have BK389 := A_ hbox; have GW389 := gw_ w hg; have GE389 := GW389; replace HB := b1_ hb; have NB387_389 := gN_ BK387 hg; have NB389_387 := gP_ BK387 hg; replace BK387 := bb_ BK387 hb; have NB388_389 := gN_ BK388 hg; have NB389_388 := gP_ BK388 hg; replace BK388 := bb_ BK388 hb; clear hb hbox hg; have hnb66 := NB389_387.out; have hnc66 := NB387_389.out; have hnb67 := NB389_388.out; have hnc67 := NB388_389.out; obtain ⟨hcz68_0, hcz68_1, hfz68_0, hfz68_1⟩ := c2_ BK389; have hnb69 := NB388_387.out; have hnc69 := NB387_388.out; obtain ⟨hcz70_0, hcz70_1, hfz70_0, hfz70_1⟩ := c2_ BK388))
     refine bodyPost_ret (results_cell_row rfl _ _ gb388 25 #[.slice none 0 0, .slice none 0 0] (0, 0) _ rfl (by (with_reducible repeat (first | refine kA_ ?_ _ | refine kB_ ?_ | refine kC_ ?_ _)); refine blk_put (cs := #[.slice none 0 0, .slice none 0 0]) ?_ 1 _ rfl; (with_reducible repeat (first | refine kA_ ?_ _ | refine kB_ ?_ | refine kC_ ?_ _)); refine blk_put (cs := #[.slice none 0 0, .slice none 0 0]) ?_ 0 _ rfl; (with_reducible repeat (first | refine kA_ ?_ _ | refine kB_ ?_ | refine kC_ ?_ _)); refine blk_far ?_ NB388_389.out _; (with_reducible repeat (first | refine kA_ ?_ _ | refine kB_ ?_ | refine kC_ ?_ _)); refine blk_far ?_ NB388_389.out _; (with_reducible repeat (first | refine kA_ ?_ _ | refine kB_ ?_ | refine kC_ ?_ _)); exact BK388.out) Try.underlying25 rfl (by kernel_rfl)) rfl ?_
     exact ⟨_, _, qb_, by first | exact Kd.R_nil _ _ _ _ _ | exact Kd.N_nil _ _ _ _ _ | exact Kd.V_nil _ _ _ _ _ | exact Kd.Q_nil _ _ _ _ _ | exact Kd.S_nil _ _ _ _ _, by first | exact Kd.R_nil _ _ _ _ _ | exact Kd.N_nil _ _ _ _ _ | exact Kd.V_nil _ _ _ _ _ | exact Kd.Q_nil _ _ _ _ _ | exact Kd.S_nil _ _ _ _ _, hB_⟩
end Go.Proofs.Ytcggfjpnfodbaaa.A
end
section
/- The orbit: what finding it comes to, and how it lies in memory. No conditions. -/
namespace Go.Proofs.Ytcggfjpnfodbaaa.M
set_option linter.unusedVariables false
set_option linter.unusedSimpArgs false
open Go Go.RowKit Go.Proofs.YtcggfjpnfodbaaaW.PrintWords Go.Proofs.YtcggfjpnfodbaaaW.PrintLast Go.Proofs.YtcggfjpnfodbaaaW.PrintMore Go.Proofs.Ytcggfjpnfodbaaa.A
structure Orb where
 L : List S25
 W : List ByteArray
 F : List Int
 B : List Int
 T : List Int
 S : List Int
def stpO (k : Nat) (i c : Int) (s : Orb) : Option (Option Orb) :=
 if 0 ≤ i then (if i < (s.L.length : Int) then ((Z10.f k (rd_T25 s.L i).f0 (rd_T25 s.L i).f1 c).bind fun x => ((Z54.f k x.1 x.2).bind fun y => ((indexO k s.L y.1 y.2.1).bind fun j =>
  (if j < 0 then (if (s.L.length : Int) = 120 then some none else (if s.L.length < 1000000 ∧ s.W.length < 1000000 ∧ s.F.length < 1000000 ∧ s.B.length < 1000000 ∧ s.T.length < 1000000 ∧ s.S.length < 1000000 then (if i < (s.W.length : Int) then (if (rdOf ByteArray.empty s.W i).size + 1 ≤ 9223372036854775807 then
   some (some ⟨s.L ++ [⟨y.1, y.2.1⟩], s.W ++ [rdOf ByteArray.empty s.W i ++ strOfNums [c]], s.F ++ [i], s.B ++ [c], if c = 84 then s.T ++ [(s.L.length : Int)] else s.T, if c = 84 then s.S else s.S ++ [(s.L.length : Int)]⟩) else none) else none) else none))
  else (if s.T.length < 1000000 ∧ s.S.length < 1000000 then some (some ⟨s.L, s.W, s.F, s.B, if c = 84 then s.T ++ [j] else s.T, if c = 84 then s.S else s.S ++ [j]⟩) else none))))) else none) else none
def innerO (k : Nat) (i : Int) : List Int → Orb → Option (Option Orb)
 | [], s => some (some s)
 | c :: cs, s => (stpO k i c s).bind fun z => match z with | none => some none | some s' => innerO k i cs s'
def loopO : Nat → Orb → Int → Option (Option Orb)
 | 0, _, _ => none
 | k + 1, s, i => if i < (s.L.length : Int) then ((innerO k i [84, 83] s).bind fun z => match z with | none => some none | some s' => loopO k s' (wrap64 (i + 1))) else some (some s)
def orbitO (k : Nat) (r u : List Int) : Option (Option Orb) := (Z54.f k r u).bind fun y => if y.2.2 = true then loopO k ⟨[⟨y.1, y.2.1⟩], [⟨#[]⟩], [-1], [0], [], []⟩ 0 else some none
structure OrbH (base : Nat) (col : Nat → Nat) (W : World) (gO gM n : Nat) (vL vW vF vB vT vS : Value) (s : Orb) : Prop where
 hO : W.heap[gO]? = some (.cells #[vL, vW, vF, vB, .map (some gM)] 69 (0, 0))
 hM : W.heap[gM]? = some (mapO n vT vS)
 cO : col gO = 6
 cM : col gM = 7
 bO : base ≤ gO
 bM : base ≤ gM
 nT : n = 0 → vT = .slice none 0 0
 nS : n ≤ 1 → vS = .slice none 0 0
 hL : Kd.S k25 25 W base (fun k => col k = 0) vL s.L
 hW : Kd.R Kd.string 9 W base (fun k => col k = 1) vW s.W
 hF : Kd.R (Kd.int .i64) 3 W base (fun k => col k = 2) vF s.F
 hB : Kd.R (Kd.int .u8) 5 W base (fun k => col k = 3) vB s.B
 hT : Kd.R (Kd.int .i64) 3 W base (fun k => col k = 4) vT s.T
 hS : Kd.R (Kd.int .i64) 3 W base (fun k => col k = 5) vS s.S
def rcl (n : Nat) (col : Nat → Nat) (c : Nat) : Nat → Nat := fun k => if k < n then col k else c
theorem rcl_new {n : Nat} {col : Nat → Nat} {c k : Nat} (h : n ≤ k) : rcl n col c k = c := if_neg (by omega)
theorem rcl_old {n : Nat} {col : Nat → Nat} {c k : Nat} (h : k < n) : rcl n col c k = col k := if_pos h
section
variable {α : Type} {d : Kd α} {e base c c2 : Nat} {col col' : Nat → Nat} {W w1 : World} {v : Value} {xs : List α} {row : Option Nat}
theorem R_col (h : d.R e W base (fun k => col k = c) v xs) (hc : ∀ k, k < W.heap.size → col' k = col k) : d.R e W base (fun k => col' k = c) v xs := Kd.R_mono (Kd.R_bound h) (fun k hk => (hc k hk.2.2.1).trans hk.1)
theorem S_col (h : Kd.S d e W base (fun k => col k = c) v xs) (hc : ∀ k, k < W.heap.size → col' k = col k) : Kd.S d e W base (fun k => col' k = c) v xs := Kd.S_mono (Kd.S_bound h) (fun k hk => (hc k hk.2.2.1).trans hk.1)
theorem R_gr (h : d.R e W base (fun k => col k = c2) v xs) (hg : W.grownBy w1 row) (hr : ∀ k, row = some k → col k = c) (hne : c ≠ c2) : d.R e w1 base (fun k => rcl W.heap.size col c k = c2) v xs :=
 Kd.R_grown (R_col h (fun k hk => rcl_old hk)) hg (fun k hk he => by
  have h1 := hr k he.symm
  unfold rcl at hk
  split at hk
  ·exact hne (h1.symm.trans hk)
  ·exact hne hk)
theorem S_gr (h : Kd.S d e W base (fun k => col k = c2) v xs) (hg : W.grownBy w1 row) (hr : ∀ k, row = some k → col k = c) (hne : c ≠ c2) : Kd.S d e w1 base (fun k => rcl W.heap.size col c k = c2) v xs :=
 Kd.S_grown (S_col h (fun k hk => rcl_old hk)) hg (fun k hk he => by
  have h1 := hr k he.symm
  unfold rcl at hk
  split at hk
  ·exact hne (h1.symm.trans hk)
  ·exact hne hk)
theorem B_gr {g : Nat} {o : Obj} (h : W.heap[g]? = some o) (hcg : col g = c2) (hg : W.grownBy w1 row) (hr : ∀ k, row = some k → col k = c) (hne : c ≠ c2) : w1.heap[g]? = some o ∧ rcl W.heap.size col c g = c2 :=
 ⟨(hg.block g (Array.getElem?_eq_some_iff.1 h).1 (fun he => hne ((hr g he.symm).symm.trans hcg))).trans h, (rcl_old (Array.getElem?_eq_some_iff.1 h).1).trans hcg⟩
end
theorem put_at {w : World} {g t : Nat} {cs : Array Value} (hb : w.heap[g]? = some (.cells cs t (0, 0))) (j : Nat) (v : Value) : (w.setCell ⟨g, j, none⟩ v).heap[g]? = some (.cells (cs.setIfInBounds j v) t (0, 0)) := blk_set hb j v
theorem put_far {w : World} {g g' : Nat} {o : Obj} (hb : w.heap[g']? = some o) (h : g' ≠ g) (j : Nat) (v : Value) : (w.setCell ⟨g, j, none⟩ v).heap[g']? = some o := (Below.heap_setCell w ⟨g, j, none⟩ v g' h).trans hb
section
variable {base : Nat} {col col' : Nat → Nat} {W w1 : World} {gO gM n : Nat} {vL vW vF vB vT vS : Value} {s : Orb}
theorem OrbH.below (h : OrbH base col W gO gM n vL vW vF vB vT vS s) (hb : Below W.heap.size W w1) : OrbH base col w1 gO gM n vL vW vF vB vT vS s :=
 ⟨blk_below h.hO hb, blk_below h.hM hb, h.cO, h.cM, h.bO, h.bM, h.nT, h.nS, Kd.S_below h.hL hb, Kd.R_below h.hW hb, Kd.R_below h.hF hb, Kd.R_below h.hB hb, Kd.R_below h.hT hb, Kd.R_below h.hS hb⟩
theorem OrbH.recol (h : OrbH base col W gO gM n vL vW vF vB vT vS s) (hc : ∀ k, k < W.heap.size → col' k = col k) : OrbH base col' W gO gM n vL vW vF vB vT vS s :=
 ⟨h.hO, h.hM, (hc _ (Array.getElem?_eq_some_iff.1 h.hO).1).trans h.cO, (hc _ (Array.getElem?_eq_some_iff.1 h.hM).1).trans h.cM, h.bO, h.bM, h.nT, h.nS, S_col h.hL hc, R_col h.hW hc, R_col h.hF hc, R_col h.hB hc, R_col h.hT hc, R_col h.hS hc⟩
theorem OrbH.ne (h : OrbH base col W gO gM n vL vW vF vB vT vS s) : gO ≠ gM := fun e => by have h1 := h.cO; have h2 := h.cM; rw [e] at h1; omega
theorem OrbH.look (h : OrbH base col W gO gM n vL vW vF vB vT vS s) : mapV n 84 vT vS = vT ∧ mapV n 83 vT vS = vS := by
 unfold mapV
 constructor
 ·rw [if_pos rfl]
  split
  ·rfl
  ·exact (h.nT (by omega)).symm
 ·rw [if_neg (by decide)]
  split
  ·rfl
  ·exact (h.nS (by omega)).symm
theorem OrbH.putL {v1 : Value} {L1 : List S25} (h : OrbH base col W gO gM n vL vW vF vB vT vS s) (hg : W.grownBy w1 vL.ownBlock) (h1 : Kd.S k25 25 w1 base (fun k => rcl W.heap.size col 0 k = 0) v1 L1) :
  OrbH base (rcl W.heap.size col 0) (w1.setCell ⟨gO, 0, none⟩ v1) gO gM n v1 vW vF vB vT vS { s with L := L1 } := by
 have hr : ∀ k, vL.ownBlock = some k → col k = 0 := (Kd.S_R h.hL).1
 have bO := B_gr h.hO h.cO hg hr (by decide)
 have bM := B_gr h.hM h.cM hg hr (by decide)
 have far : ∀ c, c ≠ 6 → ∀ k, rcl W.heap.size col 0 k = c → k ≠ (⟨gO, 0, none⟩ : Addr).block := fun c hc k hk e => by
  have : k = gO := e
  rw [this, bO.2] at hk
  exact hc hk.symm
 exact ⟨put_at bO.1 0 v1, put_far bM.1 h.ne.symm 0 v1, bO.2, bM.2, h.bO, h.bM, h.nT, h.nS, Kd.S_far h1 (far 0 (by decide)) v1, Kd.R_far (R_gr h.hW hg hr (by decide)) (far 1 (by decide)) v1, Kd.R_far (R_gr h.hF hg hr (by decide)) (far 2 (by decide)) v1, Kd.R_far (R_gr h.hB hg hr (by decide)) (far 3 (by decide)) v1, Kd.R_far (R_gr h.hT hg hr (by decide)) (far 4 (by decide)) v1, Kd.R_far (R_gr h.hS hg hr (by decide)) (far 5 (by decide)) v1⟩
theorem OrbH.putW {v1 : Value} {L1 : List ByteArray} (h : OrbH base col W gO gM n vL vW vF vB vT vS s) (hg : W.grownBy w1 vW.ownBlock) (h1 : Kd.R Kd.string 9 w1 base (fun k => rcl W.heap.size col 1 k = 1) v1 L1) :
  OrbH base (rcl W.heap.size col 1) (w1.setCell ⟨gO, 1, none⟩ v1) gO gM n vL v1 vF vB vT vS { s with W := L1 } := by
 have hr : ∀ k, vW.ownBlock = some k → col k = 1 := h.hW.1
 have bO := B_gr h.hO h.cO hg hr (by decide)
 have bM := B_gr h.hM h.cM hg hr (by decide)
 have far : ∀ c, c ≠ 6 → ∀ k, rcl W.heap.size col 1 k = c → k ≠ (⟨gO, 1, none⟩ : Addr).block := fun c hc k hk e => by
  have : k = gO := e
  rw [this, bO.2] at hk
  exact hc hk.symm
 exact ⟨put_at bO.1 1 v1, put_far bM.1 h.ne.symm 1 v1, bO.2, bM.2, h.bO, h.bM, h.nT, h.nS, Kd.S_far (S_gr h.hL hg hr (by decide)) (far 0 (by decide)) v1, Kd.R_far h1 (far 1 (by decide)) v1, Kd.R_far (R_gr h.hF hg hr (by decide)) (far 2 (by decide)) v1, Kd.R_far (R_gr h.hB hg hr (by decide)) (far 3 (by decide)) v1, Kd.R_far (R_gr h.hT hg hr (by decide)) (far 4 (by decide)) v1, Kd.R_far (R_gr h.hS hg hr (by decide)) (far 5 (by decide)) v1⟩
theorem OrbH.putF {v1 : Value} {L1 : List Int} (h : OrbH base col W gO gM n vL vW vF vB vT vS s) (hg : W.grownBy w1 vF.ownBlock) (h1 : Kd.R (Kd.int .i64) 3 w1 base (fun k => rcl W.heap.size col 2 k = 2) v1 L1) :
  OrbH base (rcl W.heap.size col 2) (w1.setCell ⟨gO, 2, none⟩ v1) gO gM n vL vW v1 vB vT vS { s with F := L1 } := by
 have hr : ∀ k, vF.ownBlock = some k → col k = 2 := h.hF.1
 have bO := B_gr h.hO h.cO hg hr (by decide)
 have bM := B_gr h.hM h.cM hg hr (by decide)
 have far : ∀ c, c ≠ 6 → ∀ k, rcl W.heap.size col 2 k = c → k ≠ (⟨gO, 2, none⟩ : Addr).block := fun c hc k hk e => by
  have : k = gO := e
  rw [this, bO.2] at hk
  exact hc hk.symm
 exact ⟨put_at bO.1 2 v1, put_far bM.1 h.ne.symm 2 v1, bO.2, bM.2, h.bO, h.bM, h.nT, h.nS, Kd.S_far (S_gr h.hL hg hr (by decide)) (far 0 (by decide)) v1, Kd.R_far (R_gr h.hW hg hr (by decide)) (far 1 (by decide)) v1, Kd.R_far h1 (far 2 (by decide)) v1, Kd.R_far (R_gr h.hB hg hr (by decide)) (far 3 (by decide)) v1, Kd.R_far (R_gr h.hT hg hr (by decide)) (far 4 (by decide)) v1, Kd.R_far (R_gr h.hS hg hr (by decide)) (far 5 (by decide)) v1⟩
theorem OrbH.putB {v1 : Value} {L1 : List Int} (h : OrbH base col W gO gM n vL vW vF vB vT vS s) (hg : W.grownBy w1 vB.ownBlock) (h1 : Kd.R (Kd.int .u8) 5 w1 base (fun k => rcl W.heap.size col 3 k = 3) v1 L1) :
  OrbH base (rcl W.heap.size col 3) (w1.setCell ⟨gO, 3, none⟩ v1) gO gM n vL vW vF v1 vT vS { s with B := L1 } := by
 have hr : ∀ k, vB.ownBlock = some k → col k = 3 := h.hB.1
 have bO := B_gr h.hO h.cO hg hr (by decide)
 have bM := B_gr h.hM h.cM hg hr (by decide)
 have far : ∀ c, c ≠ 6 → ∀ k, rcl W.heap.size col 3 k = c → k ≠ (⟨gO, 3, none⟩ : Addr).block := fun c hc k hk e => by
  have : k = gO := e
  rw [this, bO.2] at hk
  exact hc hk.symm
 exact ⟨put_at bO.1 3 v1, put_far bM.1 h.ne.symm 3 v1, bO.2, bM.2, h.bO, h.bM, h.nT, h.nS, Kd.S_far (S_gr h.hL hg hr (by decide)) (far 0 (by decide)) v1, Kd.R_far (R_gr h.hW hg hr (by decide)) (far 1 (by decide)) v1, Kd.R_far (R_gr h.hF hg hr (by decide)) (far 2 (by decide)) v1, Kd.R_far h1 (far 3 (by decide)) v1, Kd.R_far (R_gr h.hT hg hr (by decide)) (far 4 (by decide)) v1, Kd.R_far (R_gr h.hS hg hr (by decide)) (far 5 (by decide)) v1⟩
theorem OrbH.putT {v1 : Value} {L1 : List Int} (h : OrbH base col W gO gM n vL vW vF vB vT vS s) (hg : W.grownBy w1 vT.ownBlock) (h1 : Kd.R (Kd.int .i64) 3 w1 base (fun k => rcl W.heap.size col 4 k = 4) v1 L1) :
  w1.heap[gM]? = some (mapO n vT vS) ∧ OrbH base (rcl W.heap.size col 4) (setMap w1 gM (max n 1) v1 vS) gO gM (max n 1) vL vW vF vB v1 vS { s with T := L1 } := by
 have hr : ∀ k, vT.ownBlock = some k → col k = 4 := h.hT.1
 have bO := B_gr h.hO h.cO hg hr (by decide)
 have bM := B_gr h.hM h.cM hg hr (by decide)
 have hgm : w1.grownBy (setMap w1 gM (max n 1) v1 vS) (some gM) := setMap_grown v1 vS
 have far : ∀ c, c ≠ 7 → ∀ k, rcl W.heap.size col 4 k = c → some k ≠ some gM := fun c hc k hk e => by
  injection e with e
  rw [e, bM.2] at hk
  exact hc hk.symm
 exact ⟨bM.1, (setMap_far v1 vS h.ne).trans bO.1, setMap_at bM.1 v1 vS, bO.2, bM.2, h.bO, h.bM, fun e => by omega, fun e => h.nS (by omega), Kd.S_grown (S_gr h.hL hg hr (by decide)) hgm (far 0 (by decide)), Kd.R_grown (R_gr h.hW hg hr (by decide)) hgm (far 1 (by decide)), Kd.R_grown (R_gr h.hF hg hr (by decide)) hgm (far 2 (by decide)), Kd.R_grown (R_gr h.hB hg hr (by decide)) hgm (far 3 (by decide)), Kd.R_grown h1 hgm (far 4 (by decide)), Kd.R_grown (R_gr h.hS hg hr (by decide)) hgm (far 5 (by decide))⟩
theorem OrbH.putS {v1 : Value} {L1 : List Int} (h : OrbH base col W gO gM n vL vW vF vB vT vS s) (hn : n = 1 ∨ n = 2) (hg : W.grownBy w1 vS.ownBlock) (h1 : Kd.R (Kd.int .i64) 3 w1 base (fun k => rcl W.heap.size col 5 k = 5) v1 L1) :
  w1.heap[gM]? = some (mapO n vT vS) ∧ OrbH base (rcl W.heap.size col 5) (setMap w1 gM 2 vT v1) gO gM 2 vL vW vF vB vT v1 { s with S := L1 } := by
 have hr : ∀ k, vS.ownBlock = some k → col k = 5 := h.hS.1
 have bO := B_gr h.hO h.cO hg hr (by decide)
 have bM := B_gr h.hM h.cM hg hr (by decide)
 have hgm : w1.grownBy (setMap w1 gM 2 vT v1) (some gM) := setMap_grown vT v1
 have far : ∀ c, c ≠ 7 → ∀ k, rcl W.heap.size col 5 k = c → some k ≠ some gM := fun c hc k hk e => by
  injection e with e
  rw [e, bM.2] at hk
  exact hc hk.symm
 exact ⟨bM.1, (setMap_far vT v1 h.ne).trans bO.1, setMap_at bM.1 vT v1, bO.2, bM.2, h.bO, h.bM, fun e => by omega, fun e => by omega, Kd.S_grown (S_gr h.hL hg hr (by decide)) hgm (far 0 (by decide)), Kd.R_grown (R_gr h.hW hg hr (by decide)) hgm (far 1 (by decide)), Kd.R_grown (R_gr h.hF hg hr (by decide)) hgm (far 2 (by decide)), Kd.R_grown (R_gr h.hB hg hr (by decide)) hgm (far 3 (by decide)), Kd.R_grown (R_gr h.hT hg hr (by decide)) hgm (far 4 (by decide)), Kd.R_grown h1 hgm (far 5 (by decide))⟩
end
end Go.Proofs.Ytcggfjpnfodbaaa.M
end
section
/- What a call made lies apart from what was there. No conditions. -/
namespace Go.Proofs.Ytcggfjpnfodbaaa.M
open Go.RowKit Go.Proofs.YtcggfjpnfodbaaaW.PrintWords Go.Proofs.YtcggfjpnfodbaaaW.PrintLast Go.Proofs.YtcggfjpnfodbaaaW.PrintMore
theorem fresh_R {α : Type} {d : Kd α} {e b b0 : Nat} {w : World} {ok : Nat → Prop} {v : Value} {xs : List α} (h : d.R e w b ok v xs) (hb : b0 ≤ b) : d.R e w b0 (fun k => b ≤ k ∧ k < w.heap.size) v xs :=
 Kd.R_lower (Kd.R_mono (Kd.R_bound h) (fun _ hk => ⟨hk.2.1, hk.2.2.1⟩)) hb
theorem box_store {w0 W : World} {g t : Nat} {cs : Array Value} (hb : W.heap[g]? = some (.cells cs t (0, 0))) (x y : Value) (hB : Below w0.heap.size w0 W) (hg : w0.heap.size ≤ g) :
  ((W.setCell ⟨g, 0, none⟩ x).setCell ⟨g, 1, none⟩ y).heap[g]? = some (.cells ((cs.setIfInBounds 0 x).setIfInBounds 1 y) t (0, 0)) ∧ Kept W ((W.setCell ⟨g, 0, none⟩ x).setCell ⟨g, 1, none⟩ y) (fun k => k = g) ∧ Below w0.heap.size w0 ((W.setCell ⟨g, 0, none⟩ x).setCell ⟨g, 1, none⟩ y) :=
 ⟨blk_set (blk_set hb 0 x) 1 y, Kept.setCell (p := ⟨g, 1, none⟩) (Kept.setCell (p := ⟨g, 0, none⟩) (Kept.refl W (fun k => k = g)) (.inl rfl) x) (.inl rfl) y, below_set (below_set hB hg) hg⟩
end Go.Proofs.Ytcggfjpnfodbaaa.M
end
section
/- Finding the orbit: the program's walk. No conditions. -/
namespace Go.Proofs.Ytcggfjpnfodbaaa.M
set_option linter.unusedVariables false
set_option linter.unusedSimpArgs false
open Go Go.RowKit Go.Proofs.YtcggfjpnfodbaaaW.PrintWords Go.Proofs.YtcggfjpnfodbaaaW.PrintLast Go.Proofs.YtcggfjpnfodbaaaW.PrintMore Go.Proofs.Ytcggfjpnfodbaaa.A
def OrbPost (w w' : World) (e : Ending) : Option Orb → Prop
 | none => e = .returned (.tuple #[.pointer none, .bool false]) ∧ Below w.heap.size w w'
 | some s => ∃ gO gM n col vL vW vF vB vT vS, e = .returned (.tuple #[.pointer (some ⟨gO, 0, none⟩), .bool true]) ∧ OrbH w.heap.size col w' gO gM n vL vW vF vB vT vS s ∧ Below w.heap.size w w'
set_option maxHeartbeats 8000000 in
set_option maxRecDepth 100000 in
theorem orbit_no (k : Nat) (A0 : Option Addr) (c0 : Nat) (l0 : List Int) (A1 : Option Addr) (c1 : Nat) (l1 : List Int) (y1 y2 : List Int) (w : World) (h0 : Kd.C (Kd.int .i64) w A0 l0.length l0) (g0 : l0.length ≤ c0) (h1 : Kd.C (Kd.int .i64) w A1 l1.length l1) (g1 : l1.length ≤ c1) (h : Z54.f k l0 l1 = some (y1, y2, false)) :
  Calls Try.prog 59 #[.agg #[.slice A0 l0.length c0, .slice A1 l1.length c1]] w fun e w' => OrbPost w w' e none := by
 have hu := Try.underlying25
 have H0 := Aside0.mk h0; have H1 := Aside0.mk h1; have G0 := Aside0.mk g0; have G1 := Aside0.mk g1; have HA := Aside0.mk h
 clear h0 h1 g0 g1 h
 have HB := Aside0.mk (Below.refl w.heap.size w)
 go_enter Try.func59, Try.ntmps59
 go_wp2_with (first | ((with_reducible refine gate_dst (N := 1) rfl ?_); refine bx_ 1 #[.slice A0 l0.length c0, .slice A1 l1.length c1] 25 ?_; intro gs hg w2 hbox hb; have BS := Aside0.mk hbox; replace HB := b1_ hb; clear hb hbox hg; obtain ⟨hcz0, hcz1, hfz0, hfz1⟩ := c2_ BS) | ((with_reducible refine gate_callee (f := 28) rfl ?_); refine gL_ (some 15) Try.func28 #[.agg #[.slice A0 l0.length c0, .slice A1 l1.length c1]] rfl qa_ ?_; (with_reducible refine (Z54.calls k _ _ l0 _ _ l1 y1 y2 false _ (cb_ H0) G0.out (cb_ H1) G1.out HA.out).mono ?_); rintro e w3 ⟨v0, v1, rfl, ho0, ho1, hb⟩; refine ⟨_, rfl, ?_⟩; replace HB := b1_ hb; clear hb; obtain ⟨Ay0, cy0, ey0⟩ := Kd.R_slice ho0; subst ey0; obtain ⟨Ay1, cy1, ey1⟩ := Kd.R_slice ho1; subst ey1; clear ho0 ho1) | ((with_reducible refine gate_dst (N := 4) rfl ?_); refine bx_ 4 #[.slice none 0 0, .slice none 0 0] 25 ?_; intro gf hg w4 hbox hb; have GF := gw_ w hg; have BF := Aside0.mk hbox; replace HB := b1_ hb; clear hb hbox hg; obtain ⟨hcf0, hcf1, hff0, hff1⟩ := c2_ BF))
 go_ret2
 exact ⟨qb_, hB_⟩
section
variable {P : Program} {ops : Array Oper} {rest : List Oper} {o : Oper} {a : Act} {Q : Exit → Act → World → Prop}
theorem lit_event {W : World} (N : Tmp) (cs : Array Value) (e : TypeId) (n : Nat) (h : ∀ g, g = W.heap.size → ∀ w1, w1.heap[g]? = some (.cells cs e (0, 0)) → Below W.heap.size W w1 → wpList P ops Q rest (a.put o.dst (.slice (some ⟨g, 0, none⟩) n n)) w1) (hgd : o.guard = none := by rfl) (hd : o.dst = some N := by rfl)
  (hrun : (execOp a.eval o).run P W = .ok (.value (.slice (some ⟨W.heap.size, 0, none⟩) n n)) (W.alloc (.cells cs e (0, 0))) := by first | (go_simp; done) | (go_simp; rfl)) : wpList P ops Q (o :: rest) a W :=
 Kd.event_run hgd hrun (h _ rfl _ (blk_new W _) (below_alloc (Below.refl _ _) _))
theorem map_event {W : World} (N : Tmp) (h : ∀ g, g = W.heap.size → ∀ w1, w1.heap[g]? = some (.map #[] 0) → Below W.heap.size W w1 → wpList P ops Q rest (a.put o.dst (.map (some g))) w1) (hgd : o.guard = none := by rfl) (hd : o.dst = some N := by rfl)
  (hrun : (execOp a.eval o).run P W = .ok (.value (.map (some W.heap.size))) (W.alloc (.map #[] 0)) := by first | (go_simp; done) | (go_simp; rfl)) : wpList P ops Q (o :: rest) a W :=
 Kd.event_run hgd hrun (h _ rfl _ (blk_new W _) (below_alloc (Below.refl _ _) _))
end
theorem R_blk {α : Type} {enc : α → Value} {h1 : ∀ x : α, (enc x).oneCell' = true} {W : World} {g e base : Nat} {x : α} {ok : Nat → Prop} (hb : W.heap[g]? = some (.cells #[enc x] e (0, 0))) (hg : base ≤ g) (hok : ok g) : (Kd.scalar enc h1).R e W base ok (.slice (some ⟨g, 0, none⟩) 1 1) [x] :=
 ⟨fun k hk => (by simpa [Value.ownBlock] using hk : g = k) ▸ hok, [enc x], ⟨rfl, .inr ⟨g, 1, #[enc x], rfl, hg, hb, Nat.le_refl _, by decide, rfl, rfl⟩⟩, Reps.one rfl (Reps.none _ _)⟩
theorem S_blk {W : World} {g base : Nat} {u0 u1 : Value} {x : S25} {ok : Nat → Prop} (hb : W.heap[g]? = some (.cells #[u0, u1] 25 (0, 0))) (hg : base ≤ g) (hok : ok g) (h0 : Kd.R (Kd.int .i64) 3 W base (fun k => ok k ∧ k ≠ g) u0 x.f0) (h1 : Kd.R (Kd.int .i64) 3 W base (fun k => ok k ∧ k ≠ g) u1 x.f1) (ne : NeRow u0 u1) : Kd.S k25 25 W base ok (.slice (some ⟨g, 0, none⟩) 1 1) [x] := by
 refine ⟨fun _ => 0, fun k hk => by
  have : g = k := by simpa [Value.ownBlock] using hk
  exact this ▸ hok, [u0, u1], ⟨rfl, .inr ⟨g, 1, #[u0, u1], rfl, hg, hb, Nat.le_refl _, by decide, rfl, rfl⟩⟩, Reps.c2 ?_ (Reps.none _ _)⟩
 exact k25_mkM _ _ _ x (Kd.R_mono h0 (fun k hk => ⟨⟨hk.1, by simpa [Value.ownBlock] using hk.2⟩, rfl⟩)) (Kd.R_mono h1 (fun k hk => ⟨⟨hk.1, by simpa [Value.ownBlock] using hk.2⟩, rfl⟩)) ne
def orb_T21 : Bool × List (List Nat × List Nat) := (true, [([], []), ([0], [0]), ([1], [1]), ([2], [2]), ([], []), ([], []), ([5], [5]), ([6], [6]), ([7], [7]), ([], []), ([8, 9], [8, 9]), ([], []), ([11], [11]), ([10, 12], [10, 12]), ([3, 4, 13, 13, 0, 1, 2, 3, 4, 5, 6, 7, 8, 9, 10, 11, 12, 13], [3, 4, 13])])
def orb_B21 : List Nat := [0, 1, 3, 7, 0, 0, 32, 96, 224, 0, 992, 0, 2048, 8160, 16383]
theorem orb_tab21 : rtab .any (opsOf Try.f59 21) = orb_T21 := by kernel_rfl
theorem orb_bits21 : waitsOk orb_T21.2 orb_B21 = true := by kernel_rfl
def orb_T17 : Bool × List (List Nat × List Nat) := (true, [([], []), ([], []), ([1], [1]), ([2], [2]), ([3], [3]), ([], []), ([5], [5]), ([4, 6], [4, 6]), ([0, 0, 1, 2, 3, 4, 5, 6, 7], [0]), ([8, 0, 1, 2, 3, 4, 5, 6, 7], [8]), ([9, 7, 7, 0, 1, 2, 3, 4, 5, 6, 7], [7, 9])])
def orb_B17 : List Nat := [0, 0, 2, 6, 14, 0, 32, 126, 255, 511, 1023]
theorem orb_tab17 : rtab .any (opsOf Try.f59 17) = orb_T17 := by kernel_rfl
theorem orb_bits17 : waitsOk orb_T17.2 orb_B17 = true := by kernel_rfl
def orb_T18 : Bool × List (List Nat × List Nat) := (true, [([], []), ([], []), ([1], [1]), ([2], [2]), ([3], [3]), ([], []), ([5], [5]), ([6], [6]), ([7], [7]), ([], []), ([8, 9], [8, 9]), ([10], [10]), ([], []), ([12], [12]), ([13], [13]), ([11, 14], [11, 14]), ([15], [15]), ([4, 16], [4, 16]), ([0, 0, 1, 2, 3, 4, 5, 6, 7, 8, 9, 10, 11, 12, 13, 14, 15, 16, 17], [0]), ([18, 0, 1, 2, 3, 4, 5, 6, 7, 8, 9, 10, 11, 12, 13, 14, 15, 16, 17], [18]), ([19, 17, 17, 0, 1, 2, 3, 4, 5, 6, 7, 8, 9, 10, 11, 12, 13, 14, 15, 16, 17], [17, 19])])
def orb_B18 : List Nat := [0, 0, 2, 6, 14, 0, 32, 96, 224, 0, 992, 2016, 0, 4096, 12288, 32736, 65504, 131070, 262143, 524287, 1048575]
theorem orb_tab18 : rtab .any (opsOf Try.f59 18) = orb_T18 := by kernel_rfl
theorem orb_bits18 : waitsOk orb_T18.2 orb_B18 = true := by kernel_rfl
set_option maxHeartbeats 8000000 in
set_option maxRecDepth 100000 in
theorem orbit_yes (k : Nat) (A0 : Option Addr) (c0 : Nat) (l0 : List Int) (A1 : Option Addr) (c1 : Nat) (l1 : List Int) (y1 y2 : List Int) (R : Option Orb) (w : World) (h0 : Kd.C (Kd.int .i64) w A0 l0.length l0) (g0 : l0.length ≤ c0) (h1 : Kd.C (Kd.int .i64) w A1 l1.length l1) (g1 : l1.length ≤ c1) (h : Z54.f k l0 l1 = some (y1, y2, true)) (hl : loopO k ⟨[⟨y1, y2⟩], [⟨#[]⟩], [-1], [0], [], []⟩ 0 = some R) :
  Calls Try.prog 59 #[.agg #[.slice A0 l0.length c0, .slice A1 l1.length c1]] w fun e w' => OrbPost w w' e R := by
 have hu := Try.underlying25
 have H0 := Aside0.mk h0; have H1 := Aside0.mk h1; have G0 := Aside0.mk g0; have G1 := Aside0.mk g1; have HA := Aside0.mk h; have HL := Aside0.mk hl
 clear h0 h1 g0 g1 h hl
 have HB := Aside0.mk (Below.refl w.heap.size w)
 go_enter Try.func59, Try.ntmps59
 go_upto_region 4 with (first | ((with_reducible refine gate_dst (N := 1) rfl ?_); refine bx_ 1 #[.slice A0 l0.length c0, .slice A1 l1.length c1] 25 ?_; intro gs hg w2 hbox hb; have BS := Aside0.mk hbox; replace HB := b1_ hb; clear hb hbox hg; obtain ⟨hcz0, hcz1, hfz0, hfz1⟩ := c2_ BS) | ((with_reducible refine gate_callee (f := 28) rfl ?_); refine gL_ (some 15) Try.func28 #[.agg #[.slice A0 l0.length c0, .slice A1 l1.length c1]] rfl qa_ ?_; (with_reducible refine (Z54.calls k _ _ l0 _ _ l1 y1 y2 true _ (cb_ H0) G0.out (cb_ H1) G1.out HA.out).mono ?_); rintro e w3 ⟨v0, v1, rfl, ho0, ho1, hb⟩; refine ⟨_, rfl, ?_⟩; have ZB := Aside0.mk (below_size hB_ : w.heap.size ≤ w2.heap.size); replace HB := b1_ hb; clear hb; obtain ⟨Ay0, cy0, ey0⟩ := Kd.R_slice ho0; subst ey0; obtain ⟨Ay1, cy1, ey1⟩ := Kd.R_slice ho1; subst ey1; have Y0 := Aside0.mk ho0; have Y1 := Aside0.mk ho1; clear ho0 ho1) | ((with_reducible refine gate_dst (N := 4) rfl ?_); refine bx_ 4 #[.slice none 0 0, .slice none 0 0] 25 ?_; intro gf hg w4 hbox hb; have GF := gw_ w hg; have GF2 := Aside0.mk (show w3.heap.size ≤ gf from Nat.le_of_eq hg.symm); have BF := Aside0.mk hbox; have B3 := Aside0.mk hb; replace HB := b1_ hb; clear hb hbox hg; obtain ⟨hcf0, hcf1, hff0, hff1⟩ := c2_ BF))
 obtain ⟨hbox, hkp, hB2⟩ := box_store BF.out (.slice Ay0 y1.length cy0) (.slice Ay1 y2.length cy1) HB.out GF.out
 generalize hw : ((w4.setCell ⟨gf, 0, none⟩ (.slice Ay0 y1.length cy0)).setCell ⟨gf, 1, none⟩ (.slice Ay1 y2.length cy1)) = w5 at hbox hkp hB2 ⊢
 clear hw hcf0 hcf1 hff0 hff1 hcz0 hcz1 hfz0 hfz1 HB
 have NE := Aside0.mk (show NeRow (.slice Ay0 y1.length cy0) (.slice Ay1 y2.length cy1) from fun k_ e1_ e2_ => (Y0.out.1 k_ e1_) e2_.symm)
 replace Y0 := Aside0.mk (Kd.R_kept (Kd.R_below (Kd.R_bound Y0.out) B3.out) hkp (fun k_ hk hs => by have h2 := hk.2.2.1; have h3 := GF2.out; omega))
 replace Y1 := Aside0.mk (Kd.R_kept (Kd.R_below (Kd.R_bound Y1.out) B3.out) hkp (fun k_ hk hs => by have h2 := hk.2.2.1; have h3 := GF2.out; omega))
 have HB := Aside0.mk hB2
 replace BF := Aside0.mk (show w5.heap[gf]? = some (.cells #[.slice Ay0 y1.length cy0, .slice Ay1 y2.length cy1] 25 (0, 0)) from hbox)
 have Z5 := Aside0.mk hkp.1
 have HB5 := HB
 clear hbox hkp hB2
 obtain ⟨hcf0, hcf1, hff0, hff1⟩ := c2_ BF
 replace Y0 := Aside0.mk (Kd.R_bound Y0.out)
 replace Y1 := Aside0.mk (Kd.R_bound Y1.out)
 go_wp2_with (first | ((with_reducible refine gate_dst (N := 21) rfl ?_); refine lit_event 21 #[.slice Ay0 y1.length cy0, .slice Ay1 y2.length cy1] 25 1 ?_; intro g1 hg w6 hbox hb; have Kg1 := Aside0.mk hbox; have Sg1 := Aside0.mk (show w5.heap.size ≤ g1 ∧ g1 < w6.heap.size from ⟨Nat.le_of_eq hg.symm, (Array.getElem?_eq_some_iff.1 hbox).1⟩); replace Y0 := Aside0.mk (Kd.R_below Y0.out hb); replace Y1 := Aside0.mk (Kd.R_below Y1.out hb); replace HB := b1_ hb; clear hb hbox hg) | ((with_reducible refine gate_dst (N := 22) rfl ?_); refine lit_event 22 #[.string ⟨#[]⟩] 9 1 ?_; intro g2 hg w7 hbox hb; have Kg2 := Aside0.mk hbox; have Sg2 := Aside0.mk (show w6.heap.size ≤ g2 ∧ g2 < w7.heap.size from ⟨Nat.le_of_eq hg.symm, (Array.getElem?_eq_some_iff.1 hbox).1⟩); replace Kg1 := bb_ Kg1 hb; replace Y0 := Aside0.mk (Kd.R_below Y0.out hb); replace Y1 := Aside0.mk (Kd.R_below Y1.out hb); replace HB := b1_ hb; clear hb hbox hg) | ((with_reducible refine gate_dst (N := 23) rfl ?_); refine lit_event 23 #[.int .i64 (-1)] 3 1 ?_; intro g3 hg w8 hbox hb; have Kg3 := Aside0.mk hbox; have Sg3 := Aside0.mk (show w7.heap.size ≤ g3 ∧ g3 < w8.heap.size from ⟨Nat.le_of_eq hg.symm, (Array.getElem?_eq_some_iff.1 hbox).1⟩); replace Kg1 := bb_ Kg1 hb; replace Kg2 := bb_ Kg2 hb; replace Y0 := Aside0.mk (Kd.R_below Y0.out hb); replace Y1 := Aside0.mk (Kd.R_below Y1.out hb); replace HB := b1_ hb; clear hb hbox hg) | ((with_reducible refine gate_dst (N := 24) rfl ?_); refine lit_event 24 #[.int .u8 0] 5 1 ?_; intro g4 hg w9 hbox hb; have Kg4 := Aside0.mk hbox; have Sg4 := Aside0.mk (show w8.heap.size ≤ g4 ∧ g4 < w9.heap.size from ⟨Nat.le_of_eq hg.symm, (Array.getElem?_eq_some_iff.1 hbox).1⟩); replace Kg1 := bb_ Kg1 hb; replace Kg2 := bb_ Kg2 hb; replace Kg3 := bb_ Kg3 hb; replace Y0 := Aside0.mk (Kd.R_below Y0.out hb); replace Y1 := Aside0.mk (Kd.R_below Y1.out hb); replace HB := b1_ hb; clear hb hbox hg) | ((with_reducible refine gate_dst (N := 25) rfl ?_); refine map_event 25 ?_; intro gM hg w10 hbox hb; have KgM := Aside0.mk hbox; have SgM := Aside0.mk (show w9.heap.size ≤ gM ∧ gM < w10.heap.size from ⟨Nat.le_of_eq hg.symm, (Array.getElem?_eq_some_iff.1 hbox).1⟩); replace Kg1 := bb_ Kg1 hb; replace Kg2 := bb_ Kg2 hb; replace Kg3 := bb_ Kg3 hb; replace Kg4 := bb_ Kg4 hb; replace Y0 := Aside0.mk (Kd.R_below Y0.out hb); replace Y1 := Aside0.mk (Kd.R_below Y1.out hb); replace HB := b1_ hb; clear hb hbox hg) | ((with_reducible refine gate_dst (N := 27) rfl ?_); refine bx_ 27 #[.slice (some ⟨g1, 0, none⟩) 1 1, .slice (some ⟨g2, 0, none⟩) 1 1, .slice (some ⟨g3, 0, none⟩) 1 1, .slice (some ⟨g4, 0, none⟩) 1 1, .map (some gM)] 69 ?_; intro gO hg w11 hbox hb; have KgO := Aside0.mk hbox; have SgO := Aside0.mk (show w10.heap.size ≤ gO ∧ gO < w11.heap.size from ⟨Nat.le_of_eq hg.symm, (Array.getElem?_eq_some_iff.1 hbox).1⟩); replace Kg1 := bb_ Kg1 hb; replace Kg2 := bb_ Kg2 hb; replace Kg3 := bb_ Kg3 hb; replace Kg4 := bb_ Kg4 hb; replace KgM := bb_ KgM hb; replace Y0 := Aside0.mk (Kd.R_below Y0.out hb); replace Y1 := Aside0.mk (Kd.R_below Y1.out hb); replace HB := b1_ hb; clear hb hbox hg))
 have HH : Aside0 (OrbH w.heap.size (fun k => if k = g2 then 1 else if k = g3 then 2 else if k = g4 then 3 else if k = gO then 6 else if k = gM then 7 else 0) w11 gO gM 0 (.slice (some ⟨g1, 0, none⟩) 1 1) (.slice (some ⟨g2, 0, none⟩) 1 1) (.slice (some ⟨g3, 0, none⟩) 1 1) (.slice (some ⟨g4, 0, none⟩) 1 1) (.slice none 0 0) (.slice none 0 0) ⟨[⟨y1, y2⟩], [⟨#[]⟩], [-1], [0], [], []⟩) := by
  have q1 := Sg1.out; have q2 := Sg2.out; have q3 := Sg3.out; have q4 := Sg4.out; have q5 := SgM.out; have q6 := SgO.out
  have z5 := Z5.out; have z2 := ZB.out; have zf := GF.out; have zg := GF2.out
  have bz : w.heap.size ≤ w5.heap.size := HB5.out.size
  refine ⟨⟨KgO.out, KgM.out, ?_, ?_, by omega, by omega, fun _ => rfl, fun _ => rfl, ?_, ?_, ?_, ?_, Kd.R_nil _ _ _ _ _, Kd.R_nil _ _ _ _ _⟩⟩
  ·show (if gO = g2 then 1 else if gO = g3 then 2 else if gO = g4 then 3 else if gO = gO then 6 else if gO = gM then 7 else 0) = 6
   rw [if_neg (by omega), if_neg (by omega), if_neg (by omega), if_pos rfl]
  ·show (if gM = g2 then 1 else if gM = g3 then 2 else if gM = g4 then 3 else if gM = gO then 6 else if gM = gM then 7 else 0) = 7
   rw [if_neg (by omega), if_neg (by omega), if_neg (by omega), if_neg (by omega), if_pos rfl]
  ·refine S_blk (x := ⟨y1, y2⟩) Kg1.out (by omega) ?_ ?_ ?_ NE.out
   ·show (if g1 = g2 then 1 else if g1 = g3 then 2 else if g1 = g4 then 3 else if g1 = gO then 6 else if g1 = gM then 7 else 0) = 0
    rw [if_neg (by omega), if_neg (by omega), if_neg (by omega), if_neg (by omega), if_neg (by omega)]
   ·refine Kd.R_mono (Kd.R_lower Y0.out (by omega)) (fun k hk => ?_)
    have hk2 := hk.2.2.1
    show (if k = g2 then 1 else if k = g3 then 2 else if k = g4 then 3 else if k = gO then 6 else if k = gM then 7 else 0) = 0 ∧ k ≠ g1
    rw [if_neg (by omega), if_neg (by omega), if_neg (by omega), if_neg (by omega), if_neg (by omega)]
    exact ⟨rfl, by omega⟩
   ·refine Kd.R_mono (Kd.R_lower Y1.out (by omega)) (fun k hk => ?_)
    have hk2 := hk.2.2.1
    show (if k = g2 then 1 else if k = g3 then 2 else if k = g4 then 3 else if k = gO then 6 else if k = gM then 7 else 0) = 0 ∧ k ≠ g1
    rw [if_neg (by omega), if_neg (by omega), if_neg (by omega), if_neg (by omega), if_neg (by omega)]
    exact ⟨rfl, by omega⟩
  ·exact R_blk Kg2.out (by omega) (if_pos rfl)
  ·refine R_blk Kg3.out (by omega) ?_
   show (if g3 = g2 then 1 else if g3 = g3 then 2 else if g3 = g4 then 3 else if g3 = gO then 6 else if g3 = gM then 7 else 0) = 2
   rw [if_neg (by omega), if_pos rfl]
  ·refine R_blk Kg4.out (by omega) ?_
   show (if g4 = g2 then 1 else if g4 = g3 then 2 else if g4 = g4 then 3 else if g4 = gO then 6 else if g4 = gM then 7 else 0) = 3
   rw [if_neg (by omega), if_neg (by omega), if_pos rfl]
 clear Kg1 Kg2 Kg3 Kg4 KgM KgO Sg1 Sg2 Sg3 Sg4 SgM SgO Y0 Y1 NE BF GF GF2 Z5 ZB B3 BS H0 H1 G0 G1 HA hcf0 hcf1 hff0 hff1 HB5
 go_loopg [7] k (fun kq v7 w' => ∃ (x7 : Int) (n : Nat) (col : Nat → Nat) (vL vW vF vB vT vS : Value) (s : Orb), v7 = .int .i64 x7 ∧ Aside0 (loopO kq s x7 = some R) ∧ Aside0 (kq ≤ k) ∧ Aside0 (n = 0 ∨ n = 2) ∧ Aside0 (OrbH w.heap.size col w' gO gM n vL vW vF vB vT vS s) ∧ Aside0 (Below w.heap.size w w'))
 case atStart => exact ⟨0, 0, _, _, _, _, _, _, _, _, rfl, HL, ⟨Nat.le_refl _⟩, ⟨.inl rfl⟩, HH, HB⟩
 case round =>
  clear HL HH HB
  obtain ⟨x7, n, col, vL, vW, vF, vB, vT, vS, s, rfl, HA, HK, HN, HH, HB⟩ := hrel
  cases gk with
  | zero => exact absurd HA.out (by simp [loopO])
  | succ k1 =>
   have H := HA.out
   clear HA
   simp only [loopO] at H
   obtain ⟨AL, cL, eL⟩ := Kd.S_slice HH.out.hL
   subst eL
   have hco0 : wr.cell? ⟨gO, 0, none⟩ = some (.slice AL s.L.length cL) := (blk_cell HH.out.hO 0).trans rfl
   have hfo0 := blk_frozen HH.out.hO 0
   by_cases hq1 : x7 < (s.L.length : Int)
   ·rw [if_pos hq1] at H
    have c1b := decide_eq_true hq1
    obtain ⟨z, AZ, H⟩ := bi_ H
    have HR := Aside0.mk H
    clear H
    obtain ⟨wo, hwo⟩ : ∃ wo : World, wo = wr := ⟨_, rfl⟩
    subst hwo
    go_wp2_with (first | ((with_reducible refine gate_dst (N := 37) rfl ?_); refine lit_event 37 #[.int .u8 84, .int .u8 83] 5 2 ?_; intro gl hg w12 hbox hb; have SL := Aside0.mk (show wo.heap.size ≤ gl from Nat.le_of_eq hg.symm); have BL := Aside0.mk hbox; have HH2 := Aside0.mk ((HH.out.recol (col' := fun k => if k = gl then 8 else col k) (fun k hk => if_neg (by have := SL.out; omega))).below hb); replace HB := b1_ hb; clear hb hbox hg))
    clear hco0 hfo0 c1b HH
    have SLG := SL
    go_loopg [39] 2 (fun gi v39 w' => ∃ (jj n' : Nat) (col' : Nat → Nat) (vL vW vF vB vT vS : Value) (s' : Orb), v39 = .int .i64 (jj : Int) ∧ Aside0 (jj ≤ 2) ∧ Aside0 (2 - jj ≤ gi) ∧ Aside0 (innerO k1 x7 (([84, 83] : List Int).drop jj) s' = some z) ∧ Aside0 ((jj = 0 → n' = 0 ∨ n' = 2) ∧ (jj = 1 → n' = 1 ∨ n' = 2) ∧ (jj = 2 → n' = 2)) ∧ Aside0 (col' gl = 8) ∧ Aside0 (w'.heap[gl]? = some (.cells #[.int .u8 84, .int .u8 83] 5 (0, 0))) ∧ Aside0 (OrbH w.heap.size col' w' gO gM n' vL vW vF vB vT vS s') ∧ Aside0 (Below w.heap.size w w'))
    case atStart => exact ⟨0, n, (fun k => if k = gl then 8 else col k), _, _, _, _, _, _, s, rfl, ⟨by omega⟩, ⟨by omega⟩, AZ, ⟨⟨fun _ => HN.out, fun e => absurd e (by decide), fun e => absurd e (by decide)⟩⟩, ⟨if_pos rfl⟩, BL, HH2, HB⟩
    case round =>
     clear AZ HH2 HB BL SL HN
     obtain ⟨jj, n', col', vL', vW', vF', vB', vT', vS', s', rfl, HJ, HG, AZ, HN, HC, BL, HH, HB⟩ := hrel
     have hj := HJ.out
     obtain ⟨AL', cL', eL'⟩ := Kd.S_slice HH.out.hL
     subst eL'
     have hcl0 : wr.cell? ⟨gl, 0, none⟩ = some (.int .u8 84) := (blk_cell BL.out 0).trans rfl
     have hcl1 : wr.cell? ⟨gl, 1, none⟩ = some (.int .u8 83) := (blk_cell BL.out 1).trans rfl
     have hfl0 := blk_frozen BL.out 0
     have hfl1 := blk_frozen BL.out 1
     have hco0 : wr.cell? ⟨gO, 0, none⟩ = some (.slice AL' s'.L.length cL') := (blk_cell HH.out.hO 0).trans rfl
     have hfo0 := blk_frozen HH.out.hO 0
     rcases Nat.lt_or_ge jj 2 with hj2 | hj2
     ·have hq3 : jj = 0 ∨ jj = 1 := by omega
      rcases hq3 with rfl | rfl
      ·skip
       have hn0 := Aside0.mk (HN.out.1 rfl)
       have H := AZ.out
       clear AZ
       change innerO k1 x7 (84 :: [83]) s' = some z at H
       simp only [innerO] at H
       obtain ⟨zz, AS, H⟩ := bi_ H
       have HT := Aside0.mk H
       have H := AS.out
       clear AS
       unfold stpO at H
       have hi0 := cp_ H
       replace H := ca_ H
       have hi1 := cp_ H
       replace H := ca_ H
       obtain ⟨⟨x1, x2⟩, AX, H⟩ := bi_ H
       obtain ⟨⟨y1', y2', yb⟩, AY, H⟩ := bi_ H
       obtain ⟨j, AJ, H⟩ := bi_ H
       dsimp only at H AY AJ
       have HS := Aside0.mk H
       clear H
       obtain ⟨adx, Ax0, cx0, Ax1, cx1, ex, hx0, hx1, hlx0, hix0, hlx1, hix1⟩ := at_T25 (Kd.S_reads' HH.out.hL).2.2 x7 hi0 hi1
       cases ex
       have X0 := Aside0.mk hix0; have X1 := Aside0.mk hix1; have LX0 := Aside0.mk hlx0; have LX1 := Aside0.mk hlx1
       clear hix0 hix1 hlx0 hlx1
       have ti0 := eq_true hi0
       have ti1 := eq_true hi1
       have td1 := decide_eq_true hi1
       go_upto_region 12 with (first | ((with_reducible refine gate_callee (f := 63) rfl ?_); refine gL_ (some 52) Try.func63 #[.agg #[.slice Ax0 (rd_T25 s'.L x7).f0.length cx0, .slice Ax1 (rd_T25 s'.L x7).f1.length cx1], .int .u8 84] rfl qa_ ?_; (with_reducible refine (Z10.calls k1 _ _ (rd_T25 s'.L x7).f0 _ _ (rd_T25 s'.L x7).f1 84 x1 x2 _ X0.out LX0.out X1.out LX1.out AX.out).mono ?_); rintro e w13 ⟨v0, v1, rfl, ho0, ho1, hb⟩; refine ⟨_, rfl, ?_⟩; replace HH := Aside0.mk (HH.out.below hb); replace BL := bb_ BL hb; replace HB := b1_ hb; clear hb; obtain ⟨Al0, cl0, el0⟩ := Kd.R_slice ho0; subst el0; obtain ⟨Al1, cl1, el1⟩ := Kd.R_slice ho1; subst el1; have LT0 := Aside0.mk (Kd.R_reads' ho0).2; have LT1 := Aside0.mk (Kd.R_reads' ho1).2; clear ho0 ho1) | ((with_reducible refine gate_callee (f := 28) rfl ?_); refine gL_ (some 53) Try.func28 #[.agg #[.slice Al0 x1.length cl0, .slice Al1 x2.length cl1]] rfl qa_ ?_; (with_reducible refine (Z54.calls k1 _ _ x1 _ _ x2 y1' y2' yb _ LT0.out.2 LT0.out.1 LT1.out.2 LT1.out.1 AY.out).mono ?_); rintro e w14 ⟨v0, v1, rfl, ho0, ho1, hb⟩; refine ⟨_, rfl, ?_⟩; have ZC := Aside0.mk (below_size hB_ : w.heap.size ≤ w13.heap.size); have ZD := Aside0.mk hb.size; have SL13 := Aside0.mk (Kd.S_below (Kd.S_mono (ok' := fun k_ => col' k_ = 0 ∧ k_ < w13.heap.size) (Kd.S_bound HH.out.hL) (fun k_ hk_ => ⟨hk_.1, hk_.2.2.1⟩)) hb); replace HH := Aside0.mk ((HH.out.recol (col' := rcl w13.heap.size col' 0) (fun k hk => rcl_old hk)).below hb); replace HC := Aside0.mk ((rcl_old (blk_lt BL.out)).trans HC.out : rcl w13.heap.size col' 0 gl = 8); replace BL := bb_ BL hb; replace HB := b1_ hb; clear hb; obtain ⟨Ay0, cy0, ey0⟩ := Kd.R_slice ho0; subst ey0; obtain ⟨Ay1, cy1, ey1⟩ := Kd.R_slice ho1; subst ey1; have Y0 := Aside0.mk ho0; have Y1 := Aside0.mk ho1; clear ho0 ho1) | ((with_reducible refine gate_dst (N := 10) rfl ?_); refine bx_ 10 #[.slice none 0 0, .slice none 0 0] 25 ?_; intro gx hg w15 hbox hb; have GX := Aside0.mk (show w14.heap.size ≤ gx from Nat.le_of_eq hg.symm); have BX := Aside0.mk hbox; have B3 := Aside0.mk hb; clear hb hbox hg; obtain ⟨hcf0, hcf1, hff0, hff1⟩ := c2_ BX))
       obtain ⟨hbox, hkp, hB2⟩ := box_store (w0 := w14) BX.out (.slice Ay0 y1'.length cy0) (.slice Ay1 y2'.length cy1) B3.out GX.out
       generalize hw : ((w15.setCell ⟨gx, 0, none⟩ (.slice Ay0 y1'.length cy0)).setCell ⟨gx, 1, none⟩ (.slice Ay1 y2'.length cy1)) = w16 at hbox hkp hB2 ⊢
       clear hw hcf0 hcf1 hff0 hff1 hcl0 hcl1 hfl0 hfl1 hco0 hfo0 hx0 hx1 X0 X1 LX0 LX1 LT0 LT1
       have NE := Aside0.mk (show NeRow (.slice Ay0 y1'.length cy0) (.slice Ay1 y2'.length cy1) from fun k_ e1_ e2_ => (Y0.out.1 k_ e1_) e2_.symm)
       replace HH := Aside0.mk (HH.out.below hB2)
       replace BL := Aside0.mk (blk_below BL.out hB2)
       replace Y0 := Aside0.mk (Kd.R_below (Kd.R_bound Y0.out) hB2)
       replace Y1 := Aside0.mk (Kd.R_below (Kd.R_bound Y1.out) hB2)
       replace SL13 := Aside0.mk (Kd.S_below SL13.out hB2)
       replace HB := Aside0.mk (below_step HB.out hB2)
       replace BX := Aside0.mk (show w16.heap[gx]? = some (.cells #[.slice Ay0 y1'.length cy0, .slice Ay1 y2'.length cy1] 25 (0, 0)) from hbox)
       have ZE := Aside0.mk hB2.size
       clear hbox hkp hB2 B3
       obtain ⟨hcx0, hcx1, hfx0, hfx1⟩ := c2_ BX
       have hLr := (Kd.S_reads' HH.out.hL).2
       have RL := Aside0.mk hLr
       clear hLr
       go_upto_region 13 with (first | ((with_reducible refine gate_callee (f := 72) rfl ?_); refine gL_ (some 58) Try.func72 #[.pointer (some ⟨gO, 0, none⟩), .agg #[.slice Ay0 y1'.length cy0, .slice Ay1 y2'.length cy1]] rfl qa_ ?_; (with_reducible refine (index_calls k1 gO _ _ s'.L _ _ _ _ _ _ y1' _ _ y2' j _ RL.out.2 RL.out.1 (Kd.R_reads' Y0.out).2.2 (Kd.R_reads' Y0.out).2.1 (Kd.R_reads' Y1.out).2.2 (Kd.R_reads' Y1.out).2.1 HH.out.hO AJ.out).mono ?_); rintro e w17 ⟨rfl, hb⟩; refine ⟨_, rfl, ?_⟩; have ZF := Aside0.mk hb.size; replace HH := Aside0.mk (HH.out.below hb); replace BL := bb_ BL hb; replace BX := bb_ BX hb; replace Y0 := Aside0.mk (Kd.R_below Y0.out hb); replace Y1 := Aside0.mk (Kd.R_below Y1.out hb); replace SL13 := Aside0.mk (Kd.S_below SL13.out hb); replace HB := b1_ hb; clear hb))
       clear hcx0 hcx1 hfx0 hfx1 RL
       have ZW := Aside0.mk (show w13.heap.size ≤ w17.heap.size from Nat.le_trans ZD.out (Nat.le_trans ZE.out ZF.out))
       clear ZD ZE ZF
       by_cases hj0 : j < 0
       ·have H := HS.out
        clear HS
        rw [if_pos hj0] at H
        have hjb := decide_eq_true hj0
        have hco0 : w17.cell? ⟨gO, 0, none⟩ = some (.slice (some adx) s'.L.length cL') := (blk_cell HH.out.hO 0).trans rfl
        have hfo0 := blk_frozen HH.out.hO 0
        by_cases hq5 : (s'.L.length : Int) = 120
        ·rw [if_pos hq5] at H
         obtain rfl := Option.some.inj H
         clear H
         have hzn : z = none := (Option.some.inj HT.out).symm
         subst hzn
         have hRn : R = none := (Option.some.inj HR.out).symm
         subst hRn
         have e5b : ((s'.L.length : Int) == 120) = true := beq_iff_eq.mpr hq5
         clear hq5
         go_wp2
         go_ret2
         exact ⟨qb_, hB_⟩
        ·rw [if_neg hq5] at H
         have e5b : ((s'.L.length : Int) == 120) = false := beq_eq_false_iff_ne.mpr hq5
         clear hq5
         have hlen := cp_ H
         replace H := ca_ H
         have hiW := cp_ H
         replace H := ca_ H
         have hsz := cp_ H
         replace H := Option.some.inj (ca_ H)
         subst H
         rw [if_pos rfl, if_pos rfl] at HT
         have LN := Aside0.mk hlen
         have LS := Aside0.mk hsz
         clear hlen hsz
         go_upto_region 17 with (fail)
         clear hco0 hfo0 e5b
         replace HH := Aside0.mk (HH.out.below (below_drew1 (Below.refl _ _)))
         replace BL := Aside0.mk (blk_drew BL.out)
         replace BX := Aside0.mk (blk_drew BX.out)
         replace HB := Aside0.mk (below_drew1 HB.out)
         replace Y0 := Aside0.mk (Kd.R_bound (Kd.R_drew Y0.out))
         replace Y1 := Aside0.mk (Kd.R_bound (Kd.R_drew Y1.out))
         replace SL13 := Aside0.mk (Kd.S_drew SL13.out)
         replace ZW := Aside0.mk (show w13.heap.size ≤ w17.drew.heap.size from ZW.out)
         refine start_ (n := 11) (S := fun w' => w'.cell? ⟨gO, 0, none⟩ = some (.slice (some adx) s'.L.length cL') ∧ w'.cell? ⟨gx, 0, none⟩ = some (.slice Ay0 y1'.length cy0) ∧ w'.cell? ⟨gx, 1, none⟩ = some (.slice Ay1 y2'.length cy1)) (ds := [7, 10]) (bl_ 11 0) (by kernel_rfl) rfl (by kernel_rfl) ⟨(blk_cell HH.out.hO 0).trans rfl, (blk_cell BX.out 0).trans rfl, (blk_cell BX.out 1).trans rfl⟩ (fun hHeld => ?_)
         refine with_tabW orb_tab17 orb_bits17 (fun HT_ HW_ => ?_)
         generalize w17.drew = wa at HH BL BX HB Y0 Y1 SL13 ZW hHeld ⊢
         refine pu_ 0 (some 68) (bl_ 11 1) HT_ ?_
         refine pu_ 1 (some 69) (bl_ 11 3) HT_ ?_
         refine pu_ 2 (some 70) (bl_ 11 7) HT_ ?_
         refine pu_ 3 (some 71) (bl_ 11 15) HT_ ?_
         refine ta_ 4 (some 72) (bl_ 11 31) HT_ HW_ hHeld ?_
         refine ta_ 5 (some 73) (bl_ 11 63) HT_ HW_ hHeld ?_
         refine on_ 6 (some 74) (bl_ 11 127) HT_ (fun K hK => ?_)
         refine value_ (w1 := ?_) (v := ?_) (by rfl) rfl ?_ ?_
         rotate_left 2
         ·go_simp
          constructor
          ·rfl
          ·rfl
         refine hK.out _ _ ⟨((below_alloc (Below.refl _ _) _).cell (World.block_lt_of_cell? _ _ hHeld.1)).trans hHeld.1, ((below_alloc (Below.refl _ _) _).cell (World.block_lt_of_cell? _ _ hHeld.2.1)).trans hHeld.2.1, ((below_alloc (Below.refl _ _) _).cell (World.block_lt_of_cell? _ _ hHeld.2.2)).trans hHeld.2.2⟩ (fun hHeld => ?_)
         clear hK K
         refine no_ (some 74) ?_
         refine last_ (i := 7) (N := some 75) (bl_ 11 255) rfl rfl (one_of HT_.out (by kernel_rfl)) (by decide) (fun K hK => ?_)
         refine Kd.S_append_step k25 (w0 := w) w.heap.size (by rfl) (.tmp 72) (.tmp 74) 36 25 (.agg #[(.slice none 0 0), (.slice none 0 0)]) 48 rfl Try.underlying36 info25 rfl (by decide) (by omega) (.slice (some adx) s'.L.length cL') s'.L (⟨y1', y2'⟩ : S25) [.slice Ay0 y1'.length cy0, .slice Ay1 y2'.length cy1] (fun k_ => rcl wa.heap.size (rcl w13.heap.size col' 0) 0 k_ = 0) (fun k_ => w13.heap.size ≤ k_ ∧ k_ < wa.heap.size) rfl rfl ?aP ?aQ (fun k_ hk => rcl_new hk) ?aO HB.out HB.out.size (by have := LN.out; omega) ?_
         case aP => exact k25_mkM _ _ _ (⟨y1', y2'⟩ : S25) (Kd.R_mono (Kd.R_lower Y0.out ZC.out) (fun k_ hk => ⟨hk.2.1, hk.2.2.1⟩)) (Kd.R_mono (Kd.R_lower Y1.out ZC.out) (fun k_ hk => ⟨hk.2.1, hk.2.2.1⟩)) NE.out
         case aQ => exact fun k_ hk => ⟨(rcl_old hk.2).trans (rcl_new hk.1), fun e => by have := ((Kd.S_R SL13.out).1 k_ e.symm).2; have := hk.1; omega⟩
         case aO => exact Kd.S_mono SL13.out (fun k_ hk => ⟨(rcl_old (Nat.lt_of_lt_of_le hk.2 ZW.out)).trans ((rcl_old hk.2).trans hk.1), fun h_ => by have := hk.2; have := h_.1; omega⟩)
         intro v1 wb ho hb hg hat
         obtain ⟨An1, cn1, en1⟩ := Kd.S_slice ho
         subst en1
         have HO19 := (B_gr HH.out.hO HH.out.cO hg (Kd.S_R HH.out.hL).1 (by decide)).1
         have HC3 := Aside0.mk (B_gr BL.out HC.out hg (Kd.S_R HH.out.hL).1 (by decide))
         have HP := HH.out.putL hg ho
         have HB2 := Aside0.mk hb
         refine hK.out _ _ ?_
         clear hK K ho hb hg hat SL13 Y0 Y1 BX NE GX
         refine no_ (some 75) ?_
         refine pu_ 8 (some 76) (bl_ 11 511) HT_ ?_
         refine pu_ 9 (some 77) (bl_ 11 1023) HT_ ?_
         refine last_ (i := 10) (N := none) (bl_ 11 2047) rfl rfl (one_of HT_.out (by kernel_rfl)) (by decide) (fun K hK => ?_)
         have hs19 : wb.cell? ⟨gO, 0, none⟩ = some (.slice (some adx) s'.L.length cL') := (blk_cell HO19 0).trans rfl
         have hf19 := blk_frozen HO19 0
         refine skip_ (w1 := wb.setCell ⟨gO, 0, none⟩ (.slice An1 (s'.L ++ [(⟨y1', y2'⟩ : S25)]).length cn1)) (by rfl) rfl ?_ ?_
         ·go_simp
         refine hK.out _ _ ?_
         clear hK K hs19 hf19
         refine done_ (done_of HT_.out (by kernel_rfl)) ?_
         have hne_ : gl ≠ gO := fun e => by have a1 := HC3.out.2; have a2 := HP.cO; rw [e] at a1; omega
         have HB3 := Aside0.mk (below_set (g := gO) (j := 0) (v := (.slice An1 (s'.L ++ [(⟨y1', y2'⟩ : S25)]).length cn1)) HB2.out HP.bO)
         have BL2 := Aside0.mk (put_far HC3.out.1 hne_ 0 (.slice An1 (s'.L ++ [(⟨y1', y2'⟩ : S25)]).length cn1))
         have HCN := HC3.out.2
         clear HH BL HB HC HC3 HB2 HO19
         generalize hwc : wb.setCell ⟨gO, 0, none⟩ (.slice An1 (s'.L ++ [(⟨y1', y2'⟩ : S25)]).length cn1) = wc at HP HB3 BL2 ⊢
         clear hwc
         obtain ⟨colwc, hh_, hc_⟩ : ∃ c_, OrbH w.heap.size c_ wc gO gM n' _ _ _ _ _ _ _ ∧ c_ gl = 8 := ⟨_, HP, HCN⟩
         have HH := Aside0.mk hh_; have HC := Aside0.mk hc_; have BL := BL2; have HB := HB3
         clear hh_ hc_ BL2 HB3 HP HCN hne_
         obtain ⟨AW, cW, eW⟩ := Kd.R_slice HH.out.hW
         subst eW
         go_upto_region 18 with (fail)
         replace HH := Aside0.mk (HH.out.below (below_drew1 (Below.refl _ _)))
         replace BL := Aside0.mk (blk_drew BL.out)
         replace HB := Aside0.mk (below_drew1 HB.out)
         obtain ⟨adw, ew, hxw⟩ := Kd.at_string (Kd.R_reads' HH.out.hW).2.2 x7 hi0 hiW
         cases ew
         have tw1 := eq_true hiW
         have tw2 := decide_eq_true hiW
         refine start_ (n := 21) (S := fun w' => w'.cell? ⟨gO, 1, none⟩ = some (.slice (some adw) s'.W.length cW) ∧ w'.cell? (adw.add (x7).toNat) = some (.string (rdOf ByteArray.empty s'.W x7))) (ds := [17, 20]) (bl_ 21 0) (by kernel_rfl) rfl (by kernel_rfl) ⟨(blk_cell HH.out.hO 1).trans rfl, hxw⟩ (fun hHeld => ?_)
         refine with_tabW orb_tab18 orb_bits18 (fun HT_ HW_ => ?_)
         clear hxw
         generalize wc.drew = wd at HH BL HB hHeld ⊢
         refine pu_ 0 (some 78) (bl_ 21 1) HT_ ?_
         refine pu_ 1 (some 79) (bl_ 21 3) HT_ ?_
         refine pu_ 2 (some 80) (bl_ 21 7) HT_ ?_
         refine pu_ 3 (some 81) (bl_ 21 15) HT_ ?_
         refine ta_ 4 (some 82) (bl_ 21 31) HT_ HW_ hHeld ?_
         refine pu_ 5 (some 83) (bl_ 21 63) HT_ ?_
         refine pu_ 6 (some 84) (bl_ 21 127) HT_ ?_
         refine pu_ 7 (some 85) (bl_ 21 255) HT_ ?_
         refine ta_ 8 (some 86) (bl_ 21 511) HT_ HW_ hHeld ?_
         refine pu_ 9 (some 87) (bl_ 21 1023) HT_ ?_
         refine pu_ 10 (some 88) (bl_ 21 2047) HT_ ?_
         refine ta_ 11 (some 89) (bl_ 21 4095) HT_ HW_ hHeld ?_
         refine pu_ 12 (some 90) (bl_ 21 8191) HT_ ?_
         refine on_ 13 (some 91) (bl_ 21 16383) HT_ (fun K hK => ?_)
         refine Kd.R_lit_step (Kd.int .u8) _ 5 ?hg (N := 91) ?hd (xs := ([84] : List Int)) (inner := [.int .u8 84]) (ok := fun _ => True) (okp := fun _ => True) ?hr ?hp (fun _ hk => hk) trivial (Below.refl _ _) (Nat.le_refl _) (by simp) ?_; (case hd => rfl); (case hg => rfl); (case hr => first | (go_simp; done) | (go_simp; rfl)); (case hp => exact (Reps.one (show Kd.M (Kd.int .u8) _ _ _ 84 [.int .u8 84] from rfl) (Reps.none _ _)))
         intro vq we hoq hb hg_ hnew_
         have hS1_ := (hb.cell (World.block_lt_of_cell? _ _ hHeld.1)).trans hHeld.1
         have hS2_ := (hb.cell (World.block_lt_of_cell? _ _ hHeld.2)).trans hHeld.2
         replace HH := Aside0.mk (HH.out.below hb)
         replace BL := bb_ BL hb
         replace HB := b1_ hb
         have HOq := Aside0.mk hoq
         clear hg_ hnew_ hb hoq
         refine hK.out _ _ ⟨hS1_, hS2_⟩ (fun hHeld => ?_)
         clear hK K hS1_ hS2_
         refine no_ (some 91) ?_
         refine on_ 14 (some 92) (bl_ 21 32767) HT_ (fun K hK => ?_)
         have hcv47 := own_string (P := Try.prog) Try.underlying22 Try.underlying5 Try.underlying9 (Kd.own_of_R HOq.out)
         refine value_ (w1 := ?_) (v := ?_) (by rfl) rfl ?_ ?_
         rotate_left 2
         ·go_simp
          constructor
          ·rfl
          ·rfl
         clear hcv47 HOq
         refine hK.out _ _ hHeld (fun hHeld => ?_)
         clear hK K
         refine no_ (some 92) ?_
         have hs1_ : (strOfNums [(84 : Int)]).size = 1 := by decide +kernel
         have tw3 : (9223372036854775807 < (rdOf ByteArray.empty s'.W x7).size + (strOfNums [(84 : Int)]).size) = False := eq_false (by rw [hs1_]; have := LS.out; omega)
         clear hs1_
         refine pu_ 15 (some 93) (bl_ 21 65535) HT_ ?_
         clear tw3
         refine on_ 16 (some 94) (bl_ 21 131071) HT_ (fun K hK => ?_)
         refine value_ (w1 := ?_) (v := ?_) (by rfl) rfl ?_ ?_
         rotate_left 2
         ·go_simp
          constructor
          ·rfl
          ·rfl
         refine hK.out _ _ ⟨((below_alloc (Below.refl _ _) _).cell (World.block_lt_of_cell? _ _ hHeld.1)).trans hHeld.1, ((below_alloc (Below.refl _ _) _).cell (World.block_lt_of_cell? _ _ hHeld.2)).trans hHeld.2⟩ (fun hHeld => ?_)
         clear hK K
         refine no_ (some 94) ?_
         refine last_ (i := 17) (N := some 95) (bl_ 21 262143) rfl rfl (one_of HT_.out (by kernel_rfl)) (by decide) (fun K hK => ?_)
         refine Kd.R_append_step Kd.string (w0 := w) w.heap.size (by rfl) (.tmp 82) (.tmp 94) 53 9 (.string ⟨#[]⟩) 16 rfl Try.underlying53 info9 rfl (by decide) (by omega) (.slice (some adw) s'.W.length cW) s'.W ((rdOf ByteArray.empty s'.W x7) ++ (strOfNums [84])) [.string ((rdOf ByteArray.empty s'.W x7) ++ (strOfNums [84]))] (fun k_ => rcl we.heap.size colwc 1 k_ = 1) (fun _ => False) rfl rfl rfl (fun _ hk => hk.elim) (fun k_ hk => rcl_new hk) (R_col HH.out.hW (fun k_ hk => rcl_old hk)) HB.out HB.out.size (by have := LN.out; omega) ?_
         intro v2 wf ho hb hg hat
         obtain ⟨An2, cn2, en2⟩ := Kd.R_slice ho
         subst en2
         have HO19 := (B_gr HH.out.hO HH.out.cO hg HH.out.hW.1 (by decide)).1
         have HC3 := Aside0.mk (B_gr BL.out HC.out hg HH.out.hW.1 (by decide))
         have HP := HH.out.putW hg ho
         have HB2 := Aside0.mk hb
         refine hK.out _ _ ?_
         clear hK K ho hb hg hat
         refine no_ (some 95) ?_
         refine pu_ 18 (some 96) (bl_ 21 524287) HT_ ?_
         refine pu_ 19 (some 97) (bl_ 21 1048575) HT_ ?_
         refine last_ (i := 20) (N := none) (bl_ 21 2097151) rfl rfl (one_of HT_.out (by kernel_rfl)) (by decide) (fun K hK => ?_)
         have hs19 : wf.cell? ⟨gO, 1, none⟩ = some (.slice (some adw) s'.W.length cW) := (blk_cell HO19 1).trans rfl
         have hf19 := blk_frozen HO19 1
         refine skip_ (w1 := wf.setCell ⟨gO, 1, none⟩ (.slice An2 (s'.W ++ [(rdOf ByteArray.empty s'.W x7) ++ (strOfNums [84])]).length cn2)) (by rfl) rfl ?_ ?_
         ·go_simp
         refine hK.out _ _ ?_
         clear hK K hs19 hf19
         refine done_ (done_of HT_.out (by kernel_rfl)) ?_
         have hne_ : gl ≠ gO := fun e => by have a1 := HC3.out.2; have a2 := HP.cO; rw [e] at a1; omega
         have HB3 := Aside0.mk (below_set (g := gO) (j := 1) (v := (.slice An2 (s'.W ++ [(rdOf ByteArray.empty s'.W x7) ++ (strOfNums [84])]).length cn2)) HB2.out HP.bO)
         have BL2 := Aside0.mk (put_far HC3.out.1 hne_ 1 (.slice An2 (s'.W ++ [(rdOf ByteArray.empty s'.W x7) ++ (strOfNums [84])]).length cn2))
         have HCN := HC3.out.2
         clear HH BL HB HC HC3 HB2 HO19
         generalize hwc : wf.setCell ⟨gO, 1, none⟩ (.slice An2 (s'.W ++ [(rdOf ByteArray.empty s'.W x7) ++ (strOfNums [84])]).length cn2) = wg at HP HB3 BL2 ⊢
         clear hwc
         obtain ⟨colwg, hh_, hc_⟩ : ∃ c_, OrbH w.heap.size c_ wg gO gM n' _ _ _ _ _ _ _ ∧ c_ gl = 8 := ⟨_, HP, HCN⟩
         have HH := Aside0.mk hh_; have HC := Aside0.mk hc_; have BL := BL2; have HB := HB3
         clear hh_ hc_ BL2 HB3 HP HCN hne_
         obtain ⟨AF, cF, eF⟩ := Kd.R_slice HH.out.hF
         subst eF
         go_upto_region 19 with (fail)
         have hco_ : wg.cell? ⟨gO, 2, none⟩ = some (.slice AF s'.F.length cF) := (blk_cell HH.out.hO 2).trans rfl
         have hfo_ := blk_frozen HH.out.hO 2
         go_upto_region 20 with (first | ((with_reducible refine gate_builtin (b := .append) (xs := #[.tmp 102, .tmp 104]) rfl ?_); at_builtin; refine Kd.R_append (Kd.int .i64) (w0 := w) w.heap.size rfl (.tmp 102) (.tmp 104) 23 3 (.int .i64 0) 8 rfl Try.underlying23 info3 rfl (by decide) (by omega) (.slice AF s'.F.length cF) s'.F (x7) [.int .i64 (x7)] (fun k_ => rcl wg.heap.size colwg 2 k_ = 2) (fun _ => False) rfl rfl rfl (fun _ hk => hk.elim) (fun k_ hk => rcl_new hk) (R_col HH.out.hF (fun k_ hk => rcl_old hk)) HB.out HB.out.size (by have := LN.out; omega) ?_; intro v3 wh ho hb hg hat; obtain ⟨Anv3, cnv3, env3⟩ := Kd.R_slice ho; subst env3; rw [List.length_append, List.length_singleton] at ho; have HO19 := (B_gr HH.out.hO HH.out.cO hg HH.out.hF.1 (by decide)).1; have HC3 := Aside0.mk (B_gr BL.out HC.out hg HH.out.hF.1 (by decide)); have HP := HH.out.putF hg ho; have HB2 := Aside0.mk hb; clear ho hb hg hat hco_ hfo_; have hs19 : wh.cell? ⟨gO, 2, none⟩ = some (.slice AF s'.F.length cF) := (blk_cell HO19 2).trans rfl; have hf19 := blk_frozen HO19 2))
         clear hs19 hf19
         have hne_ : gl ≠ gO := fun e => by have a1 := HC3.out.2; have a2 := HP.cO; rw [e] at a1; omega
         have HB3 := Aside0.mk (below_set (g := gO) (j := 2) (v := (.slice Anv3 (s'.F.length + 1) cnv3)) HB2.out HP.bO)
         have BL2 := Aside0.mk (put_far HC3.out.1 hne_ 2 (.slice Anv3 (s'.F.length + 1) cnv3))
         have HCN := HC3.out.2
         clear HH BL HB HC HC3 HB2 HO19
         generalize hwc : wh.setCell ⟨gO, 2, none⟩ (.slice Anv3 (s'.F.length + 1) cnv3) = wi at HP HB3 BL2 ⊢
         clear hwc
         obtain ⟨colwi, hh_, hc_⟩ : ∃ c_, OrbH w.heap.size c_ wi gO gM n' _ _ _ _ _ _ _ ∧ c_ gl = 8 := ⟨_, HP, HCN⟩
         have HH := Aside0.mk hh_; have HC := Aside0.mk hc_; have BL := BL2; have HB := HB3
         clear hh_ hc_ BL2 HB3 HP HCN hne_
         obtain ⟨AB, cB, eB⟩ := Kd.R_slice HH.out.hB
         subst eB
         have hco_ : wi.cell? ⟨gO, 3, none⟩ = some (.slice AB s'.B.length cB) := (blk_cell HH.out.hO 3).trans rfl
         have hfo_ := blk_frozen HH.out.hO 3
         go_upto_region 21 with (first | ((with_reducible refine gate_builtin (b := .append) (xs := #[.tmp 112, .tmp 114]) rfl ?_); at_builtin; refine Kd.R_append (Kd.int .u8) (w0 := w) w.heap.size rfl (.tmp 112) (.tmp 114) 22 5 (.int .u8 0) 1 rfl Try.underlying22 info5 rfl (by decide) (by omega) (.slice AB s'.B.length cB) s'.B (84) [.int .u8 (84)] (fun k_ => rcl wi.heap.size colwi 3 k_ = 3) (fun _ => False) rfl rfl rfl (fun _ hk => hk.elim) (fun k_ hk => rcl_new hk) (R_col HH.out.hB (fun k_ hk => rcl_old hk)) HB.out HB.out.size (by have := LN.out; omega) ?_; intro v4 wj ho hb hg hat; obtain ⟨Anv4, cnv4, env4⟩ := Kd.R_slice ho; subst env4; rw [List.length_append, List.length_singleton] at ho; have HO19 := (B_gr HH.out.hO HH.out.cO hg HH.out.hB.1 (by decide)).1; have HC3 := Aside0.mk (B_gr BL.out HC.out hg HH.out.hB.1 (by decide)); have HP := HH.out.putB hg ho; have HB2 := Aside0.mk hb; clear ho hb hg hat hco_ hfo_; have hs19 : wj.cell? ⟨gO, 3, none⟩ = some (.slice AB s'.B.length cB) := (blk_cell HO19 3).trans rfl; have hf19 := blk_frozen HO19 3))
         clear hs19 hf19
         have hne_ : gl ≠ gO := fun e => by have a1 := HC3.out.2; have a2 := HP.cO; rw [e] at a1; omega
         have HB3 := Aside0.mk (below_set (g := gO) (j := 3) (v := (.slice Anv4 (s'.B.length + 1) cnv4)) HB2.out HP.bO)
         have BL2 := Aside0.mk (put_far HC3.out.1 hne_ 3 (.slice Anv4 (s'.B.length + 1) cnv4))
         have HCN := HC3.out.2
         clear HH BL HB HC HC3 HB2 HO19
         generalize hwc : wj.setCell ⟨gO, 3, none⟩ (.slice Anv4 (s'.B.length + 1) cnv4) = wk at HP HB3 BL2 ⊢
         clear hwc
         obtain ⟨colwk, hh_, hc_⟩ : ∃ c_, OrbH w.heap.size c_ wk gO gM n' _ _ _ _ _ _ _ ∧ c_ gl = 8 := ⟨_, HP, HCN⟩
         have HH := Aside0.mk hh_; have HC := Aside0.mk hc_; have BL := BL2; have HB := HB3
         clear hh_ hc_ BL2 HB3 HP HCN hne_
         generalize hcc : colwk = colc at HH HC
         clear hcc
         go_upto_region 21 with (fail)
         replace HH := Aside0.mk (HH.out.below (below_drew1 (Below.refl _ _)))
         replace BL := Aside0.mk (blk_drew BL.out)
         replace HB := Aside0.mk (below_drew1 HB.out)
         refine start_ (n := 15) (S := fun w' => w'.cell? ⟨gO, 4, none⟩ = some (.map (some gM)) ∧ w'.heap[gM]? = some (mapO n' vT' vS')) (ds := [14]) (bl_ 15 0) (by kernel_rfl) rfl (by kernel_rfl) ⟨(blk_cell HH.out.hO 4).trans rfl, HH.out.hM⟩ (fun hHeld => ?_)
         refine with_tabW orb_tab21 orb_bits21 (fun HT_ HW_ => ?_)
         generalize wk.drew = wl at HH BL HB hHeld ⊢
         refine pu_ 0 (some 118) (bl_ 15 1) HT_ ?_
         refine pu_ 1 (some 119) (bl_ 15 3) HT_ ?_
         refine pu_ 2 (some 120) (bl_ 15 7) HT_ ?_
         refine ta_ 3 (some 121) (bl_ 15 15) HT_ HW_ hHeld ?_
         refine pu_ 4 (some 122) (bl_ 15 31) HT_ ?_
         refine pu_ 5 (some 123) (bl_ 15 63) HT_ ?_
         refine pu_ 6 (some 124) (bl_ 15 127) HT_ ?_
         refine pu_ 7 (some 125) (bl_ 15 255) HT_ ?_
         refine ta_ 8 (some 126) (bl_ 15 511) HT_ HW_ hHeld ?_
         refine pu_ 9 (some 127) (bl_ 15 1023) HT_ ?_
         have hlk : ∀ w', w'.heap[gM]? = some (mapO n' vT' vS') → (Instr.lookup 67 (.map (some gM)) (.int .u8 84) false).run Try.prog w' = .ok vT' w' := fun w' h_ => by
          have hn := hn0.out
          have := look_T h_ (by omega)
          rw [HH.out.look.1] at this
          exact this
         refine ta_ 10 (some 128) (v := vT') (bl_ 15 2047) HT_ HW_ hHeld ?_ (hy := Or.inl ⟨by rfl, fun w' hs_ => ?_⟩)
         rotate_left
         ·have hq := hlk w' hs_.2
          go_simp
         clear hlk
         refine pu_ 11 (some 129) (bl_ 15 4095) HT_ ?_
         refine on_ 12 (some 130) (bl_ 15 8191) HT_ (fun K hK => ?_)
         refine value_ (w1 := ?_) (v := ?_) (by rfl) rfl ?_ ?_
         rotate_left 2
         ·go_simp
          constructor
          ·rfl
          ·rfl
         refine hK.out _ _ ⟨((below_alloc (Below.refl _ _) _).cell (World.block_lt_of_cell? _ _ hHeld.1)).trans hHeld.1, blk_alloc hHeld.2 _⟩ (fun hHeld => ?_)
         clear hK K
         refine no_ (some 130) ?_
         refine on_ 13 (some 131) (bl_ 15 16383) HT_ (fun K hK => ?_)
         refine Kd.R_append_step (Kd.int .i64) (w0 := w) w.heap.size (by rfl) (.tmp 128) (.tmp 130) 23 3 (.int .i64 0) 8 rfl Try.underlying23 info3 rfl (by decide) (by omega) vT' s'.T ((s'.L.length : Int)) [.int .i64 ((s'.L.length : Int))] (fun k_ => rcl wl.heap.size colc 4 k_ = 4) (fun _ => False) rfl rfl rfl (fun _ hk => hk.elim) (fun k_ hk => rcl_new hk) (R_col HH.out.hT (fun k_ hk => rcl_old hk)) HB.out HB.out.size (by have := LN.out; omega) ?_
         intro v1 wlb ho hb hg hat
         have HP := HH.out.putT hg ho
         have HM := Aside0.mk HP.1
         have HO19 := (B_gr HH.out.hO HH.out.cO hg HH.out.hT.1 (by decide)).1
         have HC3 := Aside0.mk (B_gr BL.out HC.out hg HH.out.hT.1 (by decide))
         replace HH := Aside0.mk HP.2
         clear HP
         have HB2 := Aside0.mk hb
         refine hK.out _ _ ⟨(blk_cell HO19 4).trans rfl, HM.out⟩ (fun hHeld => ?_)
         clear hK K ho hb hg hat HO19
         refine no_ (some 131) ?_
         refine last_ (i := 14) (N := none) (bl_ 15 32767) rfl rfl (one_of HT_.out (by kernel_rfl)) (by decide) (fun K hK => ?_)
         have hput : (Instr.mapUpdate 67 (.map (some gM)) (.int .u8 84) v1).run Try.prog wlb = .ok () (setMap wlb gM (max n' 1) v1 vS') := put_T HM.out hn0.out v1
         refine skip_ (w1 := setMap wlb gM (max n' 1) v1 vS') (by rfl) rfl ?_ ?_
         ·go_simp
         refine hK.out _ _ ?_
         clear hK K hput
         refine done_ (done_of HT_.out (by kernel_rfl)) ?_
         try go_wp2
         have hgm : gl ≠ gM := fun e => by have a1 := HC3.out.2; have a2 := HH.out.cM; rw [e] at a1; omega
         have BL2 := Aside0.mk ((setMap_far (n := max n' 1) v1 vS' hgm).trans HC3.out.1)
         have HB3 := Aside0.mk (setMap_below (n := max n' 1) v1 vS' HB2.out HH.out.bM)
         go_roundg 1
         case measure => have := HG.out; omega
         case rel => exact ⟨1, max n' 1, _, _, _, _, _, _, _, _, (by first | rfl | (simp; done) | (simp [*]; done)), ⟨by omega⟩, ⟨by omega⟩, HT, ⟨⟨fun e => absurd e (by decide), fun _ => by have := hn0.out; omega, fun e => absurd e (by decide)⟩⟩, ⟨HC3.out.2⟩, BL2, HH, HB3⟩
       ·have H := HS.out
        clear HS
        rw [if_neg hj0] at H
        have hjb := decide_eq_false hj0
        have hlen := cp_ H
        replace H := Option.some.inj (ca_ H)
        subst H
        rw [if_pos rfl, if_pos rfl] at HT
        have LN := Aside0.mk hlen
        clear hlen SL13 Y0 Y1 BX NE GX
        generalize hcc : rcl w13.heap.size col' 0 = colc at HH HC
        clear hcc
        go_upto_region 21 with (fail)
        replace HH := Aside0.mk (HH.out.below (below_drew1 (Below.refl _ _)))
        replace BL := Aside0.mk (blk_drew BL.out)
        replace HB := Aside0.mk (below_drew1 HB.out)
        refine start_ (n := 15) (S := fun w' => w'.cell? ⟨gO, 4, none⟩ = some (.map (some gM)) ∧ w'.heap[gM]? = some (mapO n' vT' vS')) (ds := [14]) (bl_ 15 0) (by kernel_rfl) rfl (by kernel_rfl) ⟨(blk_cell HH.out.hO 4).trans rfl, HH.out.hM⟩ (fun hHeld => ?_)
        refine with_tabW orb_tab21 orb_bits21 (fun HT_ HW_ => ?_)
        generalize w17.drew = w18 at HH BL HB hHeld ⊢
        refine pu_ 0 (some 118) (bl_ 15 1) HT_ ?_
        refine pu_ 1 (some 119) (bl_ 15 3) HT_ ?_
        refine pu_ 2 (some 120) (bl_ 15 7) HT_ ?_
        refine ta_ 3 (some 121) (bl_ 15 15) HT_ HW_ hHeld ?_
        refine pu_ 4 (some 122) (bl_ 15 31) HT_ ?_
        refine pu_ 5 (some 123) (bl_ 15 63) HT_ ?_
        refine pu_ 6 (some 124) (bl_ 15 127) HT_ ?_
        refine pu_ 7 (some 125) (bl_ 15 255) HT_ ?_
        refine ta_ 8 (some 126) (bl_ 15 511) HT_ HW_ hHeld ?_
        refine pu_ 9 (some 127) (bl_ 15 1023) HT_ ?_
        have hlk : ∀ w', w'.heap[gM]? = some (mapO n' vT' vS') → (Instr.lookup 67 (.map (some gM)) (.int .u8 84) false).run Try.prog w' = .ok vT' w' := fun w' h_ => by
         have hn := hn0.out
         have := look_T h_ (by omega)
         rw [HH.out.look.1] at this
         exact this
        refine ta_ 10 (some 128) (v := vT') (bl_ 15 2047) HT_ HW_ hHeld ?_ (hy := Or.inl ⟨by rfl, fun w' hs_ => ?_⟩)
        rotate_left
        ·have hq := hlk w' hs_.2
         go_simp
        clear hlk
        refine pu_ 11 (some 129) (bl_ 15 4095) HT_ ?_
        refine on_ 12 (some 130) (bl_ 15 8191) HT_ (fun K hK => ?_)
        refine value_ (w1 := ?_) (v := ?_) (by rfl) rfl ?_ ?_
        rotate_left 2
        ·go_simp
         constructor
         ·rfl
         ·rfl
        refine hK.out _ _ ⟨((below_alloc (Below.refl _ _) _).cell (World.block_lt_of_cell? _ _ hHeld.1)).trans hHeld.1, blk_alloc hHeld.2 _⟩ (fun hHeld => ?_)
        clear hK K
        refine no_ (some 130) ?_
        refine on_ 13 (some 131) (bl_ 15 16383) HT_ (fun K hK => ?_)
        refine Kd.R_append_step (Kd.int .i64) (w0 := w) w.heap.size (by rfl) (.tmp 128) (.tmp 130) 23 3 (.int .i64 0) 8 rfl Try.underlying23 info3 rfl (by decide) (by omega) vT' s'.T (j) [.int .i64 (j)] (fun k_ => rcl w18.heap.size colc 4 k_ = 4) (fun _ => False) rfl rfl rfl (fun _ hk => hk.elim) (fun k_ hk => rcl_new hk) (R_col HH.out.hT (fun k_ hk => rcl_old hk)) HB.out HB.out.size (by have := LN.out; omega) ?_
        intro v1 w18b ho hb hg hat
        have HP := HH.out.putT hg ho
        have HM := Aside0.mk HP.1
        have HO19 := (B_gr HH.out.hO HH.out.cO hg HH.out.hT.1 (by decide)).1
        have HC3 := Aside0.mk (B_gr BL.out HC.out hg HH.out.hT.1 (by decide))
        replace HH := Aside0.mk HP.2
        clear HP
        have HB2 := Aside0.mk hb
        refine hK.out _ _ ⟨(blk_cell HO19 4).trans rfl, HM.out⟩ (fun hHeld => ?_)
        clear hK K ho hb hg hat HO19
        refine no_ (some 131) ?_
        refine last_ (i := 14) (N := none) (bl_ 15 32767) rfl rfl (one_of HT_.out (by kernel_rfl)) (by decide) (fun K hK => ?_)
        have hput : (Instr.mapUpdate 67 (.map (some gM)) (.int .u8 84) v1).run Try.prog w18b = .ok () (setMap w18b gM (max n' 1) v1 vS') := put_T HM.out hn0.out v1
        refine skip_ (w1 := setMap w18b gM (max n' 1) v1 vS') (by rfl) rfl ?_ ?_
        ·go_simp
        refine hK.out _ _ ?_
        clear hK K hput
        refine done_ (done_of HT_.out (by kernel_rfl)) ?_
        try go_wp2
        have hgm : gl ≠ gM := fun e => by have a1 := HC3.out.2; have a2 := HH.out.cM; rw [e] at a1; omega
        have BL2 := Aside0.mk ((setMap_far (n := max n' 1) v1 vS' hgm).trans HC3.out.1)
        have HB3 := Aside0.mk (setMap_below (n := max n' 1) v1 vS' HB2.out HH.out.bM)
        go_roundg 1
        case measure => have := HG.out; omega
        case rel => exact ⟨1, max n' 1, _, _, _, _, _, _, _, _, (by first | rfl | (simp; done) | (simp [*]; done)), ⟨by omega⟩, ⟨by omega⟩, HT, ⟨⟨fun e => absurd e (by decide), fun _ => by have := hn0.out; omega, fun e => absurd e (by decide)⟩⟩, ⟨HC3.out.2⟩, BL2, HH, HB3⟩
      ·skip
       have hn0 := Aside0.mk (HN.out.2.1 rfl)
       have H := AZ.out
       clear AZ
       change innerO k1 x7 (83 :: []) s' = some z at H
       simp only [innerO] at H
       obtain ⟨zz, AS, H⟩ := bi_ H
       have HT := Aside0.mk H
       have H := AS.out
       clear AS
       unfold stpO at H
       have hi0 := cp_ H
       replace H := ca_ H
       have hi1 := cp_ H
       replace H := ca_ H
       obtain ⟨⟨x1, x2⟩, AX, H⟩ := bi_ H
       obtain ⟨⟨y1', y2', yb⟩, AY, H⟩ := bi_ H
       obtain ⟨j, AJ, H⟩ := bi_ H
       dsimp only at H AY AJ
       have HS := Aside0.mk H
       clear H
       obtain ⟨adx, Ax0, cx0, Ax1, cx1, ex, hx0, hx1, hlx0, hix0, hlx1, hix1⟩ := at_T25 (Kd.S_reads' HH.out.hL).2.2 x7 hi0 hi1
       cases ex
       have X0 := Aside0.mk hix0; have X1 := Aside0.mk hix1; have LX0 := Aside0.mk hlx0; have LX1 := Aside0.mk hlx1
       clear hix0 hix1 hlx0 hlx1
       have ti0 := eq_true hi0
       have ti1 := eq_true hi1
       have td1 := decide_eq_true hi1
       go_upto_region 12 with (first | ((with_reducible refine gate_callee (f := 63) rfl ?_); refine gL_ (some 52) Try.func63 #[.agg #[.slice Ax0 (rd_T25 s'.L x7).f0.length cx0, .slice Ax1 (rd_T25 s'.L x7).f1.length cx1], .int .u8 83] rfl qa_ ?_; (with_reducible refine (Z10.calls k1 _ _ (rd_T25 s'.L x7).f0 _ _ (rd_T25 s'.L x7).f1 83 x1 x2 _ X0.out LX0.out X1.out LX1.out AX.out).mono ?_); rintro e w13 ⟨v0, v1, rfl, ho0, ho1, hb⟩; refine ⟨_, rfl, ?_⟩; replace HH := Aside0.mk (HH.out.below hb); replace BL := bb_ BL hb; replace HB := b1_ hb; clear hb; obtain ⟨Al0, cl0, el0⟩ := Kd.R_slice ho0; subst el0; obtain ⟨Al1, cl1, el1⟩ := Kd.R_slice ho1; subst el1; have LT0 := Aside0.mk (Kd.R_reads' ho0).2; have LT1 := Aside0.mk (Kd.R_reads' ho1).2; clear ho0 ho1) | ((with_reducible refine gate_callee (f := 28) rfl ?_); refine gL_ (some 53) Try.func28 #[.agg #[.slice Al0 x1.length cl0, .slice Al1 x2.length cl1]] rfl qa_ ?_; (with_reducible refine (Z54.calls k1 _ _ x1 _ _ x2 y1' y2' yb _ LT0.out.2 LT0.out.1 LT1.out.2 LT1.out.1 AY.out).mono ?_); rintro e w14 ⟨v0, v1, rfl, ho0, ho1, hb⟩; refine ⟨_, rfl, ?_⟩; have ZC := Aside0.mk (below_size hB_ : w.heap.size ≤ w13.heap.size); have ZD := Aside0.mk hb.size; have SL13 := Aside0.mk (Kd.S_below (Kd.S_mono (ok' := fun k_ => col' k_ = 0 ∧ k_ < w13.heap.size) (Kd.S_bound HH.out.hL) (fun k_ hk_ => ⟨hk_.1, hk_.2.2.1⟩)) hb); replace HH := Aside0.mk ((HH.out.recol (col' := rcl w13.heap.size col' 0) (fun k hk => rcl_old hk)).below hb); replace HC := Aside0.mk ((rcl_old (blk_lt BL.out)).trans HC.out : rcl w13.heap.size col' 0 gl = 8); replace BL := bb_ BL hb; replace HB := b1_ hb; clear hb; obtain ⟨Ay0, cy0, ey0⟩ := Kd.R_slice ho0; subst ey0; obtain ⟨Ay1, cy1, ey1⟩ := Kd.R_slice ho1; subst ey1; have Y0 := Aside0.mk ho0; have Y1 := Aside0.mk ho1; clear ho0 ho1) | ((with_reducible refine gate_dst (N := 10) rfl ?_); refine bx_ 10 #[.slice none 0 0, .slice none 0 0] 25 ?_; intro gx hg w15 hbox hb; have GX := Aside0.mk (show w14.heap.size ≤ gx from Nat.le_of_eq hg.symm); have BX := Aside0.mk hbox; have B3 := Aside0.mk hb; clear hb hbox hg; obtain ⟨hcf0, hcf1, hff0, hff1⟩ := c2_ BX))
       obtain ⟨hbox, hkp, hB2⟩ := box_store (w0 := w14) BX.out (.slice Ay0 y1'.length cy0) (.slice Ay1 y2'.length cy1) B3.out GX.out
       generalize hw : ((w15.setCell ⟨gx, 0, none⟩ (.slice Ay0 y1'.length cy0)).setCell ⟨gx, 1, none⟩ (.slice Ay1 y2'.length cy1)) = w16 at hbox hkp hB2 ⊢
       clear hw hcf0 hcf1 hff0 hff1 hcl0 hcl1 hfl0 hfl1 hco0 hfo0 hx0 hx1 X0 X1 LX0 LX1 LT0 LT1
       have NE := Aside0.mk (show NeRow (.slice Ay0 y1'.length cy0) (.slice Ay1 y2'.length cy1) from fun k_ e1_ e2_ => (Y0.out.1 k_ e1_) e2_.symm)
       replace HH := Aside0.mk (HH.out.below hB2)
       replace BL := Aside0.mk (blk_below BL.out hB2)
       replace Y0 := Aside0.mk (Kd.R_below (Kd.R_bound Y0.out) hB2)
       replace Y1 := Aside0.mk (Kd.R_below (Kd.R_bound Y1.out) hB2)
       replace SL13 := Aside0.mk (Kd.S_below SL13.out hB2)
       replace HB := Aside0.mk (below_step HB.out hB2)
       replace BX := Aside0.mk (show w16.heap[gx]? = some (.cells #[.slice Ay0 y1'.length cy0, .slice Ay1 y2'.length cy1] 25 (0, 0)) from hbox)
       have ZE := Aside0.mk hB2.size
       clear hbox hkp hB2 B3
       obtain ⟨hcx0, hcx1, hfx0, hfx1⟩ := c2_ BX
       have hLr := (Kd.S_reads' HH.out.hL).2
       have RL := Aside0.mk hLr
       clear hLr
       go_upto_region 13 with (first | ((with_reducible refine gate_callee (f := 72) rfl ?_); refine gL_ (some 58) Try.func72 #[.pointer (some ⟨gO, 0, none⟩), .agg #[.slice Ay0 y1'.length cy0, .slice Ay1 y2'.length cy1]] rfl qa_ ?_; (with_reducible refine (index_calls k1 gO _ _ s'.L _ _ _ _ _ _ y1' _ _ y2' j _ RL.out.2 RL.out.1 (Kd.R_reads' Y0.out).2.2 (Kd.R_reads' Y0.out).2.1 (Kd.R_reads' Y1.out).2.2 (Kd.R_reads' Y1.out).2.1 HH.out.hO AJ.out).mono ?_); rintro e w17 ⟨rfl, hb⟩; refine ⟨_, rfl, ?_⟩; have ZF := Aside0.mk hb.size; replace HH := Aside0.mk (HH.out.below hb); replace BL := bb_ BL hb; replace BX := bb_ BX hb; replace Y0 := Aside0.mk (Kd.R_below Y0.out hb); replace Y1 := Aside0.mk (Kd.R_below Y1.out hb); replace SL13 := Aside0.mk (Kd.S_below SL13.out hb); replace HB := b1_ hb; clear hb))
       clear hcx0 hcx1 hfx0 hfx1 RL
       have ZW := Aside0.mk (show w13.heap.size ≤ w17.heap.size from Nat.le_trans ZD.out (Nat.le_trans ZE.out ZF.out))
       clear ZD ZE ZF
       by_cases hj0 : j < 0
       ·have H := HS.out
        clear HS
        rw [if_pos hj0] at H
        have hjb := decide_eq_true hj0
        have hco0 : w17.cell? ⟨gO, 0, none⟩ = some (.slice (some adx) s'.L.length cL') := (blk_cell HH.out.hO 0).trans rfl
        have hfo0 := blk_frozen HH.out.hO 0
        by_cases hq5 : (s'.L.length : Int) = 120
        ·rw [if_pos hq5] at H
         obtain rfl := Option.some.inj H
         clear H
         have hzn : z = none := (Option.some.inj HT.out).symm
         subst hzn
         have hRn : R = none := (Option.some.inj HR.out).symm
         subst hRn
         have e5b : ((s'.L.length : Int) == 120) = true := beq_iff_eq.mpr hq5
         clear hq5
         go_wp2
         go_ret2
         exact ⟨qb_, hB_⟩
        ·rw [if_neg hq5] at H
         have e5b : ((s'.L.length : Int) == 120) = false := beq_eq_false_iff_ne.mpr hq5
         clear hq5
         have hlen := cp_ H
         replace H := ca_ H
         have hiW := cp_ H
         replace H := ca_ H
         have hsz := cp_ H
         replace H := Option.some.inj (ca_ H)
         subst H
         rw [if_neg (by decide), if_neg (by decide)] at HT
         have LN := Aside0.mk hlen
         have LS := Aside0.mk hsz
         clear hlen hsz
         go_upto_region 17 with (fail)
         clear hco0 hfo0 e5b
         replace HH := Aside0.mk (HH.out.below (below_drew1 (Below.refl _ _)))
         replace BL := Aside0.mk (blk_drew BL.out)
         replace BX := Aside0.mk (blk_drew BX.out)
         replace HB := Aside0.mk (below_drew1 HB.out)
         replace Y0 := Aside0.mk (Kd.R_bound (Kd.R_drew Y0.out))
         replace Y1 := Aside0.mk (Kd.R_bound (Kd.R_drew Y1.out))
         replace SL13 := Aside0.mk (Kd.S_drew SL13.out)
         replace ZW := Aside0.mk (show w13.heap.size ≤ w17.drew.heap.size from ZW.out)
         refine start_ (n := 11) (S := fun w' => w'.cell? ⟨gO, 0, none⟩ = some (.slice (some adx) s'.L.length cL') ∧ w'.cell? ⟨gx, 0, none⟩ = some (.slice Ay0 y1'.length cy0) ∧ w'.cell? ⟨gx, 1, none⟩ = some (.slice Ay1 y2'.length cy1)) (ds := [7, 10]) (bl_ 11 0) (by kernel_rfl) rfl (by kernel_rfl) ⟨(blk_cell HH.out.hO 0).trans rfl, (blk_cell BX.out 0).trans rfl, (blk_cell BX.out 1).trans rfl⟩ (fun hHeld => ?_)
         refine with_tabW orb_tab17 orb_bits17 (fun HT_ HW_ => ?_)
         generalize w17.drew = wa at HH BL BX HB Y0 Y1 SL13 ZW hHeld ⊢
         refine pu_ 0 (some 68) (bl_ 11 1) HT_ ?_
         refine pu_ 1 (some 69) (bl_ 11 3) HT_ ?_
         refine pu_ 2 (some 70) (bl_ 11 7) HT_ ?_
         refine pu_ 3 (some 71) (bl_ 11 15) HT_ ?_
         refine ta_ 4 (some 72) (bl_ 11 31) HT_ HW_ hHeld ?_
         refine ta_ 5 (some 73) (bl_ 11 63) HT_ HW_ hHeld ?_
         refine on_ 6 (some 74) (bl_ 11 127) HT_ (fun K hK => ?_)
         refine value_ (w1 := ?_) (v := ?_) (by rfl) rfl ?_ ?_
         rotate_left 2
         ·go_simp
          constructor
          ·rfl
          ·rfl
         refine hK.out _ _ ⟨((below_alloc (Below.refl _ _) _).cell (World.block_lt_of_cell? _ _ hHeld.1)).trans hHeld.1, ((below_alloc (Below.refl _ _) _).cell (World.block_lt_of_cell? _ _ hHeld.2.1)).trans hHeld.2.1, ((below_alloc (Below.refl _ _) _).cell (World.block_lt_of_cell? _ _ hHeld.2.2)).trans hHeld.2.2⟩ (fun hHeld => ?_)
         clear hK K
         refine no_ (some 74) ?_
         refine last_ (i := 7) (N := some 75) (bl_ 11 255) rfl rfl (one_of HT_.out (by kernel_rfl)) (by decide) (fun K hK => ?_)
         refine Kd.S_append_step k25 (w0 := w) w.heap.size (by rfl) (.tmp 72) (.tmp 74) 36 25 (.agg #[(.slice none 0 0), (.slice none 0 0)]) 48 rfl Try.underlying36 info25 rfl (by decide) (by omega) (.slice (some adx) s'.L.length cL') s'.L (⟨y1', y2'⟩ : S25) [.slice Ay0 y1'.length cy0, .slice Ay1 y2'.length cy1] (fun k_ => rcl wa.heap.size (rcl w13.heap.size col' 0) 0 k_ = 0) (fun k_ => w13.heap.size ≤ k_ ∧ k_ < wa.heap.size) rfl rfl ?aP ?aQ (fun k_ hk => rcl_new hk) ?aO HB.out HB.out.size (by have := LN.out; omega) ?_
         case aP => exact k25_mkM _ _ _ (⟨y1', y2'⟩ : S25) (Kd.R_mono (Kd.R_lower Y0.out ZC.out) (fun k_ hk => ⟨hk.2.1, hk.2.2.1⟩)) (Kd.R_mono (Kd.R_lower Y1.out ZC.out) (fun k_ hk => ⟨hk.2.1, hk.2.2.1⟩)) NE.out
         case aQ => exact fun k_ hk => ⟨(rcl_old hk.2).trans (rcl_new hk.1), fun e => by have := ((Kd.S_R SL13.out).1 k_ e.symm).2; have := hk.1; omega⟩
         case aO => exact Kd.S_mono SL13.out (fun k_ hk => ⟨(rcl_old (Nat.lt_of_lt_of_le hk.2 ZW.out)).trans ((rcl_old hk.2).trans hk.1), fun h_ => by have := hk.2; have := h_.1; omega⟩)
         intro v1 wb ho hb hg hat
         obtain ⟨An1, cn1, en1⟩ := Kd.S_slice ho
         subst en1
         have HO19 := (B_gr HH.out.hO HH.out.cO hg (Kd.S_R HH.out.hL).1 (by decide)).1
         have HC3 := Aside0.mk (B_gr BL.out HC.out hg (Kd.S_R HH.out.hL).1 (by decide))
         have HP := HH.out.putL hg ho
         have HB2 := Aside0.mk hb
         refine hK.out _ _ ?_
         clear hK K ho hb hg hat SL13 Y0 Y1 BX NE GX
         refine no_ (some 75) ?_
         refine pu_ 8 (some 76) (bl_ 11 511) HT_ ?_
         refine pu_ 9 (some 77) (bl_ 11 1023) HT_ ?_
         refine last_ (i := 10) (N := none) (bl_ 11 2047) rfl rfl (one_of HT_.out (by kernel_rfl)) (by decide) (fun K hK => ?_)
         have hs19 : wb.cell? ⟨gO, 0, none⟩ = some (.slice (some adx) s'.L.length cL') := (blk_cell HO19 0).trans rfl
         have hf19 := blk_frozen HO19 0
         refine skip_ (w1 := wb.setCell ⟨gO, 0, none⟩ (.slice An1 (s'.L ++ [(⟨y1', y2'⟩ : S25)]).length cn1)) (by rfl) rfl ?_ ?_
         ·go_simp
         refine hK.out _ _ ?_
         clear hK K hs19 hf19
         refine done_ (done_of HT_.out (by kernel_rfl)) ?_
         have hne_ : gl ≠ gO := fun e => by have a1 := HC3.out.2; have a2 := HP.cO; rw [e] at a1; omega
         have HB3 := Aside0.mk (below_set (g := gO) (j := 0) (v := (.slice An1 (s'.L ++ [(⟨y1', y2'⟩ : S25)]).length cn1)) HB2.out HP.bO)
         have BL2 := Aside0.mk (put_far HC3.out.1 hne_ 0 (.slice An1 (s'.L ++ [(⟨y1', y2'⟩ : S25)]).length cn1))
         have HCN := HC3.out.2
         clear HH BL HB HC HC3 HB2 HO19
         generalize hwc : wb.setCell ⟨gO, 0, none⟩ (.slice An1 (s'.L ++ [(⟨y1', y2'⟩ : S25)]).length cn1) = wc at HP HB3 BL2 ⊢
         clear hwc
         obtain ⟨colwc, hh_, hc_⟩ : ∃ c_, OrbH w.heap.size c_ wc gO gM n' _ _ _ _ _ _ _ ∧ c_ gl = 8 := ⟨_, HP, HCN⟩
         have HH := Aside0.mk hh_; have HC := Aside0.mk hc_; have BL := BL2; have HB := HB3
         clear hh_ hc_ BL2 HB3 HP HCN hne_
         obtain ⟨AW, cW, eW⟩ := Kd.R_slice HH.out.hW
         subst eW
         go_upto_region 18 with (fail)
         replace HH := Aside0.mk (HH.out.below (below_drew1 (Below.refl _ _)))
         replace BL := Aside0.mk (blk_drew BL.out)
         replace HB := Aside0.mk (below_drew1 HB.out)
         obtain ⟨adw, ew, hxw⟩ := Kd.at_string (Kd.R_reads' HH.out.hW).2.2 x7 hi0 hiW
         cases ew
         have tw1 := eq_true hiW
         have tw2 := decide_eq_true hiW
         refine start_ (n := 21) (S := fun w' => w'.cell? ⟨gO, 1, none⟩ = some (.slice (some adw) s'.W.length cW) ∧ w'.cell? (adw.add (x7).toNat) = some (.string (rdOf ByteArray.empty s'.W x7))) (ds := [17, 20]) (bl_ 21 0) (by kernel_rfl) rfl (by kernel_rfl) ⟨(blk_cell HH.out.hO 1).trans rfl, hxw⟩ (fun hHeld => ?_)
         refine with_tabW orb_tab18 orb_bits18 (fun HT_ HW_ => ?_)
         clear hxw
         generalize wc.drew = wd at HH BL HB hHeld ⊢
         refine pu_ 0 (some 78) (bl_ 21 1) HT_ ?_
         refine pu_ 1 (some 79) (bl_ 21 3) HT_ ?_
         refine pu_ 2 (some 80) (bl_ 21 7) HT_ ?_
         refine pu_ 3 (some 81) (bl_ 21 15) HT_ ?_
         refine ta_ 4 (some 82) (bl_ 21 31) HT_ HW_ hHeld ?_
         refine pu_ 5 (some 83) (bl_ 21 63) HT_ ?_
         refine pu_ 6 (some 84) (bl_ 21 127) HT_ ?_
         refine pu_ 7 (some 85) (bl_ 21 255) HT_ ?_
         refine ta_ 8 (some 86) (bl_ 21 511) HT_ HW_ hHeld ?_
         refine pu_ 9 (some 87) (bl_ 21 1023) HT_ ?_
         refine pu_ 10 (some 88) (bl_ 21 2047) HT_ ?_
         refine ta_ 11 (some 89) (bl_ 21 4095) HT_ HW_ hHeld ?_
         refine pu_ 12 (some 90) (bl_ 21 8191) HT_ ?_
         refine on_ 13 (some 91) (bl_ 21 16383) HT_ (fun K hK => ?_)
         refine Kd.R_lit_step (Kd.int .u8) _ 5 ?hg (N := 91) ?hd (xs := ([83] : List Int)) (inner := [.int .u8 83]) (ok := fun _ => True) (okp := fun _ => True) ?hr ?hp (fun _ hk => hk) trivial (Below.refl _ _) (Nat.le_refl _) (by simp) ?_; (case hd => rfl); (case hg => rfl); (case hr => first | (go_simp; done) | (go_simp; rfl)); (case hp => exact (Reps.one (show Kd.M (Kd.int .u8) _ _ _ 83 [.int .u8 83] from rfl) (Reps.none _ _)))
         intro vq we hoq hb hg_ hnew_
         have hS1_ := (hb.cell (World.block_lt_of_cell? _ _ hHeld.1)).trans hHeld.1
         have hS2_ := (hb.cell (World.block_lt_of_cell? _ _ hHeld.2)).trans hHeld.2
         replace HH := Aside0.mk (HH.out.below hb)
         replace BL := bb_ BL hb
         replace HB := b1_ hb
         have HOq := Aside0.mk hoq
         clear hg_ hnew_ hb hoq
         refine hK.out _ _ ⟨hS1_, hS2_⟩ (fun hHeld => ?_)
         clear hK K hS1_ hS2_
         refine no_ (some 91) ?_
         refine on_ 14 (some 92) (bl_ 21 32767) HT_ (fun K hK => ?_)
         have hcv47 := own_string (P := Try.prog) Try.underlying22 Try.underlying5 Try.underlying9 (Kd.own_of_R HOq.out)
         refine value_ (w1 := ?_) (v := ?_) (by rfl) rfl ?_ ?_
         rotate_left 2
         ·go_simp
          constructor
          ·rfl
          ·rfl
         clear hcv47 HOq
         refine hK.out _ _ hHeld (fun hHeld => ?_)
         clear hK K
         refine no_ (some 92) ?_
         have hs1_ : (strOfNums [(83 : Int)]).size = 1 := by decide +kernel
         have tw3 : (9223372036854775807 < (rdOf ByteArray.empty s'.W x7).size + (strOfNums [(83 : Int)]).size) = False := eq_false (by rw [hs1_]; have := LS.out; omega)
         clear hs1_
         refine pu_ 15 (some 93) (bl_ 21 65535) HT_ ?_
         clear tw3
         refine on_ 16 (some 94) (bl_ 21 131071) HT_ (fun K hK => ?_)
         refine value_ (w1 := ?_) (v := ?_) (by rfl) rfl ?_ ?_
         rotate_left 2
         ·go_simp
          constructor
          ·rfl
          ·rfl
         refine hK.out _ _ ⟨((below_alloc (Below.refl _ _) _).cell (World.block_lt_of_cell? _ _ hHeld.1)).trans hHeld.1, ((below_alloc (Below.refl _ _) _).cell (World.block_lt_of_cell? _ _ hHeld.2)).trans hHeld.2⟩ (fun hHeld => ?_)
         clear hK K
         refine no_ (some 94) ?_
         refine last_ (i := 17) (N := some 95) (bl_ 21 262143) rfl rfl (one_of HT_.out (by kernel_rfl)) (by decide) (fun K hK => ?_)
         refine Kd.R_append_step Kd.string (w0 := w) w.heap.size (by rfl) (.tmp 82) (.tmp 94) 53 9 (.string ⟨#[]⟩) 16 rfl Try.underlying53 info9 rfl (by decide) (by omega) (.slice (some adw) s'.W.length cW) s'.W ((rdOf ByteArray.empty s'.W x7) ++ (strOfNums [83])) [.string ((rdOf ByteArray.empty s'.W x7) ++ (strOfNums [83]))] (fun k_ => rcl we.heap.size colwc 1 k_ = 1) (fun _ => False) rfl rfl rfl (fun _ hk => hk.elim) (fun k_ hk => rcl_new hk) (R_col HH.out.hW (fun k_ hk => rcl_old hk)) HB.out HB.out.size (by have := LN.out; omega) ?_
         intro v2 wf ho hb hg hat
         obtain ⟨An2, cn2, en2⟩ := Kd.R_slice ho
         subst en2
         have HO19 := (B_gr HH.out.hO HH.out.cO hg HH.out.hW.1 (by decide)).1
         have HC3 := Aside0.mk (B_gr BL.out HC.out hg HH.out.hW.1 (by decide))
         have HP := HH.out.putW hg ho
         have HB2 := Aside0.mk hb
         refine hK.out _ _ ?_
         clear hK K ho hb hg hat
         refine no_ (some 95) ?_
         refine pu_ 18 (some 96) (bl_ 21 524287) HT_ ?_
         refine pu_ 19 (some 97) (bl_ 21 1048575) HT_ ?_
         refine last_ (i := 20) (N := none) (bl_ 21 2097151) rfl rfl (one_of HT_.out (by kernel_rfl)) (by decide) (fun K hK => ?_)
         have hs19 : wf.cell? ⟨gO, 1, none⟩ = some (.slice (some adw) s'.W.length cW) := (blk_cell HO19 1).trans rfl
         have hf19 := blk_frozen HO19 1
         refine skip_ (w1 := wf.setCell ⟨gO, 1, none⟩ (.slice An2 (s'.W ++ [(rdOf ByteArray.empty s'.W x7) ++ (strOfNums [83])]).length cn2)) (by rfl) rfl ?_ ?_
         ·go_simp
         refine hK.out _ _ ?_
         clear hK K hs19 hf19
         refine done_ (done_of HT_.out (by kernel_rfl)) ?_
         have hne_ : gl ≠ gO := fun e => by have a1 := HC3.out.2; have a2 := HP.cO; rw [e] at a1; omega
         have HB3 := Aside0.mk (below_set (g := gO) (j := 1) (v := (.slice An2 (s'.W ++ [(rdOf ByteArray.empty s'.W x7) ++ (strOfNums [83])]).length cn2)) HB2.out HP.bO)
         have BL2 := Aside0.mk (put_far HC3.out.1 hne_ 1 (.slice An2 (s'.W ++ [(rdOf ByteArray.empty s'.W x7) ++ (strOfNums [83])]).length cn2))
         have HCN := HC3.out.2
         clear HH BL HB HC HC3 HB2 HO19
         generalize hwc : wf.setCell ⟨gO, 1, none⟩ (.slice An2 (s'.W ++ [(rdOf ByteArray.empty s'.W x7) ++ (strOfNums [83])]).length cn2) = wg at HP HB3 BL2 ⊢
         clear hwc
         obtain ⟨colwg, hh_, hc_⟩ : ∃ c_, OrbH w.heap.size c_ wg gO gM n' _ _ _ _ _ _ _ ∧ c_ gl = 8 := ⟨_, HP, HCN⟩
         have HH := Aside0.mk hh_; have HC := Aside0.mk hc_; have BL := BL2; have HB := HB3
         clear hh_ hc_ BL2 HB3 HP HCN hne_
         obtain ⟨AF, cF, eF⟩ := Kd.R_slice HH.out.hF
         subst eF
         go_upto_region 19 with (fail)
         have hco_ : wg.cell? ⟨gO, 2, none⟩ = some (.slice AF s'.F.length cF) := (blk_cell HH.out.hO 2).trans rfl
         have hfo_ := blk_frozen HH.out.hO 2
         go_upto_region 20 with (first | ((with_reducible refine gate_builtin (b := .append) (xs := #[.tmp 102, .tmp 104]) rfl ?_); at_builtin; refine Kd.R_append (Kd.int .i64) (w0 := w) w.heap.size rfl (.tmp 102) (.tmp 104) 23 3 (.int .i64 0) 8 rfl Try.underlying23 info3 rfl (by decide) (by omega) (.slice AF s'.F.length cF) s'.F (x7) [.int .i64 (x7)] (fun k_ => rcl wg.heap.size colwg 2 k_ = 2) (fun _ => False) rfl rfl rfl (fun _ hk => hk.elim) (fun k_ hk => rcl_new hk) (R_col HH.out.hF (fun k_ hk => rcl_old hk)) HB.out HB.out.size (by have := LN.out; omega) ?_; intro v3 wh ho hb hg hat; obtain ⟨Anv3, cnv3, env3⟩ := Kd.R_slice ho; subst env3; rw [List.length_append, List.length_singleton] at ho; have HO19 := (B_gr HH.out.hO HH.out.cO hg HH.out.hF.1 (by decide)).1; have HC3 := Aside0.mk (B_gr BL.out HC.out hg HH.out.hF.1 (by decide)); have HP := HH.out.putF hg ho; have HB2 := Aside0.mk hb; clear ho hb hg hat hco_ hfo_; have hs19 : wh.cell? ⟨gO, 2, none⟩ = some (.slice AF s'.F.length cF) := (blk_cell HO19 2).trans rfl; have hf19 := blk_frozen HO19 2))
         clear hs19 hf19
         have hne_ : gl ≠ gO := fun e => by have a1 := HC3.out.2; have a2 := HP.cO; rw [e] at a1; omega
         have HB3 := Aside0.mk (below_set (g := gO) (j := 2) (v := (.slice Anv3 (s'.F.length + 1) cnv3)) HB2.out HP.bO)
         have BL2 := Aside0.mk (put_far HC3.out.1 hne_ 2 (.slice Anv3 (s'.F.length + 1) cnv3))
         have HCN := HC3.out.2
         clear HH BL HB HC HC3 HB2 HO19
         generalize hwc : wh.setCell ⟨gO, 2, none⟩ (.slice Anv3 (s'.F.length + 1) cnv3) = wi at HP HB3 BL2 ⊢
         clear hwc
         obtain ⟨colwi, hh_, hc_⟩ : ∃ c_, OrbH w.heap.size c_ wi gO gM n' _ _ _ _ _ _ _ ∧ c_ gl = 8 := ⟨_, HP, HCN⟩
         have HH := Aside0.mk hh_; have HC := Aside0.mk hc_; have BL := BL2; have HB := HB3
         clear hh_ hc_ BL2 HB3 HP HCN hne_
         obtain ⟨AB, cB, eB⟩ := Kd.R_slice HH.out.hB
         subst eB
         have hco_ : wi.cell? ⟨gO, 3, none⟩ = some (.slice AB s'.B.length cB) := (blk_cell HH.out.hO 3).trans rfl
         have hfo_ := blk_frozen HH.out.hO 3
         go_upto_region 21 with (first | ((with_reducible refine gate_builtin (b := .append) (xs := #[.tmp 112, .tmp 114]) rfl ?_); at_builtin; refine Kd.R_append (Kd.int .u8) (w0 := w) w.heap.size rfl (.tmp 112) (.tmp 114) 22 5 (.int .u8 0) 1 rfl Try.underlying22 info5 rfl (by decide) (by omega) (.slice AB s'.B.length cB) s'.B (83) [.int .u8 (83)] (fun k_ => rcl wi.heap.size colwi 3 k_ = 3) (fun _ => False) rfl rfl rfl (fun _ hk => hk.elim) (fun k_ hk => rcl_new hk) (R_col HH.out.hB (fun k_ hk => rcl_old hk)) HB.out HB.out.size (by have := LN.out; omega) ?_; intro v4 wj ho hb hg hat; obtain ⟨Anv4, cnv4, env4⟩ := Kd.R_slice ho; subst env4; rw [List.length_append, List.length_singleton] at ho; have HO19 := (B_gr HH.out.hO HH.out.cO hg HH.out.hB.1 (by decide)).1; have HC3 := Aside0.mk (B_gr BL.out HC.out hg HH.out.hB.1 (by decide)); have HP := HH.out.putB hg ho; have HB2 := Aside0.mk hb; clear ho hb hg hat hco_ hfo_; have hs19 : wj.cell? ⟨gO, 3, none⟩ = some (.slice AB s'.B.length cB) := (blk_cell HO19 3).trans rfl; have hf19 := blk_frozen HO19 3))
         clear hs19 hf19
         have hne_ : gl ≠ gO := fun e => by have a1 := HC3.out.2; have a2 := HP.cO; rw [e] at a1; omega
         have HB3 := Aside0.mk (below_set (g := gO) (j := 3) (v := (.slice Anv4 (s'.B.length + 1) cnv4)) HB2.out HP.bO)
         have BL2 := Aside0.mk (put_far HC3.out.1 hne_ 3 (.slice Anv4 (s'.B.length + 1) cnv4))
         have HCN := HC3.out.2
         clear HH BL HB HC HC3 HB2 HO19
         generalize hwc : wj.setCell ⟨gO, 3, none⟩ (.slice Anv4 (s'.B.length + 1) cnv4) = wk at HP HB3 BL2 ⊢
         clear hwc
         obtain ⟨colwk, hh_, hc_⟩ : ∃ c_, OrbH w.heap.size c_ wk gO gM n' _ _ _ _ _ _ _ ∧ c_ gl = 8 := ⟨_, HP, HCN⟩
         have HH := Aside0.mk hh_; have HC := Aside0.mk hc_; have BL := BL2; have HB := HB3
         clear hh_ hc_ BL2 HB3 HP HCN hne_
         generalize hcc : colwk = colc at HH HC
         clear hcc
         go_upto_region 21 with (fail)
         replace HH := Aside0.mk (HH.out.below (below_drew1 (Below.refl _ _)))
         replace BL := Aside0.mk (blk_drew BL.out)
         replace HB := Aside0.mk (below_drew1 HB.out)
         refine start_ (n := 15) (S := fun w' => w'.cell? ⟨gO, 4, none⟩ = some (.map (some gM)) ∧ w'.heap[gM]? = some (mapO n' vT' vS')) (ds := [14]) (bl_ 15 0) (by kernel_rfl) rfl (by kernel_rfl) ⟨(blk_cell HH.out.hO 4).trans rfl, HH.out.hM⟩ (fun hHeld => ?_)
         refine with_tabW orb_tab21 orb_bits21 (fun HT_ HW_ => ?_)
         generalize wk.drew = wl at HH BL HB hHeld ⊢
         refine pu_ 0 (some 118) (bl_ 15 1) HT_ ?_
         refine pu_ 1 (some 119) (bl_ 15 3) HT_ ?_
         refine pu_ 2 (some 120) (bl_ 15 7) HT_ ?_
         refine ta_ 3 (some 121) (bl_ 15 15) HT_ HW_ hHeld ?_
         refine pu_ 4 (some 122) (bl_ 15 31) HT_ ?_
         refine pu_ 5 (some 123) (bl_ 15 63) HT_ ?_
         refine pu_ 6 (some 124) (bl_ 15 127) HT_ ?_
         refine pu_ 7 (some 125) (bl_ 15 255) HT_ ?_
         refine ta_ 8 (some 126) (bl_ 15 511) HT_ HW_ hHeld ?_
         refine pu_ 9 (some 127) (bl_ 15 1023) HT_ ?_
         have hlk : ∀ w', w'.heap[gM]? = some (mapO n' vT' vS') → (Instr.lookup 67 (.map (some gM)) (.int .u8 83) false).run Try.prog w' = .ok vS' w' := fun w' h_ => by
          have hn := hn0.out
          have := look_S h_ (by omega)
          rw [HH.out.look.2] at this
          exact this
         refine ta_ 10 (some 128) (v := vS') (bl_ 15 2047) HT_ HW_ hHeld ?_ (hy := Or.inl ⟨by rfl, fun w' hs_ => ?_⟩)
         rotate_left
         ·have hq := hlk w' hs_.2
          go_simp
         clear hlk
         refine pu_ 11 (some 129) (bl_ 15 4095) HT_ ?_
         refine on_ 12 (some 130) (bl_ 15 8191) HT_ (fun K hK => ?_)
         refine value_ (w1 := ?_) (v := ?_) (by rfl) rfl ?_ ?_
         rotate_left 2
         ·go_simp
          constructor
          ·rfl
          ·rfl
         refine hK.out _ _ ⟨((below_alloc (Below.refl _ _) _).cell (World.block_lt_of_cell? _ _ hHeld.1)).trans hHeld.1, blk_alloc hHeld.2 _⟩ (fun hHeld => ?_)
         clear hK K
         refine no_ (some 130) ?_
         refine on_ 13 (some 131) (bl_ 15 16383) HT_ (fun K hK => ?_)
         refine Kd.R_append_step (Kd.int .i64) (w0 := w) w.heap.size (by rfl) (.tmp 128) (.tmp 130) 23 3 (.int .i64 0) 8 rfl Try.underlying23 info3 rfl (by decide) (by omega) vS' s'.S ((s'.L.length : Int)) [.int .i64 ((s'.L.length : Int))] (fun k_ => rcl wl.heap.size colc 5 k_ = 5) (fun _ => False) rfl rfl rfl (fun _ hk => hk.elim) (fun k_ hk => rcl_new hk) (R_col HH.out.hS (fun k_ hk => rcl_old hk)) HB.out HB.out.size (by have := LN.out; omega) ?_
         intro v1 wlb ho hb hg hat
         have HP := HH.out.putS hn0.out hg ho
         have HM := Aside0.mk HP.1
         have HO19 := (B_gr HH.out.hO HH.out.cO hg HH.out.hS.1 (by decide)).1
         have HC3 := Aside0.mk (B_gr BL.out HC.out hg HH.out.hS.1 (by decide))
         replace HH := Aside0.mk HP.2
         clear HP
         have HB2 := Aside0.mk hb
         refine hK.out _ _ ⟨(blk_cell HO19 4).trans rfl, HM.out⟩ (fun hHeld => ?_)
         clear hK K ho hb hg hat HO19
         refine no_ (some 131) ?_
         refine last_ (i := 14) (N := none) (bl_ 15 32767) rfl rfl (one_of HT_.out (by kernel_rfl)) (by decide) (fun K hK => ?_)
         have hput : (Instr.mapUpdate 67 (.map (some gM)) (.int .u8 83) v1).run Try.prog wlb = .ok () (setMap wlb gM 2 vT' v1) := put_S HM.out hn0.out v1
         refine skip_ (w1 := setMap wlb gM 2 vT' v1) (by rfl) rfl ?_ ?_
         ·go_simp
         refine hK.out _ _ ?_
         clear hK K hput
         refine done_ (done_of HT_.out (by kernel_rfl)) ?_
         try go_wp2
         have hgm : gl ≠ gM := fun e => by have a1 := HC3.out.2; have a2 := HH.out.cM; rw [e] at a1; omega
         have BL2 := Aside0.mk ((setMap_far (n := 2) vT' v1 hgm).trans HC3.out.1)
         have HB3 := Aside0.mk (setMap_below (n := 2) vT' v1 HB2.out HH.out.bM)
         go_roundg 0
         case measure => have := HG.out; omega
         case rel => exact ⟨2, 2, _, _, _, _, _, _, _, _, (by first | rfl | (simp; done) | (simp [*]; done)), ⟨by omega⟩, ⟨by omega⟩, HT, ⟨⟨fun e => absurd e (by decide), fun e => absurd e (by decide), fun _ => rfl⟩⟩, ⟨HC3.out.2⟩, BL2, HH, HB3⟩
       ·have H := HS.out
        clear HS
        rw [if_neg hj0] at H
        have hjb := decide_eq_false hj0
        have hlen := cp_ H
        replace H := Option.some.inj (ca_ H)
        subst H
        rw [if_neg (by decide), if_neg (by decide)] at HT
        have LN := Aside0.mk hlen
        clear hlen SL13 Y0 Y1 BX NE GX
        generalize hcc : rcl w13.heap.size col' 0 = colc at HH HC
        clear hcc
        go_upto_region 21 with (fail)
        replace HH := Aside0.mk (HH.out.below (below_drew1 (Below.refl _ _)))
        replace BL := Aside0.mk (blk_drew BL.out)
        replace HB := Aside0.mk (below_drew1 HB.out)
        refine start_ (n := 15) (S := fun w' => w'.cell? ⟨gO, 4, none⟩ = some (.map (some gM)) ∧ w'.heap[gM]? = some (mapO n' vT' vS')) (ds := [14]) (bl_ 15 0) (by kernel_rfl) rfl (by kernel_rfl) ⟨(blk_cell HH.out.hO 4).trans rfl, HH.out.hM⟩ (fun hHeld => ?_)
        refine with_tabW orb_tab21 orb_bits21 (fun HT_ HW_ => ?_)
        generalize w17.drew = w18 at HH BL HB hHeld ⊢
        refine pu_ 0 (some 118) (bl_ 15 1) HT_ ?_
        refine pu_ 1 (some 119) (bl_ 15 3) HT_ ?_
        refine pu_ 2 (some 120) (bl_ 15 7) HT_ ?_
        refine ta_ 3 (some 121) (bl_ 15 15) HT_ HW_ hHeld ?_
        refine pu_ 4 (some 122) (bl_ 15 31) HT_ ?_
        refine pu_ 5 (some 123) (bl_ 15 63) HT_ ?_
        refine pu_ 6 (some 124) (bl_ 15 127) HT_ ?_
        refine pu_ 7 (some 125) (bl_ 15 255) HT_ ?_
        refine ta_ 8 (some 126) (bl_ 15 511) HT_ HW_ hHeld ?_
        refine pu_ 9 (some 127) (bl_ 15 1023) HT_ ?_
        have hlk : ∀ w', w'.heap[gM]? = some (mapO n' vT' vS') → (Instr.lookup 67 (.map (some gM)) (.int .u8 83) false).run Try.prog w' = .ok vS' w' := fun w' h_ => by
         have hn := hn0.out
         have := look_S h_ (by omega)
         rw [HH.out.look.2] at this
         exact this
        refine ta_ 10 (some 128) (v := vS') (bl_ 15 2047) HT_ HW_ hHeld ?_ (hy := Or.inl ⟨by rfl, fun w' hs_ => ?_⟩)
        rotate_left
        ·have hq := hlk w' hs_.2
         go_simp
        clear hlk
        refine pu_ 11 (some 129) (bl_ 15 4095) HT_ ?_
        refine on_ 12 (some 130) (bl_ 15 8191) HT_ (fun K hK => ?_)
        refine value_ (w1 := ?_) (v := ?_) (by rfl) rfl ?_ ?_
        rotate_left 2
        ·go_simp
         constructor
         ·rfl
         ·rfl
        refine hK.out _ _ ⟨((below_alloc (Below.refl _ _) _).cell (World.block_lt_of_cell? _ _ hHeld.1)).trans hHeld.1, blk_alloc hHeld.2 _⟩ (fun hHeld => ?_)
        clear hK K
        refine no_ (some 130) ?_
        refine on_ 13 (some 131) (bl_ 15 16383) HT_ (fun K hK => ?_)
        refine Kd.R_append_step (Kd.int .i64) (w0 := w) w.heap.size (by rfl) (.tmp 128) (.tmp 130) 23 3 (.int .i64 0) 8 rfl Try.underlying23 info3 rfl (by decide) (by omega) vS' s'.S (j) [.int .i64 (j)] (fun k_ => rcl w18.heap.size colc 5 k_ = 5) (fun _ => False) rfl rfl rfl (fun _ hk => hk.elim) (fun k_ hk => rcl_new hk) (R_col HH.out.hS (fun k_ hk => rcl_old hk)) HB.out HB.out.size (by have := LN.out; omega) ?_
        intro v1 w18b ho hb hg hat
        have HP := HH.out.putS hn0.out hg ho
        have HM := Aside0.mk HP.1
        have HO19 := (B_gr HH.out.hO HH.out.cO hg HH.out.hS.1 (by decide)).1
        have HC3 := Aside0.mk (B_gr BL.out HC.out hg HH.out.hS.1 (by decide))
        replace HH := Aside0.mk HP.2
        clear HP
        have HB2 := Aside0.mk hb
        refine hK.out _ _ ⟨(blk_cell HO19 4).trans rfl, HM.out⟩ (fun hHeld => ?_)
        clear hK K ho hb hg hat HO19
        refine no_ (some 131) ?_
        refine last_ (i := 14) (N := none) (bl_ 15 32767) rfl rfl (one_of HT_.out (by kernel_rfl)) (by decide) (fun K hK => ?_)
        have hput : (Instr.mapUpdate 67 (.map (some gM)) (.int .u8 83) v1).run Try.prog w18b = .ok () (setMap w18b gM 2 vT' v1) := put_S HM.out hn0.out v1
        refine skip_ (w1 := setMap w18b gM 2 vT' v1) (by rfl) rfl ?_ ?_
        ·go_simp
        refine hK.out _ _ ?_
        clear hK K hput
        refine done_ (done_of HT_.out (by kernel_rfl)) ?_
        try go_wp2
        have hgm : gl ≠ gM := fun e => by have a1 := HC3.out.2; have a2 := HH.out.cM; rw [e] at a1; omega
        have BL2 := Aside0.mk ((setMap_far (n := 2) vT' v1 hgm).trans HC3.out.1)
        have HB3 := Aside0.mk (setMap_below (n := 2) vT' v1 HB2.out HH.out.bM)
        go_roundg 0
        case measure => have := HG.out; omega
        case rel => exact ⟨2, 2, _, _, _, _, _, _, _, _, (by first | rfl | (simp; done) | (simp [*]; done)), ⟨by omega⟩, ⟨by omega⟩, HT, ⟨⟨fun e => absurd e (by decide), fun e => absurd e (by decide), fun _ => rfl⟩⟩, ⟨HC3.out.2⟩, BL2, HH, HB3⟩
     ·have hj2' : jj = 2 := by omega
      subst hj2'
      have hn2 := Aside0.mk (HN.out.2.2 rfl)
      have H := AZ.out
      clear AZ
      change innerO k1 x7 [] s' = some z at H
      simp only [innerO] at H
      obtain rfl := Option.some.inj H
      clear H
      clear hcl0 hcl1 hfl0 hfl1 hco0 hfo0
      go_wp2
      go_roundg k1
      case measure => have := HK.out; omega
      case rel => exact ⟨wrap64 (x7 + 1), n', _, _, _, _, _, _, _, s', (by first | rfl | (simp; done) | (simp [*]; done)), HR, ⟨by have := HK.out; omega⟩, ⟨.inr hn2.out⟩, HH, HB⟩
   ·rw [if_neg hq1] at H
    have c1b := decide_eq_false hq1
    obtain rfl := Option.some.inj H
    clear H hq1
    go_wp2
    go_ret2
    exact ⟨gO, gM, n, col, _, _, _, _, _, _, rfl, HH.out, HB.out⟩
theorem orbit_calls (k : Nat) (A0 : Option Addr) (c0 : Nat) (l0 : List Int) (A1 : Option Addr) (c1 : Nat) (l1 : List Int) (R : Option Orb) (w : World) (h0 : Kd.C (Kd.int .i64) w A0 l0.length l0) (g0 : l0.length ≤ c0) (h1 : Kd.C (Kd.int .i64) w A1 l1.length l1) (g1 : l1.length ≤ c1) (h : orbitO k l0 l1 = some R) :
  Calls Try.prog 59 #[.agg #[.slice A0 l0.length c0, .slice A1 l1.length c1]] w fun e w' => OrbPost w w' e R := by
 unfold orbitO at h
 obtain ⟨⟨y1, y2, yb⟩, a, h⟩ := Option.bind_eq_some_iff.mp h
 cases yb with
 | false =>
  have e : none = R := Option.some.inj h
  subst e
  exact orbit_no k A0 c0 l0 A1 c1 l1 y1 y2 w h0 g0 h1 g1 a
 | true => exact orbit_yes k A0 c0 l0 A1 c1 l1 y1 y2 R w h0 g0 h1 g1 a h
end Go.Proofs.Ytcggfjpnfodbaaa.M
end
section
/- Finding the orbit: more rounds give the same answer. No conditions. -/
namespace Go.Proofs.Ytcggfjpnfodbaaa.M
set_option linter.unusedVariables false
set_option linter.unusedSimpArgs false
open Go Go.RowKit Go.Proofs.YtcggfjpnfodbaaaW.PrintWords Go.Proofs.YtcggfjpnfodbaaaW.PrintLast Go.Proofs.YtcggfjpnfodbaaaW.PrintMore Go.Proofs.Ytcggfjpnfodbaaa.A
theorem idxS_mono (k : Nat) (r u : List Int) : ∀ (l : List S25) (i : Nat), LeO (idxS k r u l i) (idxS (k + 1) r u l i) := by
 intro l
 induction l with
 | nil => intro i; exact LeO.refl _
 | cons x l ih =>
  intro i
  unfold idxS
  refine LeO.bind (Z20.mono _ _ _ _ _) (fun b => LeO.ite (LeO.refl _) (ih _))
theorem indexO_mono (k : Nat) (l : List S25) (r u : List Int) : LeO (indexO k l r u) (indexO (k + 1) l r u) := by
 unfold indexO
 exact LeO.ite (idxS_mono _ _ _ _ _) (LeO.refl _)
theorem stpO_mono (k : Nat) (i c : Int) (s : Orb) : LeO (stpO k i c s) (stpO (k + 1) i c s) := by
 unfold stpO
 refine LeO.ite (LeO.ite (LeO.bind (Z10.mono _ _ _ _) (fun x => LeO.bind (Z54.mono _ _ _) (fun y => LeO.bind (indexO_mono _ _ _ _) (fun j => LeO.refl _)))) (LeO.refl _)) (LeO.refl _)
theorem innerO_mono (k : Nat) (i : Int) : ∀ (cs : List Int) (s : Orb), LeO (innerO k i cs s) (innerO (k + 1) i cs s) := by
 intro cs
 induction cs with
 | nil => intro s; exact LeO.refl _
 | cons c cs ih =>
  intro s
  unfold innerO
  refine LeO.bind (stpO_mono _ _ _ _) (fun z => ?_)
  cases z with
  | none => exact LeO.refl _
  | some s' => exact ih s'
theorem loopO_mono : ∀ (k : Nat) (s : Orb) (i : Int), LeO (loopO k s i) (loopO (k + 1) s i) := by
 intro k
 induction k with
 | zero => intro s i; exact LeO.none _
 | succ k ih =>
  intro s i
  rw [loopO, loopO]
  refine LeO.ite (LeO.bind (innerO_mono _ _ _ _) (fun z => ?_)) (LeO.refl _)
  cases z with
  | none => exact LeO.refl _
  | some s' => exact ih s' _
theorem orbitO_mono (k : Nat) (r u : List Int) : LeO (orbitO k r u) (orbitO (k + 1) r u) := by
 unfold orbitO
 exact LeO.bind (Z54.mono _ _ _) (fun y => LeO.ite (loopO_mono _ _ _) (LeO.refl _))
end Go.Proofs.Ytcggfjpnfodbaaa.M
end
section
namespace Go.Proofs.Ytcggfjpnfodbaaa.A
open Go.RowKit Go.Proofs.YtcggfjpnfodbaaaW.PrintWords Go.Proofs.YtcggfjpnfodbaaaW.PrintLast Go.Proofs.YtcggfjpnfodbaaaW.PrintMore
attribute [local go_sem] max2_int min2_int max_two min_two max_three min_three max_four min_four
set_option linter.unusedVariables false
set_option linter.unusedSimpArgs false
def Z6.f (k : Nat) (l0_0 : List Int) (l0_1 : List Int) (l1_0 : List Int) (l1_1 : List Int) : Option (Bool) := (Z54.f k l0_0 l0_1).bind fun bt568 => ((Z54.f k l1_0 l1_1).bind fun bt576 => (if bt568.2.2 = true then (if bt576.2.2 = true then ((Z20.f k bt568.1 bt568.2.1 bt576.1 bt576.2.1).bind fun t584 => (some t584)) else (some false)) else (some false)))
theorem Z6.mono : ∀ a0 a1 a2 a3 k, LeO (Z6.f k a0 a1 a2 a3) (Z6.f (k + 1) a0 a1 a2 a3) := by
 intro a0 a1 a2 a3 k
 unfold Z6.f
 repeat' first|exact Z54.mono _ _ _|exact Z20.mono _ _ _ _ _|exact lo_|refine LeO.ite ?_ ?_|refine LeO.bind ?_ (fun _ => ?_)
set_option maxHeartbeats 8000000 in
set_option maxRecDepth 100000 in
theorem Z6.calls (k : Nat) (A0_0 : Option Addr) (c0_0 : Nat) (l0_0 : List Int) (A0_1 : Option Addr) (c0_1 : Nat) (l0_1 : List Int) (A1_0 : Option Addr) (c1_0 : Nat) (l1_0 : List Int) (A1_1 : Option Addr) (c1_1 : Nat) (l1_1 : List Int) (r : Bool) (w : World) (hr0_0 : Kd.C (Kd.int .i64) w A0_0 l0_0.length l0_0) (hc0_0 : l0_0.length ≤ c0_0) (hr0_1 : Kd.C (Kd.int .i64) w A0_1 l0_1.length l0_1) (hc0_1 : l0_1.length ≤ c0_1) (hr1_0 : Kd.C (Kd.int .i64) w A1_0 l1_0.length l1_0) (hc1_0 : l1_0.length ≤ c1_0) (hr1_1 : Kd.C (Kd.int .i64) w A1_1 l1_1.length l1_1) (hc1_1 : l1_1.length ≤ c1_1) (h : Z6.f k l0_0 l0_1 l1_0 l1_1 = some r) :
  Calls Try.prog 21 #[.agg #[.slice A0_0 l0_0.length c0_0, .slice A0_1 l0_1.length c0_1], .agg #[.slice A1_0 l1_0.length c1_0, .slice A1_1 l1_1.length c1_1]] w fun e w' => e = .returned (.bool r) ∧ Below w.heap.size w w' := by
 have hu25 := Try.underlying25
 have HR0_0 := A_ hr0_0
 have HC0_0 := A_ hc0_0
 clear hr0_0 hc0_0
 have HR0_1 := A_ hr0_1
 have HC0_1 := A_ hc0_1
 clear hr0_1 hc0_1
 have HR1_0 := A_ hr1_0
 have HC1_0 := A_ hc1_0
 clear hr1_0 hc1_0
 have HR1_1 := A_ hr1_1
 have HC1_1 := A_ hc1_1
 clear hr1_1 hc1_1
 have HB := A_ (Below.refl w.heap.size w)
 have H := h
 unfold Z6.f at H
 clear h
 obtain ⟨⟨t568, t571, t574⟩, A3, H⟩ := bi_ H
 try dsimp only at H
 obtain ⟨⟨t576, t579, t582⟩, A4, H⟩ := bi_ H
 try dsimp only at H
 by_cases c5 : t574 = true
 ·subst c5
  rw [if_pos rfl] at H
  by_cases c6 : t582 = true
  ·subst c6
   rw [if_pos rfl] at H
   obtain ⟨t584, A7, H⟩ := bi_ H
   obtain rfl := Option.some.inj H
   go_enter Try.func21, Try.ntmps21
   go_wp2_with (first | ((with_reducible refine gB_ (N := 2) rfl ?_); refine bx_ 2 #[.slice A0_0 l0_0.length c0_0, .slice A0_1 l0_1.length c0_1] 25 ?_; intro gb566 hg w8 hbox hb; have BK566 := A_ hbox; have GW566 := gw_ w hg; have GE566 := GW566; replace HB := b1_ hb; clear hb hbox hg) | ((with_reducible refine gB_ (N := 3) rfl ?_); refine bx_ 3 #[.slice A1_0 l1_0.length c1_0, .slice A1_1 l1_1.length c1_1] 25 ?_; intro gb567 hg w9 hbox hb; have BK567 := A_ hbox; have GW567 := gw_ w hg; have GE567 := GW567; replace HB := b1_ hb; have NB566_567 := gN_ BK566 hg; have NB567_566 := gP_ BK566 hg; replace BK566 := bb_ BK566 hb; clear hb hbox hg; have hnb10 := NB566_567.out; have hnc10 := NB567_566.out; obtain ⟨hcz11_0, hcz11_1, hfz11_0, hfz11_1⟩ := c2_ BK566) | ((with_reducible refine gA_ (f := 28) rfl ?_); refine gL_ (some 11) Try.func28 #[.agg #[.slice A0_0 l0_0.length c0_0, .slice A0_1 l0_1.length c0_1]] rfl qa_ ?_; (with_reducible refine (Z54.calls k _ _ l0_0 _ _ l0_1 t568 t571 true _ (cb_ HR0_0) HC0_0.out (cb_ HR0_1) HC0_1.out A3.out).mono ?_); rintro e w12 ⟨v569, v572, rfl, ho0, ho1, hb⟩; refine ⟨_, rfl, ?_⟩; have HO570 := rl_ w ho0; have HO573 := rl_ w ho1; replace BK566 := bb_ BK566 hb; replace BK567 := bb_ BK567 hb; replace HB := b1_ hb; clear hb ho0 ho1) | ((with_reducible refine gB_ (N := 5) rfl ?_); refine bx_ 5 #[.slice none 0 0, .slice none 0 0] 25 ?_; intro gb575 hg w13 hbox hb; replace HO570 := rb_ HO570 hb; replace HO573 := rb_ HO573 hb; have BK575 := A_ hbox; have GW575 := gw_ w hg; have GE575 := GW575; replace HB := b1_ hb; have NB566_575 := gN_ BK566 hg; have NB575_566 := gP_ BK566 hg; replace BK566 := bb_ BK566 hb; have NB567_575 := gN_ BK567 hg; have NB575_567 := gP_ BK567 hg; replace BK567 := bb_ BK567 hb; clear hb hbox hg; obtain ⟨Ao14, co14, eo14⟩ := Kd.R_slice HO570.out; subst eo14; have hnb15 := NB575_566.out; have hnc15 := NB566_575.out; have hnb16 := NB575_567.out; have hnc16 := NB567_575.out; obtain ⟨hcz17_0, hcz17_1, hfz17_0, hfz17_1⟩ := c2_ BK575; obtain ⟨Ao18, co18, eo18⟩ := Kd.R_slice HO573.out; subst eo18; obtain ⟨hcz19_0, hcz19_1, hfz19_0, hfz19_1⟩ := c2_ BK567) | ((with_reducible refine gA_ (f := 28) rfl ?_); refine gL_ (some 16) Try.func28 #[.agg #[.slice A1_0 l1_0.length c1_0, .slice A1_1 l1_1.length c1_1]] rfl qa_ ?_; (with_reducible refine (Z54.calls k _ _ l1_0 _ _ l1_1 t576 t579 true _ (cD_ HR1_0.out hB_) HC1_0.out (cD_ HR1_1.out hB_) HC1_1.out A4.out).mono ?_); rintro e w20 ⟨v577, v580, rfl, ho0, ho1, hb⟩; refine ⟨_, rfl, ?_⟩; have HO578 := A_ (rE_ (Kd.R_new' (Kd.R_new' ho0 (Kd.R_lt (rw_ (fa_ HO570 BK575)))) (Kd.R_lt (rw_ (fa_ HO573 BK575)))) (bF_ hB_)); have HO581 := A_ (rE_ (Kd.R_new' (Kd.R_new' ho1 (Kd.R_lt (rw_ (fa_ HO570 BK575)))) (Kd.R_lt (rw_ (fa_ HO573 BK575)))) (bF_ hB_)); replace HO570 := A_ (Kd.R_mono (Kd.R_told (Kd.R_told (Kd.R_old (rw_ (fa_ HO570 BK575)) hb) (Kd.R_base ho0)) (Kd.R_base ho1)) (fun _ h_ => h_.1)); replace HO573 := A_ (Kd.R_mono (Kd.R_told (Kd.R_told (Kd.R_old (rw_ (fa_ HO573 BK575)) hb) (Kd.R_base ho0)) (Kd.R_base ho1)) (fun _ h_ => h_.1)); replace BK566 := A_ (kE_ (g := gb566) (o := .cells #[.slice A0_0 l0_0.length c0_0, .slice A0_1 l0_1.length c0_1] 25 (0, 0)) (by (with_reducible repeat (first | refine kA_ ?_ _ | refine kB_ ?_ | refine kC_ ?_ _)); refine blk_far ?_ NB566_575.out _; (with_reducible repeat (first | refine kA_ ?_ _ | refine kB_ ?_ | refine kC_ ?_ _)); refine blk_far ?_ NB566_575.out _; (with_reducible repeat (first | refine kA_ ?_ _ | refine kB_ ?_ | refine kC_ ?_ _)); exact BK566.out) hb); replace BK567 := A_ (kE_ (g := gb567) (o := .cells #[.slice A1_0 l1_0.length c1_0, .slice A1_1 l1_1.length c1_1] 25 (0, 0)) (by (with_reducible repeat (first | refine kA_ ?_ _ | refine kB_ ?_ | refine kC_ ?_ _)); refine blk_far ?_ NB567_575.out _; (with_reducible repeat (first | refine kA_ ?_ _ | refine kB_ ?_ | refine kC_ ?_ _)); refine blk_far ?_ NB567_575.out _; (with_reducible repeat (first | refine kA_ ?_ _ | refine kB_ ?_ | refine kC_ ?_ _)); exact BK567.out) hb); replace BK575 := A_ (kE_ (g := gb575) (o := .cells #[.slice Ao14 t568.length co14, .slice Ao18 t571.length co18] 25 (0, 0)) qp_ hb); replace HB := b1_ hb; clear hb ho0 ho1) | ((with_reducible refine gB_ (N := 7) rfl ?_); refine bx_ 7 #[.slice none 0 0, .slice none 0 0] 25 ?_; intro gb583 hg w21 hbox hb; replace HO570 := rb_ HO570 hb; replace HO573 := rb_ HO573 hb; replace HO578 := rb_ HO578 hb; replace HO581 := rb_ HO581 hb; have BK583 := A_ hbox; have GW583 := gw_ w hg; have GE583 := GW583; replace HB := b1_ hb; have NB566_583 := gN_ BK566 hg; have NB583_566 := gP_ BK566 hg; replace BK566 := bb_ BK566 hb; have NB567_583 := gN_ BK567 hg; have NB583_567 := gP_ BK567 hg; replace BK567 := bb_ BK567 hb; have NB575_583 := gN_ BK575 hg; have NB583_575 := gP_ BK575 hg; replace BK575 := bb_ BK575 hb; clear hb hbox hg; obtain ⟨Ao22, co22, eo22⟩ := Kd.R_slice HO578.out; subst eo22; have hnb23 := NB583_566.out; have hnc23 := NB566_583.out; have hnb24 := NB583_567.out; have hnc24 := NB567_583.out; have hnb25 := NB583_575.out; have hnc25 := NB575_583.out; obtain ⟨hcz26_0, hcz26_1, hfz26_0, hfz26_1⟩ := c2_ BK583; obtain ⟨Ao27, co27, eo27⟩ := Kd.R_slice HO581.out; subst eo27; obtain ⟨hcz28_0, hcz28_1, hfz28_0, hfz28_1⟩ := c2_ BK575) | (go_at_call 29; (with_reducible refine (Z20.calls k _ _ t568 _ _ t571 _ _ t576 _ _ t579 t584 _ ?side1 ?side2 ?side3 ?side4 ?side5 ?side6 ?side7 ?side8 A7.out).mono ?_); (case side1 => refine (Kd.R_reads' (e := 3) (base := w.heap.size) (ok := fun k_ => ((some k_ ≠ (.slice Ao18 t571.length co18 : Value).ownBlock ∧ some k_ ≠ (.slice Ao22 t576.length co22 : Value).ownBlock) ∧ some k_ ≠ (.slice Ao27 t579.length co27 : Value).ownBlock)) (n := t568.length) (c := co14) ?_).2.2; exact (rw_ (fa_ HO570 BK583))); (case side2 => exact (Kd.R_reads' HO570.out).2.1); (case side3 => refine (Kd.R_reads' (e := 3) (base := w.heap.size) (ok := fun k_ => ((some k_ ≠ (.slice Ao14 t568.length co14 : Value).ownBlock ∧ some k_ ≠ (.slice Ao22 t576.length co22 : Value).ownBlock) ∧ some k_ ≠ (.slice Ao27 t579.length co27 : Value).ownBlock)) (n := t571.length) (c := co18) ?_).2.2; exact (rw_ (fa_ HO573 BK583))); (case side4 => exact (Kd.R_reads' HO573.out).2.1); (case side5 => refine (Kd.R_reads' (e := 3) (base := w.heap.size) (ok := fun k_ => ((some k_ ≠ (.slice Ao27 t579.length co27 : Value).ownBlock ∧ some k_ ≠ (.slice Ao14 t568.length co14 : Value).ownBlock) ∧ some k_ ≠ (.slice Ao18 t571.length co18 : Value).ownBlock)) (n := t576.length) (c := co22) ?_).2.2; exact (rw_ (fa_ HO578 BK583))); (case side6 => exact (Kd.R_reads' HO578.out).2.1); (case side7 => refine (Kd.R_reads' (e := 3) (base := w.heap.size) (ok := fun k_ => ((some k_ ≠ (.slice Ao22 t576.length co22 : Value).ownBlock ∧ some k_ ≠ (.slice Ao14 t568.length co14 : Value).ownBlock) ∧ some k_ ≠ (.slice Ao18 t571.length co18 : Value).ownBlock)) (n := t579.length) (c := co27) ?_).2.2; exact (rw_ (fa_ HO581 BK583))); (case side8 => exact (Kd.R_reads' HO581.out).2.1); rintro e w29 ⟨rfl, hb⟩; replace HO570 := A_ (rD_ (rw_ (fa_ HO570 BK583)) hb); replace HO573 := A_ (rD_ (rw_ (fa_ HO573 BK583)) hb); replace HO578 := A_ (rD_ (rw_ (fa_ HO578 BK583)) hb); replace HO581 := A_ (rD_ (rw_ (fa_ HO581 BK583)) hb); replace BK566 := A_ (kE_ (g := gb566) (o := .cells #[.slice A0_0 l0_0.length c0_0, .slice A0_1 l0_1.length c0_1] 25 (0, 0)) (by (with_reducible repeat (first | refine kA_ ?_ _ | refine kB_ ?_ | refine kC_ ?_ _)); refine blk_far ?_ NB566_583.out _; (with_reducible repeat (first | refine kA_ ?_ _ | refine kB_ ?_ | refine kC_ ?_ _)); refine blk_far ?_ NB566_583.out _; (with_reducible repeat (first | refine kA_ ?_ _ | refine kB_ ?_ | refine kC_ ?_ _)); exact BK566.out) hb); replace BK567 := A_ (kE_ (g := gb567) (o := .cells #[.slice A1_0 l1_0.length c1_0, .slice A1_1 l1_1.length c1_1] 25 (0, 0)) (by (with_reducible repeat (first | refine kA_ ?_ _ | refine kB_ ?_ | refine kC_ ?_ _)); refine blk_far ?_ NB567_583.out _; (with_reducible repeat (first | refine kA_ ?_ _ | refine kB_ ?_ | refine kC_ ?_ _)); refine blk_far ?_ NB567_583.out _; (with_reducible repeat (first | refine kA_ ?_ _ | refine kB_ ?_ | refine kC_ ?_ _)); exact BK567.out) hb); replace BK575 := A_ (kE_ (g := gb575) (o := .cells #[.slice Ao14 t568.length co14, .slice Ao18 t571.length co18] 25 (0, 0)) (by (with_reducible repeat (first | refine kA_ ?_ _ | refine kB_ ?_ | refine kC_ ?_ _)); refine blk_far ?_ NB575_583.out _; (with_reducible repeat (first | refine kA_ ?_ _ | refine kB_ ?_ | refine kC_ ?_ _)); refine blk_far ?_ NB575_583.out _; (with_reducible repeat (first | refine kA_ ?_ _ | refine kB_ ?_ | refine kC_ ?_ _)); exact BK575.out) hb); replace BK583 := A_ (kE_ (g := gb583) (o := .cells #[.slice Ao22 t576.length co22, .slice Ao27 t579.length co27] 25 (0, 0)) qp_ hb); replace HB := b1_ hb; clear hb))
   go_ret
   exact ⟨qb_, hB_⟩
  ·replace c6 := Bool.eq_false_iff.mpr c6
   subst c6
   have H1 : (some false) = some r := by rw [if_neg (show ¬ (false = true) by decide)] at H; exact H
   clear H
   have H := H1
   clear H1
   obtain rfl := Option.some.inj H
   go_enter Try.func21, Try.ntmps21
   go_wp2_with (first | ((with_reducible refine gB_ (N := 2) rfl ?_); refine bx_ 2 #[.slice A0_0 l0_0.length c0_0, .slice A0_1 l0_1.length c0_1] 25 ?_; intro gb566 hg w30 hbox hb; have BK566 := A_ hbox; have GW566 := gw_ w hg; have GE566 := GW566; replace HB := b1_ hb; clear hb hbox hg) | ((with_reducible refine gB_ (N := 3) rfl ?_); refine bx_ 3 #[.slice A1_0 l1_0.length c1_0, .slice A1_1 l1_1.length c1_1] 25 ?_; intro gb567 hg w31 hbox hb; have BK567 := A_ hbox; have GW567 := gw_ w hg; have GE567 := GW567; replace HB := b1_ hb; have NB566_567 := gN_ BK566 hg; have NB567_566 := gP_ BK566 hg; replace BK566 := bb_ BK566 hb; clear hb hbox hg; have hnb32 := NB566_567.out; have hnc32 := NB567_566.out; obtain ⟨hcz33_0, hcz33_1, hfz33_0, hfz33_1⟩ := c2_ BK566) | ((with_reducible refine gA_ (f := 28) rfl ?_); refine gL_ (some 11) Try.func28 #[.agg #[.slice A0_0 l0_0.length c0_0, .slice A0_1 l0_1.length c0_1]] rfl qa_ ?_; (with_reducible refine (Z54.calls k _ _ l0_0 _ _ l0_1 t568 t571 true _ (cb_ HR0_0) HC0_0.out (cb_ HR0_1) HC0_1.out A3.out).mono ?_); rintro e w34 ⟨v569, v572, rfl, ho0, ho1, hb⟩; refine ⟨_, rfl, ?_⟩; have HO570 := rl_ w ho0; have HO573 := rl_ w ho1; replace BK566 := bb_ BK566 hb; replace BK567 := bb_ BK567 hb; replace HB := b1_ hb; clear hb ho0 ho1) | ((with_reducible refine gB_ (N := 5) rfl ?_); refine bx_ 5 #[.slice none 0 0, .slice none 0 0] 25 ?_; intro gb575 hg w35 hbox hb; replace HO570 := rb_ HO570 hb; replace HO573 := rb_ HO573 hb; have BK575 := A_ hbox; have GW575 := gw_ w hg; have GE575 := GW575; replace HB := b1_ hb; have NB566_575 := gN_ BK566 hg; have NB575_566 := gP_ BK566 hg; replace BK566 := bb_ BK566 hb; have NB567_575 := gN_ BK567 hg; have NB575_567 := gP_ BK567 hg; replace BK567 := bb_ BK567 hb; clear hb hbox hg; obtain ⟨Ao36, co36, eo36⟩ := Kd.R_slice HO570.out; subst eo36; have hnb37 := NB575_566.out; have hnc37 := NB566_575.out; have hnb38 := NB575_567.out; have hnc38 := NB567_575.out; obtain ⟨hcz39_0, hcz39_1, hfz39_0, hfz39_1⟩ := c2_ BK575; obtain ⟨Ao40, co40, eo40⟩ := Kd.R_slice HO573.out; subst eo40; obtain ⟨hcz41_0, hcz41_1, hfz41_0, hfz41_1⟩ := c2_ BK567) | ((with_reducible refine gA_ (f := 28) rfl ?_); refine gL_ (some 16) Try.func28 #[.agg #[.slice A1_0 l1_0.length c1_0, .slice A1_1 l1_1.length c1_1]] rfl qa_ ?_; (with_reducible refine (Z54.calls k _ _ l1_0 _ _ l1_1 t576 t579 false _ (cD_ HR1_0.out hB_) HC1_0.out (cD_ HR1_1.out hB_) HC1_1.out A4.out).mono ?_); rintro e w42 ⟨v577, v580, rfl, ho0, ho1, hb⟩; refine ⟨_, rfl, ?_⟩; have HO578 := A_ (rE_ (Kd.R_new' (Kd.R_new' ho0 (Kd.R_lt (rw_ (fa_ HO570 BK575)))) (Kd.R_lt (rw_ (fa_ HO573 BK575)))) (bF_ hB_)); have HO581 := A_ (rE_ (Kd.R_new' (Kd.R_new' ho1 (Kd.R_lt (rw_ (fa_ HO570 BK575)))) (Kd.R_lt (rw_ (fa_ HO573 BK575)))) (bF_ hB_)); replace HO570 := A_ (Kd.R_mono (Kd.R_told (Kd.R_told (Kd.R_old (rw_ (fa_ HO570 BK575)) hb) (Kd.R_base ho0)) (Kd.R_base ho1)) (fun _ h_ => h_.1)); replace HO573 := A_ (Kd.R_mono (Kd.R_told (Kd.R_told (Kd.R_old (rw_ (fa_ HO573 BK575)) hb) (Kd.R_base ho0)) (Kd.R_base ho1)) (fun _ h_ => h_.1)); replace BK566 := A_ (kE_ (g := gb566) (o := .cells #[.slice A0_0 l0_0.length c0_0, .slice A0_1 l0_1.length c0_1] 25 (0, 0)) (by (with_reducible repeat (first | refine kA_ ?_ _ | refine kB_ ?_ | refine kC_ ?_ _)); refine blk_far ?_ NB566_575.out _; (with_reducible repeat (first | refine kA_ ?_ _ | refine kB_ ?_ | refine kC_ ?_ _)); refine blk_far ?_ NB566_575.out _; (with_reducible repeat (first | refine kA_ ?_ _ | refine kB_ ?_ | refine kC_ ?_ _)); exact BK566.out) hb); replace BK567 := A_ (kE_ (g := gb567) (o := .cells #[.slice A1_0 l1_0.length c1_0, .slice A1_1 l1_1.length c1_1] 25 (0, 0)) (by (with_reducible repeat (first | refine kA_ ?_ _ | refine kB_ ?_ | refine kC_ ?_ _)); refine blk_far ?_ NB567_575.out _; (with_reducible repeat (first | refine kA_ ?_ _ | refine kB_ ?_ | refine kC_ ?_ _)); refine blk_far ?_ NB567_575.out _; (with_reducible repeat (first | refine kA_ ?_ _ | refine kB_ ?_ | refine kC_ ?_ _)); exact BK567.out) hb); replace BK575 := A_ (kE_ (g := gb575) (o := .cells #[.slice Ao36 t568.length co36, .slice Ao40 t571.length co40] 25 (0, 0)) qp_ hb); replace HB := b1_ hb; clear hb ho0 ho1) | ((with_reducible refine gB_ (N := 7) rfl ?_); refine bx_ 7 #[.slice none 0 0, .slice none 0 0] 25 ?_; intro gb583 hg w43 hbox hb; replace HO570 := rb_ HO570 hb; replace HO573 := rb_ HO573 hb; replace HO578 := rb_ HO578 hb; replace HO581 := rb_ HO581 hb; have BK583 := A_ hbox; have GW583 := gw_ w hg; have GE583 := GW583; replace HB := b1_ hb; have NB566_583 := gN_ BK566 hg; have NB583_566 := gP_ BK566 hg; replace BK566 := bb_ BK566 hb; have NB567_583 := gN_ BK567 hg; have NB583_567 := gP_ BK567 hg; replace BK567 := bb_ BK567 hb; have NB575_583 := gN_ BK575 hg; have NB583_575 := gP_ BK575 hg; replace BK575 := bb_ BK575 hb; clear hb hbox hg; obtain ⟨Ao44, co44, eo44⟩ := Kd.R_slice HO578.out; subst eo44; have hnb45 := NB583_566.out; have hnc45 := NB566_583.out; have hnb46 := NB583_567.out; have hnc46 := NB567_583.out; have hnb47 := NB583_575.out; have hnc47 := NB575_583.out; obtain ⟨hcz48_0, hcz48_1, hfz48_0, hfz48_1⟩ := c2_ BK583; obtain ⟨Ao49, co49, eo49⟩ := Kd.R_slice HO581.out; subst eo49))
   go_ret
   exact ⟨qb_, hB_⟩
 ·replace c5 := Bool.eq_false_iff.mpr c5
  subst c5
  have H1 : (some false) = some r := by rw [if_neg (show ¬ (false = true) by decide)] at H; exact H
  clear H
  have H := H1
  clear H1
  obtain rfl := Option.some.inj H
  go_enter Try.func21, Try.ntmps21
  go_wp2_with (first | ((with_reducible refine gB_ (N := 2) rfl ?_); refine bx_ 2 #[.slice A0_0 l0_0.length c0_0, .slice A0_1 l0_1.length c0_1] 25 ?_; intro gb566 hg w50 hbox hb; have BK566 := A_ hbox; have GW566 := gw_ w hg; have GE566 := GW566; replace HB := b1_ hb; clear hb hbox hg) | ((with_reducible refine gB_ (N := 3) rfl ?_); refine bx_ 3 #[.slice A1_0 l1_0.length c1_0, .slice A1_1 l1_1.length c1_1] 25 ?_; intro gb567 hg w51 hbox hb; have BK567 := A_ hbox; have GW567 := gw_ w hg; have GE567 := GW567; replace HB := b1_ hb; have NB566_567 := gN_ BK566 hg; have NB567_566 := gP_ BK566 hg; replace BK566 := bb_ BK566 hb; clear hb hbox hg; have hnb52 := NB566_567.out; have hnc52 := NB567_566.out; obtain ⟨hcz53_0, hcz53_1, hfz53_0, hfz53_1⟩ := c2_ BK566) | ((with_reducible refine gA_ (f := 28) rfl ?_); refine gL_ (some 11) Try.func28 #[.agg #[.slice A0_0 l0_0.length c0_0, .slice A0_1 l0_1.length c0_1]] rfl qa_ ?_; (with_reducible refine (Z54.calls k _ _ l0_0 _ _ l0_1 t568 t571 false _ (cb_ HR0_0) HC0_0.out (cb_ HR0_1) HC0_1.out A3.out).mono ?_); rintro e w54 ⟨v569, v572, rfl, ho0, ho1, hb⟩; refine ⟨_, rfl, ?_⟩; have HO570 := rl_ w ho0; have HO573 := rl_ w ho1; replace BK566 := bb_ BK566 hb; replace BK567 := bb_ BK567 hb; replace HB := b1_ hb; clear hb ho0 ho1) | ((with_reducible refine gB_ (N := 5) rfl ?_); refine bx_ 5 #[.slice none 0 0, .slice none 0 0] 25 ?_; intro gb575 hg w55 hbox hb; replace HO570 := rb_ HO570 hb; replace HO573 := rb_ HO573 hb; have BK575 := A_ hbox; have GW575 := gw_ w hg; have GE575 := GW575; replace HB := b1_ hb; have NB566_575 := gN_ BK566 hg; have NB575_566 := gP_ BK566 hg; replace BK566 := bb_ BK566 hb; have NB567_575 := gN_ BK567 hg; have NB575_567 := gP_ BK567 hg; replace BK567 := bb_ BK567 hb; clear hb hbox hg; obtain ⟨Ao56, co56, eo56⟩ := Kd.R_slice HO570.out; subst eo56; have hnb57 := NB575_566.out; have hnc57 := NB566_575.out; have hnb58 := NB575_567.out; have hnc58 := NB567_575.out; obtain ⟨hcz59_0, hcz59_1, hfz59_0, hfz59_1⟩ := c2_ BK575; obtain ⟨Ao60, co60, eo60⟩ := Kd.R_slice HO573.out; subst eo60; obtain ⟨hcz61_0, hcz61_1, hfz61_0, hfz61_1⟩ := c2_ BK567) | ((with_reducible refine gA_ (f := 28) rfl ?_); refine gL_ (some 16) Try.func28 #[.agg #[.slice A1_0 l1_0.length c1_0, .slice A1_1 l1_1.length c1_1]] rfl qa_ ?_; (with_reducible refine (Z54.calls k _ _ l1_0 _ _ l1_1 t576 t579 t582 _ (cD_ HR1_0.out hB_) HC1_0.out (cD_ HR1_1.out hB_) HC1_1.out A4.out).mono ?_); rintro e w62 ⟨v577, v580, rfl, ho0, ho1, hb⟩; refine ⟨_, rfl, ?_⟩; have HO578 := A_ (rE_ (Kd.R_new' (Kd.R_new' ho0 (Kd.R_lt (rw_ (fa_ HO570 BK575)))) (Kd.R_lt (rw_ (fa_ HO573 BK575)))) (bF_ hB_)); have HO581 := A_ (rE_ (Kd.R_new' (Kd.R_new' ho1 (Kd.R_lt (rw_ (fa_ HO570 BK575)))) (Kd.R_lt (rw_ (fa_ HO573 BK575)))) (bF_ hB_)); replace HO570 := A_ (Kd.R_mono (Kd.R_told (Kd.R_told (Kd.R_old (rw_ (fa_ HO570 BK575)) hb) (Kd.R_base ho0)) (Kd.R_base ho1)) (fun _ h_ => h_.1)); replace HO573 := A_ (Kd.R_mono (Kd.R_told (Kd.R_told (Kd.R_old (rw_ (fa_ HO573 BK575)) hb) (Kd.R_base ho0)) (Kd.R_base ho1)) (fun _ h_ => h_.1)); replace BK566 := A_ (kE_ (g := gb566) (o := .cells #[.slice A0_0 l0_0.length c0_0, .slice A0_1 l0_1.length c0_1] 25 (0, 0)) (by (with_reducible repeat (first | refine kA_ ?_ _ | refine kB_ ?_ | refine kC_ ?_ _)); refine blk_far ?_ NB566_575.out _; (with_reducible repeat (first | refine kA_ ?_ _ | refine kB_ ?_ | refine kC_ ?_ _)); refine blk_far ?_ NB566_575.out _; (with_reducible repeat (first | refine kA_ ?_ _ | refine kB_ ?_ | refine kC_ ?_ _)); exact BK566.out) hb); replace BK567 := A_ (kE_ (g := gb567) (o := .cells #[.slice A1_0 l1_0.length c1_0, .slice A1_1 l1_1.length c1_1] 25 (0, 0)) (by (with_reducible repeat (first | refine kA_ ?_ _ | refine kB_ ?_ | refine kC_ ?_ _)); refine blk_far ?_ NB567_575.out _; (with_reducible repeat (first | refine kA_ ?_ _ | refine kB_ ?_ | refine kC_ ?_ _)); refine blk_far ?_ NB567_575.out _; (with_reducible repeat (first | refine kA_ ?_ _ | refine kB_ ?_ | refine kC_ ?_ _)); exact BK567.out) hb); replace BK575 := A_ (kE_ (g := gb575) (o := .cells #[.slice Ao56 t568.length co56, .slice Ao60 t571.length co60] 25 (0, 0)) qp_ hb); replace HB := b1_ hb; clear hb ho0 ho1) | ((with_reducible refine gB_ (N := 7) rfl ?_); refine bx_ 7 #[.slice none 0 0, .slice none 0 0] 25 ?_; intro gb583 hg w63 hbox hb; replace HO570 := rb_ HO570 hb; replace HO573 := rb_ HO573 hb; replace HO578 := rb_ HO578 hb; replace HO581 := rb_ HO581 hb; have BK583 := A_ hbox; have GW583 := gw_ w hg; have GE583 := GW583; replace HB := b1_ hb; have NB566_583 := gN_ BK566 hg; have NB583_566 := gP_ BK566 hg; replace BK566 := bb_ BK566 hb; have NB567_583 := gN_ BK567 hg; have NB583_567 := gP_ BK567 hg; replace BK567 := bb_ BK567 hb; have NB575_583 := gN_ BK575 hg; have NB583_575 := gP_ BK575 hg; replace BK575 := bb_ BK575 hb; clear hb hbox hg; obtain ⟨Ao64, co64, eo64⟩ := Kd.R_slice HO578.out; subst eo64; have hnb65 := NB583_566.out; have hnc65 := NB566_583.out; have hnb66 := NB583_567.out; have hnc66 := NB567_583.out; have hnb67 := NB583_575.out; have hnc67 := NB575_583.out; obtain ⟨hcz68_0, hcz68_1, hfz68_0, hfz68_1⟩ := c2_ BK583; obtain ⟨Ao69, co69, eo69⟩ := Kd.R_slice HO581.out; subst eo69))
  go_ret
  exact ⟨qb_, hB_⟩
def Z22.f (l0_0 : List Int) (l0_1 : List Int) : Option (List Int × List Int) := (Z46.f l0_0).bind fun t429 => ((Z46.f l0_1).bind fun t432 => (some (t429, t432)))
def Z22.T1 : Bool × List (List Nat × List Nat) := (true, [([], []), ([0], [0]), ([1], [1]), ([], []), ([3], [3]), ([4, 2], [4]), ([2, 5], [2, 5]), ([6, 5, 0, 1, 2, 3, 4, 5, 6], [6])])
def Z22.B1 : List Nat := [0, 1, 3, 0, 8, 31, 63, 127]
theorem Z22.tab1 : rtab .any (opsOf Try.f62 1) = Z22.T1 := by kernel_rfl
theorem Z22.bits1 : waitsOk Z22.T1.2 Z22.B1 = true := by kernel_rfl
set_option maxHeartbeats 8000000 in
set_option maxRecDepth 100000 in
theorem Z22.calls (A0_0 : Option Addr) (c0_0 : Nat) (l0_0 : List Int) (A0_1 : Option Addr) (c0_1 : Nat) (l0_1 : List Int) (r1 : List Int) (r2 : List Int) (w : World) (hr0_0 : Kd.C (Kd.int .i64) w A0_0 l0_0.length l0_0) (hc0_0 : l0_0.length ≤ c0_0) (hr0_1 : Kd.C (Kd.int .i64) w A0_1 l0_1.length l0_1) (hc0_1 : l0_1.length ≤ c0_1) (h : Z22.f l0_0 l0_1 = some (r1, r2)) :
  Calls Try.prog 62 #[.agg #[.slice A0_0 l0_0.length c0_0, .slice A0_1 l0_1.length c0_1]] w fun e w' => ∃ v0_ v1_ : Value, e = .returned (.agg #[v0_, v1_]) ∧ Kd.R (Kd.int .i64) 3 w' w.heap.size (fun k_ => some k_ ≠ (v1_ : Value).ownBlock) v0_ r1 ∧ Kd.R (Kd.int .i64) 3 w' w.heap.size (fun k_ => some k_ ≠ (v0_ : Value).ownBlock) v1_ r2 ∧ Below w.heap.size w w' := by
 have hu25 := Try.underlying25
 have HR0_0 := A_ hr0_0
 have HC0_0 := A_ hc0_0
 clear hr0_0 hc0_0
 have HR0_1 := A_ hr0_1
 have HC0_1 := A_ hc0_1
 clear hr0_1 hc0_1
 have HB := A_ (Below.refl w.heap.size w)
 have H := h
 unfold Z22.f at H
 clear h
 obtain ⟨t429, A2, H⟩ := bi_ H
 obtain ⟨t432, A3, H⟩ := bi_ H
 simp only [Option.some.injEq, Prod.mk.injEq] at H
 obtain ⟨rfl, rfl⟩ := H
 go_enter Try.func62, Try.ntmps62
 try go_wp2_with (first | ((with_reducible refine gB_ (N := 1) rfl ?_); refine bx_ 1 #[.slice A0_0 l0_0.length c0_0, .slice A0_1 l0_1.length c0_1] 25 ?_; intro gb427 hg w4 hbox hb; have BK427 := A_ hbox; have GW427 := gw_ w hg; have GE427 := GW427; replace HB := b1_ hb; clear hb hbox hg) | ((with_reducible refine gB_ (N := 2) rfl ?_); refine bx_ 2 #[.slice none 0 0, .slice none 0 0] 25 ?_; intro gb428 hg w5 hbox hb; have BK428 := A_ hbox; have GW428 := gw_ w hg; have GE428 := GW428; replace HB := b1_ hb; have NB427_428 := gN_ BK427 hg; have NB428_427 := gP_ BK427 hg; replace BK427 := bb_ BK427 hb; clear hb hbox hg))
 replace BK427 := A_ (kB_ BK427.out)
 replace BK428 := A_ (kB_ BK428.out)
 replace HB := A_ (bC_ HB.out)
 refine start_ (n := 8) (S := fun w' => w'.cell? ⟨gb427, 0, none⟩ = some (.slice A0_0 l0_0.length c0_0) ∧ w'.cell? ⟨gb427, 1, none⟩ = some (.slice A0_1 l0_1.length c0_1)) (ds := []) (bl_ 8 0) (by kernel_rfl) rfl (by kernel_rfl) ⟨cz0_ BK427, cz1_ BK427⟩ (fun hHeld => ?_); refine with_tabW Z22.tab1 Z22.bits1 (fun HT_ HW_ => ?_)
 generalize w5.drew = w6 at BK427 BK428 HB hHeld ⊢
 refine pu_ 0 (some 3) (bl_ 8 1) HT_ ?_
 refine pu_ 3 (some 6) (bl_ 8 9) HT_ ?_
 refine ta_ 1 (some 4) (bl_ 8 11) HT_ HW_ hHeld ?_
 refine ta_ 4 (some 7) (bl_ 8 27) HT_ HW_ hHeld ?_
 refine on_ 2 (some 5) (bl_ 8 31) HT_ (fun K hK => ?_)
 refine gO_ Try.func67 #[.slice A0_0 l0_0.length c0_0] (by rfl) rfl rfl qa_ ?_
 with_reducible refine (Z46.calls _ _ l0_0 t429 _ (cb_ HR0_0) HC0_0.out A2.out).mono ?_
 rintro e w7 ⟨v430, rfl, ho0, hb⟩
 refine ⟨_, rfl, ?_⟩
 have HO431 := rl_ w ho0
 replace BK427 := bb_ BK427 hb
 replace BK428 := bb_ BK428 hb
 replace HB := b1_ hb
 clear hb ho0
 refine hK.out _ _ ⟨cz0_ BK427, cz1_ BK427⟩ (fun hHeld => ?_)
 clear hK K
 refine no_ (some 5) ?_
 refine on_ 5 (some 8) (bl_ 8 63) HT_ (fun K hK => ?_)
 refine gO_ Try.func67 #[.slice A0_1 l0_1.length c0_1] (by rfl) rfl rfl qa_ ?_
 with_reducible refine (Z46.calls _ _ l0_1 t432 _ (cb_ HR0_1) HC0_1.out A3.out).mono ?_
 rintro e w8 ⟨v433, rfl, ho0, hb⟩
 refine ⟨_, rfl, ?_⟩
 have HO434 := A_ (rE_ (Kd.R_new' ho0 (Kd.R_lt (rr_ HO431))) (bF_ hB_))
 replace HO431 := A_ (Kd.R_elder' (rr_ HO431) (Kd.R_base ho0) hb)
 replace BK427 := bb_ BK427 hb
 replace BK428 := bb_ BK428 hb
 replace HB := b1_ hb
 clear hb ho0
 obtain ⟨Ao9, co9, eo9⟩ := Kd.R_slice HO434.out
 (first | subst eo9 | (injection eo9 with f1_ f2_ f3_; have f4_ := f1_.symm; have f5_ := f3_.symm; clear f1_ f2_ f3_; subst f4_; subst f5_))
 obtain ⟨Ao10, co10, eo10⟩ := Kd.R_slice HO431.out
 (first | subst eo10 | (injection eo10 with f1_ f2_ f3_; have f4_ := f1_.symm; have f5_ := f3_.symm; clear f1_ f2_ f3_; subst f4_; subst f5_))
 refine hK.out _ _ ⟨cz0_ BK427, cz1_ BK427⟩ (fun hHeld => ?_)
 clear hK K
 refine no_ (some 8) ?_
 refine pu_ 6 (some 9) (bl_ 8 127) HT_ ?_
 refine on_ 7 (none) (bl_ 8 255) HT_ (fun K hK => ?_)
 have hs11 : w8.cell? ⟨gb428, 0, none⟩ = some (.slice none 0 0) := cz0_ BK428
 have hfs11 := kD_ BK428.out 0
 have hns11_0 := NB427_428.out
 have hms11_0 := NB428_427.out
 have hs12 : w8.cell? ⟨gb428, 1, none⟩ = some (.slice none 0 0) := cz1_ BK428
 have hfs12 := kD_ BK428.out 1
 have hns12_0 := NB427_428.out
 have hms12_0 := NB428_427.out
 refine skip_ (w1 := ?_) (by rfl) rfl ?_ ?_
 rotate_left
 ·go_simp
  rfl
 refine hK.out _ _ ⟨((cell_far (p := ⟨gb428, _, none⟩) NB427_428.out _).trans (((cell_far (p := ⟨gb428, _, none⟩) NB427_428.out _).trans (hHeld.1)))), ((cell_far (p := ⟨gb428, _, none⟩) NB427_428.out _).trans (((cell_far (p := ⟨gb428, _, none⟩) NB427_428.out _).trans (hHeld.2))))⟩ (fun hHeld => ?_)
 clear hK K
 refine done_ (done_of HT_.out (by kernel_rfl)) ?_
 try go_wp2
 refine bodyPost_ret (results_cell_row rfl _ _ gb428 25 #[.slice Ao10 t429.length co10, .slice Ao9 t432.length co9] (0, 0) _ rfl qp_ Try.underlying25 rfl (by kernel_rfl)) rfl ?_
 exact ⟨_, _, qb_, (rw_ (Kd.R_mono (fa_ HO431 BK428) (fun _ hk => hk.2))), (rw_ (Kd.R_mono (fa_ HO434 BK428) (fun _ hk => hk.2))), hB_⟩
def Z2.f (s : ByteArray) (c : Int) : Option Int := some (Lib.indexByte s.data.toList c.toNat.toUInt8)
set_option maxHeartbeats 8000000 in
set_option maxRecDepth 100000 in
theorem Z2.calls (a0 : ByteArray) (a1 : Int) (r : Int) (w : World) (h : Z2.f a0 a1 = some r) :
  Calls Try.prog 143 #[.string a0, .int .u8 a1] w fun e w' => e = .returned (.int .i64 r) ∧ Below w.heap.size w w' := by
 unfold Z2.f at h
 obtain rfl := Option.some.inj h
 clear h
 go_enter Try.func143, Try.ntmps143
 go_wp2
 rw [run_callFunc_extern Try.func161 (by kernel_rfl) (by kernel_rfl) (by kernel_rfl) (e := Extern.BytealgIndexByte.indexByte) (by kernel_rfl), Lib.run_indexByteString]
 simp only [Result.andThen]
 rw [Oper.upon_value]
 go_wp2
 go_ret
 exact ⟨rfl, by repeat (first | (with_reducible first | exact Below.refl _ _ | apply bA_ | apply bB_ | apply bC_) | exact Below.refl _ _)⟩
def Z18.f (a0 : ByteArray) (a1 : Int) : Option (Int) := (Z2.f a0 a1).bind fun t622 => (some t622)
set_option maxHeartbeats 8000000 in
set_option maxRecDepth 100000 in
theorem Z18.calls (a0 : ByteArray) (a1 : Int) (r : Int) (w : World) (h : Z18.f a0 a1 = some r) :
  Calls Try.prog 110 #[.string a0, .int .u8 a1] w fun e w' => e = .returned (.int .i64 r) ∧ Below w.heap.size w w' := by
 have HB := A_ (Below.refl w.heap.size w)
 have H := h
 unfold Z18.f at H
 clear h
 obtain ⟨t622, A3, H⟩ := bi_ H
 obtain rfl := Option.some.inj H
 go_enter Try.func110, Try.ntmps110
 go_wp2_with (first | ((with_reducible refine gA_ (f := 143) rfl ?_); refine gL_ (some 7) Try.func143 #[.string a0, .int .u8 a1] rfl qa_ ?_; (with_reducible refine (Z2.calls a0 a1 t622 _ A3.out).mono ?_); rintro e w4 ⟨rfl, hb⟩; refine ⟨_, rfl, ?_⟩; replace HB := b1_ hb; clear hb))
 go_ret
 exact ⟨qb_, hB_⟩
def Z63.l0 : Nat → ByteArray → Int → Option (Bool)
 | 0, _, _ => none
 | k + 1, x0, x3 => if x3 < (x0.size : Int) then (if 0 ≤ x3 then ((Z18.f (⟨#[84, 116, 83, 115]⟩ : ByteArray) (bt x0 x3)).bind fun t623 => (if t623 < 0 then (some false) else (Z63.l0 k x0 (wrap64 (x3 + 1))))) else (none)) else (some (decide ((x0.size : Int) ≤ 40)))
def Z63.f (k : Nat) (a0 : ByteArray) : Option (Bool) := Z63.l0 k a0 0
theorem Z63.mono_l : ∀ k, (∀ y0 y1, LeO (Z63.l0 k y0 y1) (Z63.l0 (k + 1) y0 y1))
 | 0 => fun _ _ r h => by simp [Z63.l0] at h
 | k + 1 => by
  have ih0 := Z63.mono_l k
  ·intro y0 y1
   unfold Z63.l0
   repeat' first|exact ih0 _ _|exact lo_|refine LeO.ite ?_ ?_|refine LeO.bind ?_ (fun _ => ?_)
theorem Z63.mono : ∀ a0 k, LeO (Z63.f k a0) (Z63.f (k + 1) a0) := by
 intro a0 k
 have ih0 := Z63.mono_l k
 unfold Z63.f
 repeat' first|exact ih0 _ _|exact lo_|refine LeO.ite ?_ ?_|refine LeO.bind ?_ (fun _ => ?_)
set_option maxHeartbeats 8000000 in
set_option maxRecDepth 100000 in
theorem Z63.calls (k : Nat) (a0 : ByteArray) (r : Bool) (w : World) (h : Z63.f k a0 = some r) :
  Calls Try.prog 73 #[.string a0] w fun e w' => e = .returned (.bool r) ∧ Below w.heap.size w w' := by
 have HB := A_ (Below.refl w.heap.size w)
 have H := h
 unfold Z63.f at H
 clear h
 have H' := A_ H
 clear H
 go_enter Try.func73, Try.ntmps73
 go_wp2
 go_loopg [3] k (fun kq v3 w' => ∃ (x3_1 : Int), v3 = .int .i64 x3_1 ∧ Aside0 (Z63.l0 kq a0 x3_1 = some r) ∧ Aside0 (kq ≤ k) ∧ Aside0 (Below w.heap.size w w'))
 case atStart => exact ⟨(0), qc_, H', ⟨nA_ _⟩, ⟨hB_⟩⟩
 case round =>
  clear H'
  obtain ⟨x3_1, rfl, HA, HK1, HB⟩ := hrel
  cases gk with
  | zero => exact absurd HA.out (by simp [Z63.l0])
  | succ k1 =>
   have H := HA.out
   clear HA
   simp only [Z63.l0] at H
   by_cases c2 : x3_1 < (a0.size : Int)
   ·rw [if_pos c2] at H
    have c2b0 := oC_ c2
    clear c2
    have c3 := cp_ H
    replace H := ca_ H
    have c3b0 := oC_ c3
    clear c3
    obtain ⟨t623, A5, H⟩ := bi_ H
    by_cases c6 : t623 < 0
    ·rw [if_pos c6] at H
     have c6b0 := oC_ c6
     clear c6
     obtain rfl := Option.some.inj H
     have p4 : 0 ≤ (x3_1 : Int) := oB_ qe_
     have q4 : x3_1 < (a0.size : Int) := oB_ qe_
     have hx4 := bt_at a0 x3_1
     replace p4 := eq_true p4
     replace q4 := eq_true q4
     go_wp2_with (first | ((with_reducible refine gA_ (f := 110) rfl ?_); refine gL_ (some 13) Try.func110 #[.string (⟨#[84, 116, 83, 115]⟩ : ByteArray), .int .u8 (bt a0 x3_1)] rfl qa_ ?_; (with_reducible refine (Z18.calls (⟨#[84, 116, 83, 115]⟩ : ByteArray) (bt a0 x3_1) t623 _ A5.out).mono ?_); rintro e w7 ⟨rfl, hb⟩; refine ⟨_, rfl, ?_⟩; replace HB := b1_ hb; clear hb))
     go_ret
     exact ⟨qb_, hB_⟩
    ·rw [if_neg c6] at H
     have c6b0 := oD_ c6
     clear c6
     have H' := A_ H
     clear H
     have p4 : 0 ≤ (x3_1 : Int) := oB_ qe_
     have q4 : x3_1 < (a0.size : Int) := oB_ qe_
     have hx4 := bt_at a0 x3_1
     replace p4 := eq_true p4
     replace q4 := eq_true q4
     go_wp2_with (first | ((with_reducible refine gA_ (f := 110) rfl ?_); refine gL_ (some 13) Try.func110 #[.string (⟨#[84, 116, 83, 115]⟩ : ByteArray), .int .u8 (bt a0 x3_1)] rfl qa_ ?_; (with_reducible refine (Z18.calls (⟨#[84, 116, 83, 115]⟩ : ByteArray) (bt a0 x3_1) t623 _ A5.out).mono ?_); rintro e w8 ⟨rfl, hb⟩; refine ⟨_, rfl, ?_⟩; replace HB := b1_ hb; clear hb))
     go_roundg k1
     case measure => have := HK1.out; omega
     case rel => exact ⟨(wrap64 (x3_1 + 1)), qc_, H', ⟨by have := HK1.out; omega⟩, ⟨hB_⟩⟩
   ·rw [if_neg c2] at H
    have c2b0 := oD_ c2
    clear c2
    obtain rfl := Option.some.inj H
    go_wp2
    go_ret
    exact ⟨qb_, hB_⟩
end Go.Proofs.Ytcggfjpnfodbaaa.A
end
section
namespace Go.Proofs.Ytcggfjpnfodbaaa.A
open Go.RowKit Go.Proofs.YtcggfjpnfodbaaaW.PrintWords Go.Proofs.YtcggfjpnfodbaaaW.PrintLast Go.Proofs.YtcggfjpnfodbaaaW.PrintMore
attribute [local go_sem] max2_int min2_int max_two min_two max_three min_three max_four min_four
set_option linter.unusedVariables false
set_option linter.unusedSimpArgs false
mutual
def Z55.j0 : Nat → ByteArray → Bool → List Int → List Int → Option (List Int × List Int × Bool)
 | 0, _, _, _, _ => none
 | k + 1, x1, x15, x625000, x625001 => if x15 = true then (some (([] : List Int), ([] : List Int), false)) else ((Z22.f x625000 x625001).bind fun bt628 => (Z55.l0 k x1 0 bt628.1 bt628.2))
def Z55.l0 : Nat → ByteArray → Int → List Int → List Int → Option (List Int × List Int × Bool)
 | 0, _, _, _, _ => none
 | k + 1, x1, x7, x635000, x635001 => if x7 < (x1.size : Int) then (if 0 ≤ x7 then ((Z10.f k x635000 x635001 (bt x1 x7)).bind fun bt635 => (Z55.l0 k x1 (wrap64 (x7 + 1)) bt635.1 bt635.2)) else (none)) else (some (x635000, x635001, true))
end
def Z55.f (k : Nat) (l0_0 : List Int) (l0_1 : List Int) (a1 : ByteArray) : Option (List Int × List Int × Bool) := (Z31.f k l0_0 l0_1).bind fun t626 => (if t626 = true then ((Z63.f k a1).bind fun t627 => (Z55.j0 k a1 (!t627) l0_0 l0_1)) else (Z55.j0 k a1 true l0_0 l0_1))
theorem Z55.mono_l : ∀ k, (∀ y0 y1 y2 y3, LeO (Z55.j0 k y0 y1 y2 y3) (Z55.j0 (k + 1) y0 y1 y2 y3)) ∧ (∀ y0 y1 y2 y3, LeO (Z55.l0 k y0 y1 y2 y3) (Z55.l0 (k + 1) y0 y1 y2 y3))
 | 0 => ⟨fun _ _ _ _ r h => by simp [Z55.j0] at h, fun _ _ _ _ r h => by simp [Z55.l0] at h⟩
 | k + 1 => by
  obtain ⟨ih0, ih1⟩ := Z55.mono_l k
  refine ⟨?_, ?_⟩
  ·intro y0 y1 y2 y3
   unfold Z55.j0
   repeat' first|exact ih0 _ _ _ _|exact ih1 _ _ _ _|exact Z31.mono _ _ _|exact Z63.mono _ _|exact Z10.mono _ _ _ _|exact lo_|refine LeO.ite ?_ ?_|refine LeO.bind ?_ (fun _ => ?_)
  ·intro y0 y1 y2 y3
   unfold Z55.l0
   repeat' first|exact ih0 _ _ _ _|exact ih1 _ _ _ _|exact Z31.mono _ _ _|exact Z63.mono _ _|exact Z10.mono _ _ _ _|exact lo_|refine LeO.ite ?_ ?_|refine LeO.bind ?_ (fun _ => ?_)
theorem Z55.mono : ∀ a0 a1 a2 k, LeO (Z55.f k a0 a1 a2) (Z55.f (k + 1) a0 a1 a2) := by
 intro a0 a1 a2 k
 obtain ⟨ih0, ih1⟩ := Z55.mono_l k
 unfold Z55.f
 repeat' first|exact ih0 _ _ _ _|exact ih1 _ _ _ _|exact Z31.mono _ _ _|exact Z63.mono _ _|exact Z10.mono _ _ _ _|exact lo_|refine LeO.ite ?_ ?_|refine LeO.bind ?_ (fun _ => ?_)
set_option maxHeartbeats 8000000 in
set_option maxRecDepth 100000 in
theorem Z55.calls (k : Nat) (A0_0 : Option Addr) (c0_0 : Nat) (l0_0 : List Int) (A0_1 : Option Addr) (c0_1 : Nat) (l0_1 : List Int) (a1 : ByteArray) (r1 : List Int) (r2 : List Int) (r3 : Bool) (w : World) (hr0_0 : Kd.C (Kd.int .i64) w A0_0 l0_0.length l0_0) (hc0_0 : l0_0.length ≤ c0_0) (hr0_1 : Kd.C (Kd.int .i64) w A0_1 l0_1.length l0_1) (hc0_1 : l0_1.length ≤ c0_1) (h : Z55.f k l0_0 l0_1 a1 = some (r1, r2, r3)) :
  Calls Try.prog 26 #[.agg #[.slice A0_0 l0_0.length c0_0, .slice A0_1 l0_1.length c0_1], .string a1] w fun e w' => ∃ v0_ v1_ : Value, e = .returned (.tuple #[.agg #[v0_, v1_], .bool r3]) ∧ Kd.R (Kd.int .i64) 3 w' w.heap.size (fun k_ => some k_ ≠ (v1_ : Value).ownBlock) v0_ r1 ∧ Kd.R (Kd.int .i64) 3 w' w.heap.size (fun k_ => some k_ ≠ (v0_ : Value).ownBlock) v1_ r2 ∧ Below w.heap.size w w' := by
 have hu25 := Try.underlying25
 have HR0_0 := A_ hr0_0
 have HC0_0 := A_ hc0_0
 clear hr0_0 hc0_0
 have HR0_1 := A_ hr0_1
 have HC0_1 := A_ hc0_1
 clear hr0_1 hc0_1
 have HB := A_ (Below.refl w.heap.size w)
 have H := h
 unfold Z55.f at H
 clear h
 have HC3 := A_ H
 clear H
 go_enter Try.func26, Try.ntmps26
 go_upto_region 1 with (first | ((with_reducible refine gB_ (N := 2) rfl ?_); refine bx_ 2 #[.slice A0_0 l0_0.length c0_0, .slice A0_1 l0_1.length c0_1] 25 ?_; intro gb624 hg w4 hbox hb; have BK624 := A_ hbox; have GW624 := gw_ w hg; have GE624 := GW624; replace HB := b1_ hb; clear hb hbox hg) | ((with_reducible refine gB_ (N := 4) rfl ?_); refine bx_ 4 #[.slice none 0 0, .slice none 0 0] 25 ?_; intro gb625 hg w5 hbox hb; have BK625 := A_ hbox; have GW625 := gw_ w hg; have GE625 := GW625; replace HB := b1_ hb; have NB624_625 := gN_ BK624 hg; have NB625_624 := gP_ BK624 hg; replace BK624 := bb_ BK624 hb; clear hb hbox hg))
 (try simp only [Act.put, sA_, sB_, sC_])
 go_cut [15] (fun v15 wc => ∃ (kq : Nat) (x15_2 : Bool), v15 = .bool x15_2 ∧ Aside0 (Z55.j0 kq a1 x15_2 l0_0 l0_1 = some (r1, r2, r3)) ∧ Aside0 (kq ≤ k) ∧ Aside0 (wc.heap[gb624]? = some (.cells #[(.slice A0_0 l0_0.length c0_0), (.slice A0_1 l0_1.length c0_1)] 25 (0, 0))) ∧ Aside0 (wc.heap[gb625]? = some (.cells #[(.slice none 0 0), (.slice none 0 0)] 25 (0, 0))) ∧ Aside0 (Below w.heap.size w wc))
 case first =>
  have H := HC3.out
  clear HC3
  obtain ⟨t626, A6, H⟩ := bi_ H
  by_cases c7 : t626 = true
  ·subst c7
   rw [if_pos rfl] at H
   obtain ⟨t627, A8, H⟩ := bi_ H
   have H' := A_ H
   clear H
   have hnb9 := NB624_625.out
   have hnc9 := NB625_624.out
   obtain ⟨hcz10_0, hcz10_1, hfz10_0, hfz10_1⟩ := c2_ BK624
   go_wp2_with (first | ((with_reducible refine gA_ (f := 66) rfl ?_); refine gL_ (some 9) Try.func66 #[.agg #[.slice A0_0 l0_0.length c0_0, .slice A0_1 l0_1.length c0_1]] rfl qa_ ?_; (with_reducible refine (Z31.calls k _ _ l0_0 _ _ l0_1 true _ (cb_ HR0_0) HC0_0.out (cb_ HR0_1) HC0_1.out A6.out).mono ?_); rintro e w11 ⟨rfl, hb⟩; refine ⟨_, rfl, ?_⟩; replace BK624 := bb_ BK624 hb; replace BK625 := bb_ BK625 hb; replace HB := b1_ hb; clear hb) | (go_at_call 73; (with_reducible refine (Z63.calls k a1 t627 _ A8.out).mono ?_); rintro e w12 ⟨rfl, hb⟩; replace BK624 := bb_ BK624 hb; replace BK625 := bb_ BK625 hb; replace HB := b1_ hb; clear hb))
   go_meet
   case rel => exact ⟨_, (!t627), qc_, H', ⟨qd_⟩, ⟨(kk_ BK624)⟩, ⟨(kk_ BK625)⟩, ⟨hB_⟩⟩
  ·replace c7 := Bool.eq_false_iff.mpr c7
   subst c7
   have H1 : (Z55.j0 k a1 true l0_0 l0_1) = some (r1, r2, r3) := by rw [if_neg (show ¬ (false = true) by decide)] at H; exact H
   clear H
   have H := H1
   clear H1
   have H' := A_ H
   clear H
   have hnb13 := NB624_625.out
   have hnc13 := NB625_624.out
   obtain ⟨hcz14_0, hcz14_1, hfz14_0, hfz14_1⟩ := c2_ BK624
   go_wp2_with (first | ((with_reducible refine gA_ (f := 66) rfl ?_); refine gL_ (some 9) Try.func66 #[.agg #[.slice A0_0 l0_0.length c0_0, .slice A0_1 l0_1.length c0_1]] rfl qa_ ?_; (with_reducible refine (Z31.calls k _ _ l0_0 _ _ l0_1 false _ (cb_ HR0_0) HC0_0.out (cb_ HR0_1) HC0_1.out A6.out).mono ?_); rintro e w15 ⟨rfl, hb⟩; refine ⟨_, rfl, ?_⟩; replace BK624 := bb_ BK624 hb; replace BK625 := bb_ BK625 hb; replace HB := b1_ hb; clear hb))
   go_meet
   case rel => exact ⟨_, (true), qc_, H', ⟨qd_⟩, ⟨(kk_ BK624)⟩, ⟨(kk_ BK625)⟩, ⟨hB_⟩⟩
 case rest =>
  clear HC3
  obtain ⟨kq, x15_2, rfl, HA, HJ2, BK624, BK625, HB⟩ := hcut
  cases kq with
  | zero => exact absurd HA.out (by simp [Z55.j0])
  | succ kj2 =>
   have H := HA.out
   clear HA
   simp only [Z55.j0] at H
   by_cases c16 : x15_2 = true
   ·subst c16
    rw [if_pos rfl] at H
    simp only [Option.some.injEq, Prod.mk.injEq] at H
    obtain ⟨rfl, rfl, rfl⟩ := H
    have hnb17 := NB625_624.out
    have hnc17 := NB624_625.out
    obtain ⟨hcz18_0, hcz18_1, hfz18_0, hfz18_1⟩ := c2_ BK625
    go_wp2
    refine bodyPost_ret (results_ct rfl _ _ gb625 25 #[.slice none 0 0, .slice none 0 0] (0, 0) _ rfl qp_ Try.underlying25 rfl (by kernel_rfl)) rfl ?_
    exact ⟨_, _, qb_, by first | exact Kd.R_nil _ _ _ _ _ | exact Kd.N_nil _ _ _ _ _ | exact Kd.V_nil _ _ _ _ _ | exact Kd.Q_nil _ _ _ _ _ | exact Kd.S_nil _ _ _ _ _, by first | exact Kd.R_nil _ _ _ _ _ | exact Kd.N_nil _ _ _ _ _ | exact Kd.V_nil _ _ _ _ _ | exact Kd.Q_nil _ _ _ _ _ | exact Kd.S_nil _ _ _ _ _, hB_⟩
   ·replace c16 := Bool.eq_false_iff.mpr c16
    subst c16
    have H1 : ((Z22.f l0_0 l0_1).bind fun bt628 => (Z55.l0 kj2 a1 0 bt628.1 bt628.2)) = some (r1, r2, r3) := by rw [if_neg (show ¬ (false = true) by decide)] at H; exact H
    clear H
    have H := H1
    clear H1
    obtain ⟨⟨t628, t631⟩, A19, H⟩ := bi_ H
    try dsimp only at H
    have H' := A_ H
    clear H
    have hnb20 := NB624_625.out
    have hnc20 := NB625_624.out
    obtain ⟨hcz21_0, hcz21_1, hfz21_0, hfz21_1⟩ := c2_ BK624
    go_wp2_with (first | ((with_reducible refine gA_ (f := 62) rfl ?_); refine gL_ (some 18) Try.func62 #[.agg #[.slice A0_0 l0_0.length c0_0, .slice A0_1 l0_1.length c0_1]] rfl qa_ ?_; (with_reducible refine (Z22.calls _ _ l0_0 _ _ l0_1 t628 t631 _ (cb_ HR0_0) HC0_0.out (cb_ HR0_1) HC0_1.out A19.out).mono ?_); rintro e w22 ⟨v629, v632, rfl, ho0, ho1, hb⟩; refine ⟨_, rfl, ?_⟩; have HO630 := rl_ w ho0; have HO633 := rl_ w ho1; replace BK624 := bb_ BK624 hb; replace BK625 := bb_ BK625 hb; replace HB := b1_ hb; clear hb ho0 ho1) | ((with_reducible refine gB_ (N := 6) rfl ?_); refine bx_ 6 #[.slice none 0 0, .slice none 0 0] 25 ?_; intro gb634 hg w23 hbox hb; replace HO630 := rb_ HO630 hb; replace HO633 := rb_ HO633 hb; have BK634 := A_ hbox; have GW634 := gw_ w hg; have GE634 := GW634; replace HB := b1_ hb; have NB624_634 := gN_ BK624 hg; have NB634_624 := gP_ BK624 hg; replace BK624 := bb_ BK624 hb; have NB625_634 := gN_ BK625 hg; have NB634_625 := gP_ BK625 hg; replace BK625 := bb_ BK625 hb; clear hb hbox hg; obtain ⟨Ao24, co24, eo24⟩ := Kd.R_slice HO630.out; subst eo24; have hnb25 := NB634_624.out; have hnc25 := NB624_634.out; have hnb26 := NB634_625.out; have hnc26 := NB625_634.out; obtain ⟨hcz27_0, hcz27_1, hfz27_0, hfz27_1⟩ := c2_ BK634; obtain ⟨Ao28, co28, eo28⟩ := Kd.R_slice HO633.out; subst eo28))
    go_loopg [7] kj2 (fun kq v7 w' => ∃ (x7_2 : Int) (x635000_2 : List Int) (x635001_2 : List Int) (u635000 : Value) (u635001 : Value), v7 = .int .i64 x7_2 ∧ Aside0 (Z55.l0 kq a1 x7_2 x635000_2 x635001_2 = some (r1, r2, r3)) ∧ Aside0 (kq ≤ kj2) ∧ Aside0 (Kd.R (Kd.int .i64) 3 w' w.heap.size (fun k_ => some k_ ≠ (u635001 : Value).ownBlock) u635000 x635000_2) ∧ Aside0 (Kd.R (Kd.int .i64) 3 w' w.heap.size (fun k_ => some k_ ≠ (u635000 : Value).ownBlock) u635001 x635001_2) ∧ Aside0 (w'.heap[gb624]? = some (.cells #[(.slice A0_0 l0_0.length c0_0), (.slice A0_1 l0_1.length c0_1)] 25 (0, 0))) ∧ Aside0 (w'.heap[gb625]? = some (.cells #[(.slice none 0 0), (.slice none 0 0)] 25 (0, 0))) ∧ Aside0 (w'.heap[gb634]? = some (.cells #[u635000, u635001] 25 (0, 0))) ∧ Aside0 (Below w.heap.size w w'))
    case atStart => exact ⟨(0), (t628), (t631), (.slice Ao24 t628.length co24), (.slice Ao28 t631.length co28), qc_, H', ⟨nA_ _⟩, ⟨(rw_ (fa_ HO630 BK634))⟩, ⟨(rw_ (fa_ HO633 BK634))⟩, ⟨by (with_reducible repeat (first | refine kA_ ?_ _ | refine kB_ ?_ | refine kC_ ?_ _)); refine blk_far ?_ NB624_634.out _; (with_reducible repeat (first | refine kA_ ?_ _ | refine kB_ ?_ | refine kC_ ?_ _)); refine blk_far ?_ NB624_634.out _; (with_reducible repeat (first | refine kA_ ?_ _ | refine kB_ ?_ | refine kC_ ?_ _)); exact BK624.out⟩, ⟨by (with_reducible repeat (first | refine kA_ ?_ _ | refine kB_ ?_ | refine kC_ ?_ _)); refine blk_far ?_ NB625_634.out _; (with_reducible repeat (first | refine kA_ ?_ _ | refine kB_ ?_ | refine kC_ ?_ _)); refine blk_far ?_ NB625_634.out _; (with_reducible repeat (first | refine kA_ ?_ _ | refine kB_ ?_ | refine kC_ ?_ _)); exact BK625.out⟩, ⟨qp_⟩, ⟨hB_⟩⟩
    case round =>
     clear H'
     obtain ⟨x7_2, x635000_2, x635001_2, u635000, u635001, rfl, HA, HK2, HO_635000, HO_635001, BK624, BK625, BK634, HB⟩ := hrel
     cases gk with
     | zero => exact absurd HA.out (by simp [Z55.l0])
     | succ k2 =>
      have H := HA.out
      clear HA
      simp only [Z55.l0] at H
      by_cases c29 : x7_2 < (a1.size : Int)
      ·rw [if_pos c29] at H
       have c29b0 := oC_ c29
       clear c29
       have c30 := cp_ H
       replace H := ca_ H
       have c30b0 := oC_ c30
       clear c30
       obtain ⟨⟨t635, t638⟩, A32, H⟩ := bi_ H
       try dsimp only at H
       have H' := A_ H
       clear H
       try go_wp2
       replace HO_635000 := A_ (rC_ HO_635000.out)
       replace HO_635001 := A_ (rC_ HO_635001.out)
       replace BK624 := A_ (kB_ BK624.out)
       replace BK625 := A_ (kB_ BK625.out)
       replace BK634 := A_ (kB_ BK634.out)
       replace HB := A_ (bC_ HB.out)
       have p31 : 0 ≤ (x7_2 : Int) := oB_ qe_
       have q31 : x7_2 < (a1.size : Int) := oB_ qe_
       have hx31 := bt_at a1 x7_2
       replace p31 := eq_true p31
       replace q31 := eq_true q31
       obtain ⟨Ao34, co34, eo34⟩ := Kd.R_slice HO_635000.out
       (first | subst eo34 | (injection eo34 with f1_ f2_ f3_; have f4_ := f1_.symm; have f5_ := f3_.symm; clear f1_ f2_ f3_; subst f4_; subst f5_))
       obtain ⟨Ao35, co35, eo35⟩ := Kd.R_slice HO_635001.out
       (first | subst eo35 | (injection eo35 with f1_ f2_ f3_; have f4_ := f1_.symm; have f5_ := f3_.symm; clear f1_ f2_ f3_; subst f4_; subst f5_))
       refine start_ (n := 6) (S := fun w' => w'.cell? ⟨gb634, 0, none⟩ = some (.slice Ao34 x635000_2.length co34) ∧ w'.cell? ⟨gb634, 1, none⟩ = some (.slice Ao35 x635001_2.length co35)) (ds := [5]) (bl_ 6 0) (by kernel_rfl) rfl (by kernel_rfl) ⟨cz0_ BK634, cz1_ BK634⟩ (fun hHeld => ?_)
       generalize wr.drew = w33 at HO_635000 HO_635001 BK624 BK625 BK634 HB hHeld ⊢
       refine pure_ (i := 1) (N := some 26) (v := ?_) (a' := ?_) (bl_ 6 2) rfl rfl (by kernel_rfl) (fun _ _ _ h => h) (Or.inl ⟨by rfl, ?_⟩) ?_ ?_
       rotate_left
       ·intro w'
        go_simp
        with_reducible rfl
       rotate_left
       ·simp only [Act.put, sA_, sB_, sC_, i64_w, i32_w]
        rfl
       refine pure_ (i := 2) (N := some 27) (v := ?_) (a' := ?_) (bl_ 6 6) rfl rfl (by kernel_rfl) (fun _ _ _ h => h) (Or.inl ⟨by rfl, ?_⟩) ?_ ?_
       rotate_left
       ·intro w'
        go_simp
        with_reducible rfl
       rotate_left
       ·simp only [Act.put, sA_, sB_, sC_, i64_w, i32_w]
        rfl
       refine take_ (i := 0) (N := some 25) (v := ?_) (a' := ?_) (bl_ 6 7) rfl rfl (by kernel_rfl) (fun _ _ _ h => h) (Or.inl ⟨by rfl, ?_⟩) hHeld ?_ ?_
       rotate_left
       ·rintro w' ⟨s0, s1⟩
        go_simp
        with_reducible rfl
       rotate_left
       ·simp only [Act.put, sA_, sB_, sC_, i64_w, i32_w]
        rfl
       refine take_ (i := 3) (N := some 28) (v := ?_) (a' := ?_) (bl_ 6 15) rfl rfl (by kernel_rfl) (fun _ _ _ h => h) (Or.inl ⟨by rfl, ?_⟩) hHeld ?_ ?_
       rotate_left
       ·rintro w' ⟨s0, s1⟩
        go_simp
        with_reducible rfl
       rotate_left
       ·simp only [Act.put, sA_, sB_, sC_, i64_w, i32_w]
        rfl
       refine one_ (i := 4) (N := some 29) (bl_ 6 31) rfl rfl (by kernel_rfl) (by decide) (fun K hK => ?_)
       refine gO_ Try.func63 #[.agg #[.slice Ao34 x635000_2.length co34, .slice Ao35 x635001_2.length co35], .int .u8 (bt a1 x7_2)] (by rfl) rfl rfl qa_ ?_
       with_reducible refine (Z10.calls k2 _ _ x635000_2 _ _ x635001_2 (bt a1 x7_2) t635 t638 _ (cr_ HO_635000) ((Kd.R_reads' HO_635000.out).2.1) (cr_ HO_635001) ((Kd.R_reads' HO_635001.out).2.1) A32.out).mono ?_
       rintro e w36 ⟨v636, v639, rfl, ho0, ho1, hb⟩
       refine ⟨_, rfl, ?_⟩
       have HO637 := A_ (rE_ (Kd.R_new' (Kd.R_new' ho0 (Kd.R_lt (rr_ HO_635000))) (Kd.R_lt (rr_ HO_635001))) (bF_ hB_))
       have HO640 := A_ (rE_ (Kd.R_new' (Kd.R_new' ho1 (Kd.R_lt (rr_ HO_635000))) (Kd.R_lt (rr_ HO_635001))) (bF_ hB_))
       replace HO_635000 := A_ (Kd.R_mono (Kd.R_told (Kd.R_told (Kd.R_old (rr_ HO_635000) hb) (Kd.R_base ho0)) (Kd.R_base ho1)) (fun _ h_ => h_.1))
       replace HO_635001 := A_ (Kd.R_mono (Kd.R_told (Kd.R_told (Kd.R_old (rr_ HO_635001) hb) (Kd.R_base ho0)) (Kd.R_base ho1)) (fun _ h_ => h_.1))
       replace BK624 := bb_ BK624 hb
       replace BK625 := bb_ BK625 hb
       replace BK634 := bb_ BK634 hb
       replace HB := b1_ hb
       clear hb ho0 ho1
       obtain ⟨Ao37, co37, eo37⟩ := Kd.R_slice HO637.out
       (first | subst eo37 | (injection eo37 with f1_ f2_ f3_; have f4_ := f1_.symm; have f5_ := f3_.symm; clear f1_ f2_ f3_; subst f4_; subst f5_))
       obtain ⟨Ao39, co39, eo39⟩ := Kd.R_slice HO640.out
       (first | subst eo39 | (injection eo39 with f1_ f2_ f3_; have f4_ := f1_.symm; have f5_ := f3_.symm; clear f1_ f2_ f3_; subst f4_; subst f5_))
       refine hK.out _ _ ⟨cz0_ BK634, cz1_ BK634⟩ (fun hHeld => ?_)
       clear hK K
       refine no_ (some 29) ?_
       refine last_ (i := 5) (N := none) (bl_ 6 63) rfl rfl (by kernel_rfl) (by decide) (fun K hK => ?_)
       have hs38 : w36.cell? ⟨gb634, 0, none⟩ = some (.slice Ao34 x635000_2.length co34) := cz0_ BK634
       have hfs38 := kD_ BK634.out 0
       have hns38_0 := NB624_634.out
       have hns38_1 := NB625_634.out
       have hms38_0 := NB634_624.out
       have hms38_1 := NB634_625.out
       have hs40 : w36.cell? ⟨gb634, 1, none⟩ = some (.slice Ao35 x635001_2.length co35) := cz1_ BK634
       have hfs40 := kD_ BK634.out 1
       have hns40_0 := NB624_634.out
       have hns40_1 := NB625_634.out
       have hms40_0 := NB634_624.out
       have hms40_1 := NB634_625.out
       refine skip_ (w1 := ?_) (by rfl) rfl ?_ ?_
       rotate_left
       ·go_simp
        rfl
       refine hK.out _ _ ?_
       clear hK K
       refine done_ (by kernel_rfl) ?_
       try go_wp2
       go_roundg k2
       case measure => have := HJ2.out; have := HK2.out; omega
       case rel => exact ⟨(wrap64 (x7_2 + 1)), (t635), (t638), (.slice Ao37 t635.length co37), (.slice Ao39 t638.length co39), qc_, H', ⟨by have := HJ2.out; have := HK2.out; omega⟩, ⟨(rw_ (Kd.R_mono (fa_ HO637 BK634) (fun _ hk => hk.1.1)))⟩, ⟨(rw_ (Kd.R_mono (fa_ HO640 BK634) (fun _ hk => hk.1.1)))⟩, ⟨by (with_reducible repeat (first | refine kA_ ?_ _ | refine kB_ ?_ | refine kC_ ?_ _)); refine blk_far ?_ NB624_634.out _; (with_reducible repeat (first | refine kA_ ?_ _ | refine kB_ ?_ | refine kC_ ?_ _)); refine blk_far ?_ NB624_634.out _; (with_reducible repeat (first | refine kA_ ?_ _ | refine kB_ ?_ | refine kC_ ?_ _)); exact BK624.out⟩, ⟨by (with_reducible repeat (first | refine kA_ ?_ _ | refine kB_ ?_ | refine kC_ ?_ _)); refine blk_far ?_ NB625_634.out _; (with_reducible repeat (first | refine kA_ ?_ _ | refine kB_ ?_ | refine kC_ ?_ _)); refine blk_far ?_ NB625_634.out _; (with_reducible repeat (first | refine kA_ ?_ _ | refine kB_ ?_ | refine kC_ ?_ _)); exact BK625.out⟩, ⟨qp_⟩, ⟨hB_⟩⟩
      ·rw [if_neg c29] at H
       have c29b0 := oD_ c29
       clear c29
       simp only [Option.some.injEq, Prod.mk.injEq] at H
       obtain ⟨rfl, rfl, rfl⟩ := H
       have hnb41 := NB634_624.out
       have hnc41 := NB624_634.out
       have hnb42 := NB634_625.out
       have hnc42 := NB625_634.out
       obtain ⟨hcz43_0, hcz43_1, hfz43_0, hfz43_1⟩ := c2_ BK634
       obtain ⟨Ao44, co44, eo44⟩ := Kd.R_slice HO_635000.out
       subst eo44
       have hnb45 := NB625_624.out
       have hnc45 := NB624_625.out
       obtain ⟨hcz46_0, hcz46_1, hfz46_0, hfz46_1⟩ := c2_ BK625
       obtain ⟨Ao47, co47, eo47⟩ := Kd.R_slice HO_635001.out
       subst eo47
       go_wp2
       refine bodyPost_ret (results_ct rfl _ _ gb625 25 #[.slice Ao44 x635000_2.length co44, .slice Ao47 x635001_2.length co47] (0, 0) _ rfl qp_ Try.underlying25 rfl (by kernel_rfl)) rfl ?_
       exact ⟨_, _, qb_, (rw_ (fa_ HO_635000 BK625)), (rw_ (fa_ HO_635001 BK625)), hB_⟩
end Go.Proofs.Ytcggfjpnfodbaaa.A
end
section
namespace Go.Proofs.Ytcggfjpnfodbaaa.A
open Go.RowKit Go.Proofs.YtcggfjpnfodbaaaW.PrintWords Go.Proofs.YtcggfjpnfodbaaaW.PrintLast Go.Proofs.YtcggfjpnfodbaaaW.PrintMore
attribute [local go_sem] max2_int min2_int max_two min_two max_three min_three max_four min_four
set_option linter.unusedVariables false
set_option linter.unusedSimpArgs false
def Z29.f (k : Nat) (l0_0 : List Int) (l0_1 : List Int) (a1 : ByteArray) : Option (Bool) := (Z55.f k l0_0 l0_1 a1).bind fun bt1258 => (if bt1258.2.2 = true then ((Z6.f k bt1258.1 bt1258.2.1 l0_0 l0_1).bind fun t1266 => (some t1266)) else (some false))
theorem Z29.mono : ∀ a0 a1 a2 k, LeO (Z29.f k a0 a1 a2) (Z29.f (k + 1) a0 a1 a2) := by
 intro a0 a1 a2 k
 unfold Z29.f
 repeat' first|exact Z6.mono _ _ _ _ _|exact Z55.mono _ _ _ _|exact lo_|refine LeO.ite ?_ ?_|refine LeO.bind ?_ (fun _ => ?_)
set_option maxHeartbeats 8000000 in
set_option maxRecDepth 100000 in
theorem Z29.calls (k : Nat) (A0_0 : Option Addr) (c0_0 : Nat) (l0_0 : List Int) (A0_1 : Option Addr) (c0_1 : Nat) (l0_1 : List Int) (a1 : ByteArray) (r : Bool) (w : World) (hr0_0 : Kd.C (Kd.int .i64) w A0_0 l0_0.length l0_0) (hc0_0 : l0_0.length ≤ c0_0) (hr0_1 : Kd.C (Kd.int .i64) w A0_1 l0_1.length l0_1) (hc0_1 : l0_1.length ≤ c0_1) (h : Z29.f k l0_0 l0_1 a1 = some r) :
  Calls Try.prog 123 #[.agg #[.slice A0_0 l0_0.length c0_0, .slice A0_1 l0_1.length c0_1], .string a1] w fun e w' => e = .returned (.bool r) ∧ Below w.heap.size w w' := by
 have hu25 := Try.underlying25
 have HR0_0 := A_ hr0_0
 have HC0_0 := A_ hc0_0
 clear hr0_0 hc0_0
 have HR0_1 := A_ hr0_1
 have HC0_1 := A_ hc0_1
 clear hr0_1 hc0_1
 have HB := A_ (Below.refl w.heap.size w)
 have H := h
 unfold Z29.f at H
 clear h
 obtain ⟨⟨t1258, t1261, t1264⟩, A3, H⟩ := bi_ H
 try dsimp only at H
 by_cases c4 : t1264 = true
 ·subst c4
  rw [if_pos rfl] at H
  obtain ⟨t1266, A5, H⟩ := bi_ H
  obtain rfl := Option.some.inj H
  go_enter Try.func123, Try.ntmps123
  go_wp2_with (first | ((with_reducible refine gB_ (N := 2) rfl ?_); refine bx_ 2 #[.slice A0_0 l0_0.length c0_0, .slice A0_1 l0_1.length c0_1] 25 ?_; intro gb1257 hg w6 hbox hb; have BK1257 := A_ hbox; have GW1257 := gw_ w hg; have GE1257 := GW1257; replace HB := b1_ hb; clear hb hbox hg; obtain ⟨hcz7_0, hcz7_1, hfz7_0, hfz7_1⟩ := c2_ BK1257) | ((with_reducible refine gA_ (f := 26) rfl ?_); refine gL_ (some 10) Try.func26 #[.agg #[.slice A0_0 l0_0.length c0_0, .slice A0_1 l0_1.length c0_1], .string a1] rfl qa_ ?_; (with_reducible refine (Z55.calls k _ _ l0_0 _ _ l0_1 a1 t1258 t1261 true _ (cb_ HR0_0) HC0_0.out (cb_ HR0_1) HC0_1.out A3.out).mono ?_); rintro e w8 ⟨v1259, v1262, rfl, ho0, ho1, hb⟩; refine ⟨_, rfl, ?_⟩; have HO1260 := rl_ w ho0; have HO1263 := rl_ w ho1; replace BK1257 := bb_ BK1257 hb; replace HB := b1_ hb; clear hb ho0 ho1) | ((with_reducible refine gB_ (N := 5) rfl ?_); refine bx_ 5 #[.slice none 0 0, .slice none 0 0] 25 ?_; intro gb1265 hg w9 hbox hb; replace HO1260 := rb_ HO1260 hb; replace HO1263 := rb_ HO1263 hb; have BK1265 := A_ hbox; have GW1265 := gw_ w hg; have GE1265 := GW1265; replace HB := b1_ hb; have NB1257_1265 := gN_ BK1257 hg; have NB1265_1257 := gP_ BK1257 hg; replace BK1257 := bb_ BK1257 hb; clear hb hbox hg; obtain ⟨Ao10, co10, eo10⟩ := Kd.R_slice HO1260.out; subst eo10; have hnb11 := NB1265_1257.out; have hnc11 := NB1257_1265.out; obtain ⟨hcz12_0, hcz12_1, hfz12_0, hfz12_1⟩ := c2_ BK1265; obtain ⟨Ao13, co13, eo13⟩ := Kd.R_slice HO1263.out; subst eo13; obtain ⟨hcz14_0, hcz14_1, hfz14_0, hfz14_1⟩ := c2_ BK1257) | (go_at_call 21; (with_reducible refine (Z6.calls k _ _ t1258 _ _ t1261 _ _ l0_0 _ _ l0_1 t1266 _ ?side1 ?side2 ?side3 ?side4 ?side5 ?side6 ?side7 ?side8 A5.out).mono ?_); (case side1 => refine (Kd.R_reads' (e := 3) (base := w.heap.size) (ok := fun k_ => some k_ ≠ (.slice Ao13 t1261.length co13 : Value).ownBlock) (n := t1258.length) (c := co10) ?_).2.2; exact (rw_ (fa_ HO1260 BK1265))); (case side2 => exact (Kd.R_reads' HO1260.out).2.1); (case side3 => refine (Kd.R_reads' (e := 3) (base := w.heap.size) (ok := fun k_ => some k_ ≠ (.slice Ao10 t1258.length co10 : Value).ownBlock) (n := t1261.length) (c := co13) ?_).2.2; exact (rw_ (fa_ HO1263 BK1265))); (case side4 => exact (Kd.R_reads' HO1263.out).2.1); (case side5 => exact cD_ HR0_0.out hB_); (case side6 => exact HC0_0.out); (case side7 => exact cD_ HR0_1.out hB_); (case side8 => exact HC0_1.out); rintro e w15 ⟨rfl, hb⟩; replace HO1260 := A_ (rD_ (rw_ (fa_ HO1260 BK1265)) hb); replace HO1263 := A_ (rD_ (rw_ (fa_ HO1263 BK1265)) hb); replace BK1257 := A_ (kE_ (g := gb1257) (o := .cells #[.slice A0_0 l0_0.length c0_0, .slice A0_1 l0_1.length c0_1] 25 (0, 0)) (by (with_reducible repeat (first | refine kA_ ?_ _ | refine kB_ ?_ | refine kC_ ?_ _)); refine blk_far ?_ NB1257_1265.out _; (with_reducible repeat (first | refine kA_ ?_ _ | refine kB_ ?_ | refine kC_ ?_ _)); refine blk_far ?_ NB1257_1265.out _; (with_reducible repeat (first | refine kA_ ?_ _ | refine kB_ ?_ | refine kC_ ?_ _)); exact BK1257.out) hb); replace BK1265 := A_ (kE_ (g := gb1265) (o := .cells #[.slice Ao10 t1258.length co10, .slice Ao13 t1261.length co13] 25 (0, 0)) qp_ hb); replace HB := b1_ hb; clear hb))
  go_ret
  exact ⟨qb_, hB_⟩
 ·replace c4 := Bool.eq_false_iff.mpr c4
  subst c4
  have H1 : (some false) = some r := by rw [if_neg (show ¬ (false = true) by decide)] at H; exact H
  clear H
  have H := H1
  clear H1
  obtain rfl := Option.some.inj H
  go_enter Try.func123, Try.ntmps123
  go_wp2_with (first | ((with_reducible refine gB_ (N := 2) rfl ?_); refine bx_ 2 #[.slice A0_0 l0_0.length c0_0, .slice A0_1 l0_1.length c0_1] 25 ?_; intro gb1257 hg w16 hbox hb; have BK1257 := A_ hbox; have GW1257 := gw_ w hg; have GE1257 := GW1257; replace HB := b1_ hb; clear hb hbox hg; obtain ⟨hcz17_0, hcz17_1, hfz17_0, hfz17_1⟩ := c2_ BK1257) | ((with_reducible refine gA_ (f := 26) rfl ?_); refine gL_ (some 10) Try.func26 #[.agg #[.slice A0_0 l0_0.length c0_0, .slice A0_1 l0_1.length c0_1], .string a1] rfl qa_ ?_; (with_reducible refine (Z55.calls k _ _ l0_0 _ _ l0_1 a1 t1258 t1261 false _ (cb_ HR0_0) HC0_0.out (cb_ HR0_1) HC0_1.out A3.out).mono ?_); rintro e w18 ⟨v1259, v1262, rfl, ho0, ho1, hb⟩; refine ⟨_, rfl, ?_⟩; have HO1260 := rl_ w ho0; have HO1263 := rl_ w ho1; replace BK1257 := bb_ BK1257 hb; replace HB := b1_ hb; clear hb ho0 ho1) | ((with_reducible refine gB_ (N := 5) rfl ?_); refine bx_ 5 #[.slice none 0 0, .slice none 0 0] 25 ?_; intro gb1265 hg w19 hbox hb; replace HO1260 := rb_ HO1260 hb; replace HO1263 := rb_ HO1263 hb; have BK1265 := A_ hbox; have GW1265 := gw_ w hg; have GE1265 := GW1265; replace HB := b1_ hb; have NB1257_1265 := gN_ BK1257 hg; have NB1265_1257 := gP_ BK1257 hg; replace BK1257 := bb_ BK1257 hb; clear hb hbox hg; obtain ⟨Ao20, co20, eo20⟩ := Kd.R_slice HO1260.out; subst eo20; have hnb21 := NB1265_1257.out; have hnc21 := NB1257_1265.out; obtain ⟨hcz22_0, hcz22_1, hfz22_0, hfz22_1⟩ := c2_ BK1265; obtain ⟨Ao23, co23, eo23⟩ := Kd.R_slice HO1263.out; subst eo23))
  go_ret
  exact ⟨qb_, hB_⟩
def Z16.l0 (k : Nat) (wd : ByteArray) : List S25 → Int → Option Int
 | [], n => some n
 | x :: xs, n => (Z29.f k x.f0 x.f1 wd).bind fun b => if b = true then Z16.l0 k wd xs (wrap64 (n + 1)) else Z16.l0 k wd xs n
def Z16.f (k : Nat) (r u : List Int) (wd : ByteArray) : Option Int := (M.orbitO k r u).bind fun z => match z with | none => some (-1) | some s => if s.L.length < 4611686018427387904 then Z16.l0 k wd s.L 0 else none
theorem Z16.mono_l (k : Nat) (wd : ByteArray) : ∀ (l : List S25) (n : Int), LeO (Z16.l0 k wd l n) (Z16.l0 (k + 1) wd l n) := by
 intro l
 induction l with
 | nil => intro n; exact LeO.refl _
 | cons x l ih =>
  intro n
  unfold Z16.l0
  exact LeO.bind (Z29.mono _ _ _ _) (fun b => LeO.ite (ih _) (ih _))
theorem Z16.mono : ∀ a0 a1 a2 k, LeO (Z16.f k a0 a1 a2) (Z16.f (k + 1) a0 a1 a2) := by
 intro a0 a1 a2 k
 unfold Z16.f
 refine LeO.bind (M.orbitO_mono _ _ _) (fun z => ?_)
 cases z with
 | none => exact LeO.refl _
 | some s => exact LeO.ite (Z16.mono_l _ _ _ _) (LeO.refl _)
set_option maxHeartbeats 8000000 in
set_option maxRecDepth 100000 in
theorem Z16.calls (k : Nat) (A0_0 : Option Addr) (c0_0 : Nat) (l0_0 : List Int) (A0_1 : Option Addr) (c0_1 : Nat) (l0_1 : List Int) (a1 : ByteArray) (r : Int) (w : World) (hr0_0 : Kd.C (Kd.int .i64) w A0_0 l0_0.length l0_0) (hc0_0 : l0_0.length ≤ c0_0) (hr0_1 : Kd.C (Kd.int .i64) w A0_1 l0_1.length l0_1) (hc0_1 : l0_1.length ≤ c0_1) (h : Z16.f k l0_0 l0_1 a1 = some r) :
  Calls Try.prog 86 #[.agg #[.slice A0_0 l0_0.length c0_0, .slice A0_1 l0_1.length c0_1], .string a1] w fun e w' => e = .returned (.int .i64 r) ∧ Below w.heap.size w w' := by
 have hu := Try.underlying25
 have HR0_0 := A_ hr0_0; have HC0_0 := A_ hc0_0; clear hr0_0 hc0_0
 have HR0_1 := A_ hr0_1; have HC0_1 := A_ hc0_1; clear hr0_1 hc0_1
 have HB := A_ (Below.refl w.heap.size w)
 have H := h
 unfold Z16.f at H
 clear h
 obtain ⟨z, AZ, H⟩ := bi_ H
 cases z with
 | none =>
  obtain rfl := Option.some.inj H
  go_enter Try.func86, Try.ntmps86
  go_wp2_with (first | ((with_reducible refine gB_ (N := 2) rfl ?_); refine bx_ 2 #[.slice A0_0 l0_0.length c0_0, .slice A0_1 l0_1.length c0_1] 25 ?_; intro gs hg wgs hbox hb; have Bgs := A_ hbox; replace HB := b1_ hb; clear hb hbox hg; have hczgs0 := cz0_ Bgs; have hczgs1 := cz1_ Bgs; have hfzgs0 := kD_ Bgs.out 0; have hfzgs1 := kD_ Bgs.out 1) | ((with_reducible refine gA_ (f := 59) rfl ?_); refine gL_ (some 12) Try.func59 #[.agg #[.slice A0_0 l0_0.length c0_0, .slice A0_1 l0_1.length c0_1]] rfl qa_ ?_; (with_reducible refine (M.orbit_calls k _ _ l0_0 _ _ l0_1 none _ (cb_ HR0_0) HC0_0.out (cb_ HR0_1) HC0_1.out AZ.out).mono ?_); rintro e wz ⟨rfl, hb⟩; refine ⟨_, rfl, ?_⟩; replace HB := b1_ hb; clear hb))
  go_ret
  exact ⟨qb_, hB_⟩
 | some s =>
  dsimp only at H
  have hsm := cp_ H
  replace H := ca_ H
  have H' := A_ (show Z16.l0 k a1 (s.L.drop 0) 0 = some r from H)
  clear H
  go_enter Try.func86, Try.ntmps86
  go_upto_region 5 with (first | ((with_reducible refine gB_ (N := 2) rfl ?_); refine bx_ 2 #[.slice A0_0 l0_0.length c0_0, .slice A0_1 l0_1.length c0_1] 25 ?_; intro gs hg wgs hbox hb; have Bgs := A_ hbox; replace HB := b1_ hb; clear hb hbox hg; have hczgs0 := cz0_ Bgs; have hczgs1 := cz1_ Bgs; have hfzgs0 := kD_ Bgs.out 0; have hfzgs1 := kD_ Bgs.out 1) | ((with_reducible refine gA_ (f := 59) rfl ?_); refine gL_ (some 12) Try.func59 #[.agg #[.slice A0_0 l0_0.length c0_0, .slice A0_1 l0_1.length c0_1]] rfl qa_ ?_; (with_reducible refine (M.orbit_calls k _ _ l0_0 _ _ l0_1 (some s) _ (cb_ HR0_0) HC0_0.out (cb_ HR0_1) HC0_1.out AZ.out).mono ?_); rintro e wz ⟨gO, gM, nm_, col, vL, vW, vF, vB, vT, vS, rfl, hh, hb⟩; refine ⟨_, rfl, ?_⟩; replace HB := b1_ hb; have HH := A_ hh; clear hb hh; obtain ⟨AL, cL, eL⟩ := Kd.S_slice HH.out.hL; subst eL; obtain ⟨AW, cW, eW⟩ := Kd.R_slice HH.out.hW; subst eW; have hco0 : wz.cell? ⟨gO, 0, none⟩ = some (.slice AL s.L.length cL) := (blk_cell HH.out.hO 0).trans rfl; have hco1 : wz.cell? ⟨gO, 1, none⟩ = some (.slice AW s.W.length cW) := (blk_cell HH.out.hO 1).trans rfl; have hfo0 := kD_ HH.out.hO 0; have hfo1 := kD_ HH.out.hO 1))
  have hLr := (Kd.S_reads' HH.out.hL).2
  have RL := A_ hLr
  clear hLr
  go_wp2
  go_loopg [7, 22] s.L.length (fun gg v7 v22 wr => ∃ (n : Int) (kk : Nat), v7 = .int .i64 n ∧ v22 = .int .i64 kk ∧ Aside0 (kk ≤ s.L.length) ∧ Aside0 (s.L.length - kk ≤ gg) ∧ Aside0 (Z16.l0 k a1 (s.L.drop kk) n = some r) ∧ Aside0 (s.L.length ≤ cL ∧ Kd.C k25 wr AL s.L.length s.L) ∧ Aside0 (Below w.heap.size w wr))
  case atStart => exact ⟨0, 0, rfl, rfl, ⟨Nat.zero_le _⟩, ⟨by omega⟩, H', RL, HB⟩
  case round =>
   clear H' HB RL HH hco0 hco1 hfo0 hfo1
   obtain ⟨n, kk, rfl, rfl, HK, HG, HA, RL, HB⟩ := hrel
   by_cases hlt : kk < s.L.length
   ·have hltz : (kk : Int) < (s.L.length : Int) := by omega
    have h0z : (0 : Int) ≤ (kk : Int) := Int.natCast_nonneg kk
    have H := HA.out
    clear HA
    have hdr : s.L.drop kk = rd_T25 s.L (kk : Int) :: s.L.drop (kk + 1) := by
     rw [List.drop_eq_getElem_cons hlt]
     congr 1
     simp [rd_T25, hlt]
    rw [hdr] at H
    simp only [Z16.l0] at H
    clear hdr
    obtain ⟨b, Hb, H⟩ := bi_ H
    obtain ⟨ad1, A1, c1, A2, c2, e1, hx1, hx2, hl1, hi1, hl2, hi2⟩ := at_T25 RL.out.2 (kk : Int) h0z hltz
    cases e1
    rw [show ((kk : Int)).toNat = kk from rfl] at hx1 hx2
    have HI1 := A_ hi1
    have HI2 := A_ hi2
    have HL1 := A_ hl1
    have HL2 := A_ hl2
    clear hi1 hi2 hl1 hl2
    cases b with
    | true =>
     rw [if_pos rfl] at H
     have H2 := A_ H
     clear H
     have tj0 := eq_true h0z
     have tjw := eq_true hltz
     have tjd := oC_ hltz
     go_upto_region 8 with (first | ((with_reducible refine gB_ (N := 9) rfl ?_); refine bx_ 9 #[.slice none 0 0, .slice none 0 0] 25 ?_; intro gx hg wx hbox hb; have GX := A_ (show wr.heap.size ≤ gx from Nat.le_of_eq hg.symm); have BX := A_ hbox; have B3 := A_ hb; clear hb hbox hg; have hcf0 := cz0_ BX; have hcf1 := cz1_ BX; have hff0 := kD_ BX.out 0; have hff1 := kD_ BX.out 1))
     obtain ⟨hbox, hkp, hB2⟩ := M.box_store (w0 := wr) BX.out (.slice A1 (rd_T25 s.L (kk : Int)).f0.length c1) (.slice A2 (rd_T25 s.L (kk : Int)).f1.length c2) B3.out GX.out
     generalize hw : ((wx.setCell ⟨gx, 0, none⟩ (.slice A1 (rd_T25 s.L (kk : Int)).f0.length c1)).setCell ⟨gx, 1, none⟩ (.slice A2 (rd_T25 s.L (kk : Int)).f1.length c2)) = wv at hbox hkp hB2 ⊢
     clear hw hcf0 hcf1 hff0 hff1
     replace HI1 := A_ (cD_ HI1.out hB2)
     replace HI2 := A_ (cD_ HI2.out hB2)
     replace RL := A_ (And.intro RL.out.1 (cD_ RL.out.2 hB2))
     replace HB := A_ (bE_ HB.out hB2)
     replace BX := A_ (show wv.heap[gx]? = some (.cells #[.slice A1 (rd_T25 s.L (kk : Int)).f0.length c1, .slice A2 (rd_T25 s.L (kk : Int)).f1.length c2] 25 (0, 0)) from hbox)
     clear hbox hkp hB2 B3 hx1 hx2
     obtain ⟨hcx0, hcx1, hfx0, hfx1⟩ := c2_ BX
     go_wp2_with (first | (go_at_call 123; (with_reducible refine (Z29.calls k _ _ (rd_T25 s.L (kk : Int)).f0 _ _ (rd_T25 s.L (kk : Int)).f1 a1 true _ HI1.out HL1.out HI2.out HL2.out Hb.out).mono ?_); rintro e wj ⟨rfl, hb⟩; replace RL := A_ (And.intro RL.out.1 (cD_ RL.out.2 hb)); replace HB := b1_ hb; clear hb))
     go_roundg (s.L.length - (kk + 1))
     case measure => have := HG.out; omega
     case rel => exact ⟨(wrap64 (n + 1)), kk + 1, rfl, by congr 1, ⟨by omega⟩, ⟨by omega⟩, H2, RL, HB⟩
    | false =>
     rw [if_neg (by decide)] at H
     have H2 := A_ H
     clear H
     have tj0 := eq_true h0z
     have tjw := eq_true hltz
     have tjd := oC_ hltz
     go_upto_region 8 with (first | ((with_reducible refine gB_ (N := 9) rfl ?_); refine bx_ 9 #[.slice none 0 0, .slice none 0 0] 25 ?_; intro gx hg wx hbox hb; have GX := A_ (show wr.heap.size ≤ gx from Nat.le_of_eq hg.symm); have BX := A_ hbox; have B3 := A_ hb; clear hb hbox hg; have hcf0 := cz0_ BX; have hcf1 := cz1_ BX; have hff0 := kD_ BX.out 0; have hff1 := kD_ BX.out 1))
     obtain ⟨hbox, hkp, hB2⟩ := M.box_store (w0 := wr) BX.out (.slice A1 (rd_T25 s.L (kk : Int)).f0.length c1) (.slice A2 (rd_T25 s.L (kk : Int)).f1.length c2) B3.out GX.out
     generalize hw : ((wx.setCell ⟨gx, 0, none⟩ (.slice A1 (rd_T25 s.L (kk : Int)).f0.length c1)).setCell ⟨gx, 1, none⟩ (.slice A2 (rd_T25 s.L (kk : Int)).f1.length c2)) = wv at hbox hkp hB2 ⊢
     clear hw hcf0 hcf1 hff0 hff1
     replace HI1 := A_ (cD_ HI1.out hB2)
     replace HI2 := A_ (cD_ HI2.out hB2)
     replace RL := A_ (And.intro RL.out.1 (cD_ RL.out.2 hB2))
     replace HB := A_ (bE_ HB.out hB2)
     replace BX := A_ (show wv.heap[gx]? = some (.cells #[.slice A1 (rd_T25 s.L (kk : Int)).f0.length c1, .slice A2 (rd_T25 s.L (kk : Int)).f1.length c2] 25 (0, 0)) from hbox)
     clear hbox hkp hB2 B3 hx1 hx2
     obtain ⟨hcx0, hcx1, hfx0, hfx1⟩ := c2_ BX
     go_wp2_with (first | (go_at_call 123; (with_reducible refine (Z29.calls k _ _ (rd_T25 s.L (kk : Int)).f0 _ _ (rd_T25 s.L (kk : Int)).f1 a1 false _ HI1.out HL1.out HI2.out HL2.out Hb.out).mono ?_); rintro e wj ⟨rfl, hb⟩; replace RL := A_ (And.intro RL.out.1 (cD_ RL.out.2 hb)); replace HB := b1_ hb; clear hb))
     go_roundg (s.L.length - (kk + 1))
     case measure => have := HG.out; omega
     case rel => exact ⟨n, kk + 1, rfl, by congr 1, ⟨by omega⟩, ⟨by omega⟩, H2, RL, HB⟩
   ·have hltz : ¬ (kk : Int) < (s.L.length : Int) := by omega
    have H := HA.out
    rw [List.drop_eq_nil_of_le (by omega)] at H
    simp only [Z16.l0] at H
    obtain rfl := Option.some.inj H
    clear H
    go_wp2
    go_ret
    exact ⟨rfl, HB.out⟩
def Z8.f (k : Nat) (l0_0 : List Int) (l0_1 : List Int) : Option (Int) := (Z16.f k l0_0 l0_1 (⟨#[84, 83]⟩ : ByteArray)).bind fun t1268 => (some t1268)
theorem Z8.mono : ∀ a0 a1 k, LeO (Z8.f k a0 a1) (Z8.f (k + 1) a0 a1) := by
 intro a0 a1 k
 unfold Z8.f
 repeat' first|exact Z16.mono _ _ _ _|exact lo_|refine LeO.ite ?_ ?_|refine LeO.bind ?_ (fun _ => ?_)
set_option maxHeartbeats 8000000 in
set_option maxRecDepth 100000 in
theorem Z8.calls (k : Nat) (A0_0 : Option Addr) (c0_0 : Nat) (l0_0 : List Int) (A0_1 : Option Addr) (c0_1 : Nat) (l0_1 : List Int) (r : Int) (w : World) (hr0_0 : Kd.C (Kd.int .i64) w A0_0 l0_0.length l0_0) (hc0_0 : l0_0.length ≤ c0_0) (hr0_1 : Kd.C (Kd.int .i64) w A0_1 l0_1.length l0_1) (hc0_1 : l0_1.length ≤ c0_1) (h : Z8.f k l0_0 l0_1 = some r) :
  Calls Try.prog 45 #[.agg #[.slice A0_0 l0_0.length c0_0, .slice A0_1 l0_1.length c0_1]] w fun e w' => e = .returned (.int .i64 r) ∧ Below w.heap.size w w' := by
 have hu25 := Try.underlying25
 have HR0_0 := A_ hr0_0
 have HC0_0 := A_ hc0_0
 clear hr0_0 hc0_0
 have HR0_1 := A_ hr0_1
 have HC0_1 := A_ hc0_1
 clear hr0_1 hc0_1
 have HB := A_ (Below.refl w.heap.size w)
 have H := h
 unfold Z8.f at H
 clear h
 obtain ⟨t1268, A2, H⟩ := bi_ H
 obtain rfl := Option.some.inj H
 go_enter Try.func45, Try.ntmps45
 go_wp2_with (first | ((with_reducible refine gB_ (N := 1) rfl ?_); refine bx_ 1 #[.slice A0_0 l0_0.length c0_0, .slice A0_1 l0_1.length c0_1] 25 ?_; intro gb1267 hg w3 hbox hb; have BK1267 := A_ hbox; have GW1267 := gw_ w hg; have GE1267 := GW1267; replace HB := b1_ hb; clear hb hbox hg; obtain ⟨hcz4_0, hcz4_1, hfz4_0, hfz4_1⟩ := c2_ BK1267) | ((with_reducible refine gA_ (f := 86) rfl ?_); refine gL_ (some 4) Try.func86 #[.agg #[.slice A0_0 l0_0.length c0_0, .slice A0_1 l0_1.length c0_1], .string (⟨#[84, 83]⟩ : ByteArray)] rfl qa_ ?_; (with_reducible refine (Z16.calls k _ _ l0_0 _ _ l0_1 (⟨#[84, 83]⟩ : ByteArray) t1268 _ (cb_ HR0_0) HC0_0.out (cb_ HR0_1) HC0_1.out A2.out).mono ?_); rintro e w5 ⟨rfl, hb⟩; refine ⟨_, rfl, ?_⟩; replace BK1267 := bb_ BK1267 hb; replace HB := b1_ hb; clear hb))
 go_ret
 exact ⟨qb_, hB_⟩
end Go.Proofs.Ytcggfjpnfodbaaa.A
end
section
namespace Go.Proofs.Ytcggfjpnfodbaaa.A
open Go.RowKit Go.Proofs.YtcggfjpnfodbaaaW.PrintWords Go.Proofs.YtcggfjpnfodbaaaW.PrintLast Go.Proofs.YtcggfjpnfodbaaaW.PrintMore Go.Proofs.Ytcggfjpnfodbaaa.M
set_option linter.unusedVariables false
set_option linter.unusedSimpArgs false
def Z0.F (k : Nat) (l0_0 : List Int) (l0_1 : List Int) : Prop := ∃ s0 : Int, Z34.f l0_0 l0_1 1048576 = some s0 ∧ (s0 < 0 ∨ (¬ s0 < 0 ∧ (∃ (r0 : Int), Z35.f k l0_0 l0_1 = some (l0_0, l0_1) ∧ Z33.f k l0_0 l0_1 l0_0 l0_1 = some true ∧ Z12.f k l0_0 l0_1 = some r0 ∧ Z8.f k l0_0 l0_1 = some r0)))
set_option maxHeartbeats 8000000 in
set_option maxRecDepth 100000 in
theorem Z0.calls (k : Nat) (A0_0 : Option Addr) (c0_0 : Nat) (l0_0 : List Int) (A0_1 : Option Addr) (c0_1 : Nat) (l0_1 : List Int) (w : World) (hr0_0 : Kd.C (Kd.int .i64) w A0_0 l0_0.length l0_0) (hc0_0 : l0_0.length ≤ c0_0) (hr0_1 : Kd.C (Kd.int .i64) w A0_1 l0_1.length l0_1) (hc0_1 : l0_1.length ≤ c0_1) (h : Z0.F k l0_0 l0_1) :
  Calls Try.prog 10 #[.agg #[.slice A0_0 l0_0.length c0_0, .slice A0_1 l0_1.length c0_1]] w fun e w' => e = .returned (.bool true) ∧ Below w.heap.size w w' := by
 have hu25 := Try.underlying25
 have hu44 := Try.underlying44
 have HR0_0 := A_ hr0_0; have HC0_0 := A_ hc0_0; clear hr0_0 hc0_0
 have HR0_1 := A_ hr0_1; have HC0_1 := A_ hc0_1; clear hr0_1 hc0_1
 have HB := A_ (Below.refl w.heap.size w)
 unfold Z0.F at h
 obtain ⟨s0, FZ0, h⟩ := h
 replace FZ0 := A_ FZ0
 rcases h with hneg | ⟨hneg, h⟩
 ·have hq0 : decide (s0 < 0) = true := oC_ hneg
  go_enter Try.func10, Try.ntmps10
  go_upto_region 2 with (first | ((with_reducible refine gB_ (N := 1) rfl ?_); refine bx_ 1 #[.slice A0_0 l0_0.length c0_0, .slice A0_1 l0_1.length c0_1] 44 ?_; intro gbp0 hg w1 hbox hb; have HBo := HB.out; have n_ := A_ (below_then HBo HBo.size hb); clear HB; have HB := n_; clear n_; have HSw1 := A_ hb.size; have BKp0 := A_ hbox; have GIp0 := A_ (show w.heap.size ≤ gbp0 ∧ gbp0 < w1.heap.size from ⟨by omega, blk_lt hbox⟩); have GEp0 := A_ (show w.heap.size ≤ gbp0 from by have := HBo.size; omega); clear hb hbox hg HBo; obtain ⟨hczp0_0, hczp0_1, hfzp0_0, hfzp0_1⟩ := c2_ BKp0))
  go_wp2_with (first | ((with_reducible refine gA_ (f := 31) rfl ?_); refine goesL_ _ rfl rfl Try.func31 (by kernel_rfl) rfl #[.agg #[.slice A0_0 l0_0.length c0_0, .slice A0_1 l0_1.length c0_1], .int .i64 1048576] rfl (by (try simp only [mA_, mB_, mC_]); first | done | rfl) ?_; have HBo := HB.out; refine (Z34.calls A0_0 c0_0 l0_0 A0_1 c0_1 l0_1 1048576 s0 _ (cD_ HR0_0.out HB.out) HC0_0.out (cD_ HR0_1.out HB.out) HC0_1.out FZ0.out).mono ?_; rintro e w2 ⟨rfl, hb0⟩; refine ⟨_, rfl, ?_⟩; clear hczp0_0 hfzp0_0 hczp0_1 hfzp0_1; have n_ := A_ (kE_ BKp0.out hb0); clear BKp0; have BKp0 := n_; clear n_; have n_ := A_ (below_then HBo HBo.size hb0); clear HB; have HB := n_; clear n_; have HSw2 := A_ hb0.size; clear hb0 HBo; obtain ⟨hczp0_0, hczp0_1, hfzp0_0, hfzp0_1⟩ := c2_ BKp0))
  go_ret
  exact ⟨rfl, HB.out⟩
 have hq0 : decide (s0 < 0) = false := oD_ hneg
 clear hneg
 obtain ⟨r0, FS0, FE0, FW, FG⟩ := h
 replace FS0 := A_ FS0
 replace FE0 := A_ FE0
 replace FW := A_ FW
 replace FG := A_ FG
 go_enter Try.func10, Try.ntmps10
 go_upto_region 2 with (first | ((with_reducible refine gB_ (N := 1) rfl ?_); refine bx_ 1 #[.slice A0_0 l0_0.length c0_0, .slice A0_1 l0_1.length c0_1] 44 ?_; intro gbp0 hg w1 hbox hb; have HBo := HB.out; have n_ := A_ (below_then HBo HBo.size hb); clear HB; have HB := n_; clear n_; have HSw1 := A_ hb.size; have BKp0 := A_ hbox; have GIp0 := A_ (show w.heap.size ≤ gbp0 ∧ gbp0 < w1.heap.size from ⟨by omega, blk_lt hbox⟩); have GEp0 := A_ (show w.heap.size ≤ gbp0 from by have := HBo.size; omega); clear hb hbox hg HBo; obtain ⟨hczp0_0, hczp0_1, hfzp0_0, hfzp0_1⟩ := c2_ BKp0))
 go_upto_region 5 with (first | ((with_reducible refine gA_ (f := 31) rfl ?_); refine goesL_ _ rfl rfl Try.func31 (by kernel_rfl) rfl #[.agg #[.slice A0_0 l0_0.length c0_0, .slice A0_1 l0_1.length c0_1], .int .i64 1048576] rfl (by (try simp only [mA_, mB_, mC_]); first | done | rfl) ?_; have HBo := HB.out; refine (Z34.calls A0_0 c0_0 l0_0 A0_1 c0_1 l0_1 1048576 s0 _ (cD_ HR0_0.out HB.out) HC0_0.out (cD_ HR0_1.out HB.out) HC0_1.out FZ0.out).mono ?_; rintro e w2 ⟨rfl, hb0⟩; refine ⟨_, rfl, ?_⟩; clear hczp0_0 hfzp0_0 hczp0_1 hfzp0_1; have n_ := A_ (kE_ BKp0.out hb0); clear BKp0; have BKp0 := n_; clear n_; have n_ := A_ (below_then HBo HBo.size hb0); clear HB; have HB := n_; clear n_; have HSw2 := A_ hb0.size; clear hb0 HBo; obtain ⟨hczp0_0, hczp0_1, hfzp0_0, hfzp0_1⟩ := c2_ BKp0))
 go_upto_region 6 with (first | ((with_reducible refine gA_ (f := 33) rfl ?_); refine goesL_ _ rfl rfl Try.func33 (by kernel_rfl) rfl #[.agg #[.slice A0_0 l0_0.length c0_0, .slice A0_1 l0_1.length c0_1]] rfl (by (try simp only [mA_, mB_, mC_]); first | done | rfl) ?_; have HBo := HB.out; refine (Z35.calls k A0_0 c0_0 l0_0 A0_1 c0_1 l0_1 l0_0 l0_1 _ (cD_ HR0_0.out HB.out) HC0_0.out (cD_ HR0_1.out HB.out) HC0_1.out FS0.out).mono ?_; rintro e w3 ⟨v0_, v1_, rfl, h0_, h1_, hb0⟩; refine ⟨_, rfl, ?_⟩; clear hczp0_0 hfzp0_0 hczp0_1 hfzp0_1; have n_ := A_ (kE_ BKp0.out hb0); clear BKp0; have BKp0 := n_; clear n_; have n_ := A_ (below_then HBo HBo.size hb0); clear HB; have HB := n_; clear n_; have HSw3 := A_ hb0.size; have NE1 := A_ h0_.1; have Hx1a := A_ (fresh_R (b0 := w.heap.size) h0_ HBo.size); clear h0_; obtain ⟨Ax1a, cx1a, ex1a⟩ := Kd.R_slice Hx1a.out; subst ex1a; have Hx1b := A_ (fresh_R (b0 := w.heap.size) h1_ HBo.size); clear h1_; obtain ⟨Ax1b, cx1b, ex1b⟩ := Kd.R_slice Hx1b.out; subst ex1b; clear hb0 HBo; obtain ⟨hczp0_0, hczp0_1, hfzp0_0, hfzp0_1⟩ := c2_ BKp0) | ((with_reducible refine gA_ (f := 44) rfl ?_); refine goesL_ _ rfl rfl Try.func44 (by kernel_rfl) rfl #[.agg #[.slice Ax1a l0_0.length cx1a, .slice Ax1b l0_1.length cx1b]] rfl (by (try simp only [mA_, mB_, mC_]); first | done | rfl) ?_; have HBo := HB.out; refine (Z12.calls k Ax1a cx1a l0_0 Ax1b cx1b l0_1 r0 _ (Kd.R_reads' Hx1a.out).2.2 (Kd.R_reads' Hx1a.out).2.1 (Kd.R_reads' Hx1b.out).2.2 (Kd.R_reads' Hx1b.out).2.1 FW.out).mono ?_; rintro e w4 ⟨rfl, hb0⟩; refine ⟨_, rfl, ?_⟩; clear hczp0_0 hfzp0_0 hczp0_1 hfzp0_1; have n_ := A_ (kE_ BKp0.out hb0); clear BKp0; have BKp0 := n_; clear n_; have n_ := A_ (rD_ Hx1a.out hb0); clear Hx1a; have Hx1a := n_; clear n_; have n_ := A_ (rD_ Hx1b.out hb0); clear Hx1b; have Hx1b := n_; clear n_; have n_ := A_ (below_then HBo HBo.size hb0); clear HB; have HB := n_; clear n_; have HSw4 := A_ hb0.size; clear hb0 HBo; obtain ⟨hczp0_0, hczp0_1, hfzp0_0, hfzp0_1⟩ := c2_ BKp0; clear Hx1a Hx1b))
 go_upto_region 7 with (first | ((with_reducible refine gA_ (f := 33) rfl ?_); refine goesL_ _ rfl rfl Try.func33 (by kernel_rfl) rfl #[.agg #[.slice A0_0 l0_0.length c0_0, .slice A0_1 l0_1.length c0_1]] rfl (by (try simp only [mA_, mB_, mC_]); first | done | rfl) ?_; have HBo := HB.out; refine (Z35.calls k A0_0 c0_0 l0_0 A0_1 c0_1 l0_1 l0_0 l0_1 _ (cD_ HR0_0.out HB.out) HC0_0.out (cD_ HR0_1.out HB.out) HC0_1.out FS0.out).mono ?_; rintro e w5 ⟨v0_, v1_, rfl, h0_, h1_, hb0⟩; refine ⟨_, rfl, ?_⟩; clear hczp0_0 hfzp0_0 hczp0_1 hfzp0_1; have n_ := A_ (kE_ BKp0.out hb0); clear BKp0; have BKp0 := n_; clear n_; have n_ := A_ (below_then HBo HBo.size hb0); clear HB; have HB := n_; clear n_; have HSw5 := A_ hb0.size; have NE2 := A_ h0_.1; have Hx2a := A_ (fresh_R (b0 := w.heap.size) h0_ HBo.size); clear h0_; obtain ⟨Ax2a, cx2a, ex2a⟩ := Kd.R_slice Hx2a.out; subst ex2a; have Hx2b := A_ (fresh_R (b0 := w.heap.size) h1_ HBo.size); clear h1_; obtain ⟨Ax2b, cx2b, ex2b⟩ := Kd.R_slice Hx2b.out; subst ex2b; clear hb0 HBo; obtain ⟨hczp0_0, hczp0_1, hfzp0_0, hfzp0_1⟩ := c2_ BKp0) | ((with_reducible refine gB_ (N := 5) rfl ?_); refine bx_ 5 #[.slice none 0 0, .slice none 0 0] 25 ?_; intro gbx0 hg w6 hbox hb; clear hczp0_0 hfzp0_0 hczp0_1 hfzp0_1; have HBo := HB.out; have n_ := A_ (kE_ BKp0.out hb); clear BKp0; have BKp0 := n_; clear n_; have n_ := A_ (rD_ Hx2a.out hb); clear Hx2a; have Hx2a := n_; clear n_; have n_ := A_ (rD_ Hx2b.out hb); clear Hx2b; have Hx2b := n_; clear n_; have n_ := A_ (below_then HBo HBo.size hb); clear HB; have HB := n_; clear n_; have HSw6 := A_ hb.size; have BKx0 := A_ hbox; have GIx0 := A_ (show w5.heap.size ≤ gbx0 ∧ gbx0 < w6.heap.size from ⟨by omega, blk_lt hbox⟩); have GEx0 := A_ (show w.heap.size ≤ gbx0 from by have := HBo.size; omega); clear hb hbox hg HBo; obtain ⟨hczp0_0, hczp0_1, hfzp0_0, hfzp0_1⟩ := c2_ BKp0; obtain ⟨hczx0_0, hczx0_1, hfzx0_0, hfzx0_1⟩ := c2_ BKx0) | ((with_reducible refine gate_store (t := 25) (p := 5) rfl ?_); refine store_event (t := 25) (p := 5) (v := ?vo5) (w1 := ((w6.setCell ⟨gbx0, 0, none⟩ (.slice Ax2a l0_0.length cx2a)).setCell ⟨gbx0, 1, none⟩ (.slice Ax2b l0_1.length cx2b))) ?hg ?ho ?hn ?hr ?_; (case ho => rfl); (case hg => rfl); (case hn => rfl); (case hr => first | (go_simp; done) | (go_simp; rfl)); intro wq hw; subst hw; obtain ⟨hbox, hkp, hB2⟩ := box_store BKx0.out (.slice Ax2a l0_0.length cx2a) (.slice Ax2b l0_1.length cx2b) HB.out GEx0.out; generalize hw : ((w6.setCell ⟨gbx0, 0, none⟩ (.slice Ax2a l0_0.length cx2a)).setCell ⟨gbx0, 1, none⟩ (.slice Ax2b l0_1.length cx2b)) = w7 at hbox hkp hB2 ⊢; clear hw; clear hczp0_0 hfzp0_0 hczp0_1 hfzp0_1 hczx0_0 hfzx0_0 hczx0_1 hfzx0_1; have n_ := A_ (blk_kept (g := gbp0) BKp0.out hkp (fun hs => by have hk := GIp0.out; have := hk.1; have := hk.2; have := GIx0.out; have := HSw1.out; have := HSw2.out; have := HSw3.out; have := HSw4.out; have := HSw5.out; have := HSw6.out; omega)); clear BKp0; have BKp0 := n_; clear n_; have n_ := A_ (Kd.R_kept Hx2a.out hkp (fun k_ hk hs => by have := hk.1; have := hk.2; have := GIx0.out; have := HSw1.out; have := HSw2.out; have := HSw3.out; have := HSw4.out; have := HSw5.out; have := HSw6.out; omega)); clear Hx2a; have Hx2a := n_; clear n_; have n_ := A_ (Kd.R_kept Hx2b.out hkp (fun k_ hk hs => by have := hk.1; have := hk.2; have := GIx0.out; have := HSw1.out; have := HSw2.out; have := HSw3.out; have := HSw4.out; have := HSw5.out; have := HSw6.out; omega)); clear Hx2b; have Hx2b := n_; clear n_; have n_ := A_ (hB2); clear HB; have HB := n_; clear n_; have HSw7 := A_ hkp.1; clear BKx0; have BKx0 := A_ (show w7.heap[gbx0]? = some (.cells #[.slice Ax2a l0_0.length cx2a, .slice Ax2b l0_1.length cx2b] 25 (0, 0)) from hbox); clear hbox hkp hB2; obtain ⟨hczp0_0, hczp0_1, hfzp0_0, hfzp0_1⟩ := c2_ BKp0; obtain ⟨hczx0_0, hczx0_1, hfzx0_0, hfzx0_1⟩ := c2_ BKx0))
 go_upto_region 10 with (first | ((with_reducible refine gA_ (f := 45) rfl ?_); refine goesL_ _ rfl rfl Try.func45 (by kernel_rfl) rfl #[.agg #[.slice Ax2a l0_0.length cx2a, .slice Ax2b l0_1.length cx2b]] rfl (by (try simp only [mA_, mB_, mC_]); first | done | rfl) ?_; have HBo := HB.out; refine (Z8.calls k Ax2a cx2a l0_0 Ax2b cx2b l0_1 r0 _ (Kd.R_reads' Hx2a.out).2.2 (Kd.R_reads' Hx2a.out).2.1 (Kd.R_reads' Hx2b.out).2.2 (Kd.R_reads' Hx2b.out).2.1 FG.out).mono ?_; rintro e w8 ⟨rfl, hb0⟩; refine ⟨_, rfl, ?_⟩; clear hczp0_0 hfzp0_0 hczp0_1 hfzp0_1 hczx0_0 hfzx0_0 hczx0_1 hfzx0_1; have n_ := A_ (kE_ BKp0.out hb0); clear BKp0; have BKp0 := n_; clear n_; have n_ := A_ (rD_ Hx2a.out hb0); clear Hx2a; have Hx2a := n_; clear n_; have n_ := A_ (rD_ Hx2b.out hb0); clear Hx2b; have Hx2b := n_; clear n_; have n_ := A_ (kE_ BKx0.out hb0); clear BKx0; have BKx0 := n_; clear n_; have n_ := A_ (below_then HBo HBo.size hb0); clear HB; have HB := n_; clear n_; have HSw8 := A_ hb0.size; clear hb0 HBo; obtain ⟨hczp0_0, hczp0_1, hfzp0_0, hfzp0_1⟩ := c2_ BKp0; obtain ⟨hczx0_0, hczx0_1, hfzx0_0, hfzx0_1⟩ := c2_ BKx0))
 clear hczp0_0 hfzp0_0 hczp0_1 hfzp0_1 hczx0_0 hfzx0_0 hczx0_1 hfzx0_1
 have n_ := A_ (kB_ BKp0.out)
 clear BKp0
 have BKp0 := n_
 clear n_
 have n_ := A_ (rC_ Hx2a.out)
 clear Hx2a
 have Hx2a := n_
 clear n_
 have n_ := A_ (rC_ Hx2b.out)
 clear Hx2b
 have Hx2b := n_
 clear n_
 have n_ := A_ (kB_ BKx0.out)
 clear BKx0
 have BKx0 := n_
 clear n_
 have n_ := A_ (bC_ HB.out)
 clear HB
 have HB := n_
 clear n_
 have HSw10 := A_ (show w8.heap.size ≤ w8.drew.heap.size from nA_ _)
 refine start_ (n := 5) (S := fun w' => w'.cell? ⟨gbp0, 0, none⟩ = some (.slice A0_0 l0_0.length c0_0) ∧ w'.cell? ⟨gbp0, 1, none⟩ = some (.slice A0_1 l0_1.length c0_1) ∧ w'.cell? ⟨gbx0, 0, none⟩ = some (.slice Ax2a l0_0.length cx2a) ∧ w'.cell? ⟨gbx0, 1, none⟩ = some (.slice Ax2b l0_1.length cx2b)) (ds := []) (bl_ 5 0) (by kernel_rfl) rfl (by kernel_rfl) ⟨cz0_ BKp0, cz1_ BKp0, cz0_ BKx0, cz1_ BKx0⟩ (fun hHeld => ?_)
 generalize hwd : w8.drew = w10 at BKp0 Hx2a Hx2b BKx0 HB HSw10 hHeld ⊢
 clear hwd
 refine take_ (i := 0) (N := some 22) (v := ?_) (a' := ?_) (bl_ 5 1) rfl rfl (by kernel_rfl) (fun _ _ _ h => h) (Or.inl ⟨by rfl, ?_⟩) hHeld ?_ ?_
 rotate_left
 ·rintro w' ⟨s0, s1, s2, s3⟩
  go_simp
  with_reducible rfl
 rotate_left
 ·simp only [Act.put, sA_, sB_, sC_, i64_w, i32_w]
  rfl
 refine take_ (i := 1) (N := some 23) (v := ?_) (a' := ?_) (bl_ 5 3) rfl rfl (by kernel_rfl) (fun _ _ _ h => h) (Or.inl ⟨by rfl, ?_⟩) hHeld ?_ ?_
 rotate_left
 ·rintro w' ⟨s0, s1, s2, s3⟩
  go_simp
  with_reducible rfl
 rotate_left
 ·simp only [Act.put, sA_, sB_, sC_, i64_w, i32_w]
  rfl
 refine one_ (i := 2) (N := some 24) (bl_ 5 7) rfl rfl (by kernel_rfl) (by decide) (fun K hK => ?_)
 replace hK := A_ hK
 refine gO_ Try.func33 #[.agg #[.slice A0_0 l0_0.length c0_0, .slice A0_1 l0_1.length c0_1]] (by rfl) rfl rfl (by (try simp only [mA_, mB_, mC_]); first | done | rfl) ?_
 have HBo := HB.out
 refine (Z35.calls k A0_0 c0_0 l0_0 A0_1 c0_1 l0_1 l0_0 l0_1 _ (cD_ HR0_0.out HB.out) HC0_0.out (cD_ HR0_1.out HB.out) HC0_1.out FS0.out).mono ?_
 rintro e w11 ⟨v0_, v1_, rfl, h0_, h1_, hb0⟩
 refine ⟨_, rfl, ?_⟩
 clear hHeld
 have n_ := A_ (kE_ BKp0.out hb0)
 clear BKp0
 have BKp0 := n_
 clear n_
 have n_ := A_ (rD_ Hx2a.out hb0)
 clear Hx2a
 have Hx2a := n_
 clear n_
 have n_ := A_ (rD_ Hx2b.out hb0)
 clear Hx2b
 have Hx2b := n_
 clear n_
 have n_ := A_ (kE_ BKx0.out hb0)
 clear BKx0
 have BKx0 := n_
 clear n_
 have n_ := A_ (below_then HBo HBo.size hb0)
 clear HB
 have HB := n_
 clear n_
 have HSw11 := A_ hb0.size
 have NE3 := A_ h0_.1
 have Hx3a := A_ (fresh_R (b0 := w.heap.size) h0_ HBo.size)
 clear h0_
 obtain ⟨Ax3a, cx3a, ex3a⟩ := Kd.R_slice Hx3a.out
 subst ex3a
 have Hx3b := A_ (fresh_R (b0 := w.heap.size) h1_ HBo.size)
 clear h1_
 obtain ⟨Ax3b, cx3b, ex3b⟩ := Kd.R_slice Hx3b.out
 subst ex3b
 clear hb0 HBo
 refine hK.out _ _ ⟨cz0_ BKp0, cz1_ BKp0, cz0_ BKx0, cz1_ BKx0⟩ (fun hHeld => ?_)
 clear hK K
 refine no_ (some 24) ?_
 refine one_ (i := 3) (N := some 25) (bl_ 5 15) rfl rfl (by kernel_rfl) (by decide) (fun K hK => ?_)
 replace hK := A_ hK
 refine gO_ Try.func34 #[.agg #[.slice Ax2a l0_0.length cx2a, .slice Ax2b l0_1.length cx2b], .agg #[.slice Ax3a l0_0.length cx3a, .slice Ax3b l0_1.length cx3b]] (by rfl) rfl rfl (by (try simp only [mA_, mB_, mC_]); first | done | rfl) ?_
 have HBo := HB.out
 refine (Z33.calls k Ax2a cx2a l0_0 Ax2b cx2b l0_1 Ax3a cx3a l0_0 Ax3b cx3b l0_1 true _ (Kd.R_reads' Hx2a.out).2.2 (Kd.R_reads' Hx2a.out).2.1 (Kd.R_reads' Hx2b.out).2.2 (Kd.R_reads' Hx2b.out).2.1 (Kd.R_reads' Hx3a.out).2.2 (Kd.R_reads' Hx3a.out).2.1 (Kd.R_reads' Hx3b.out).2.2 (Kd.R_reads' Hx3b.out).2.1 FE0.out).mono ?_
 rintro e w12 ⟨rfl, hb0⟩
 refine ⟨_, rfl, ?_⟩
 clear hHeld
 have n_ := A_ (kE_ BKp0.out hb0)
 clear BKp0
 have BKp0 := n_
 clear n_
 have n_ := A_ (rD_ Hx2a.out hb0)
 clear Hx2a
 have Hx2a := n_
 clear n_
 have n_ := A_ (rD_ Hx2b.out hb0)
 clear Hx2b
 have Hx2b := n_
 clear n_
 have n_ := A_ (kE_ BKx0.out hb0)
 clear BKx0
 have BKx0 := n_
 clear n_
 have n_ := A_ (rD_ Hx3a.out hb0)
 clear Hx3a
 have Hx3a := n_
 clear n_
 have n_ := A_ (rD_ Hx3b.out hb0)
 clear Hx3b
 have Hx3b := n_
 clear n_
 have n_ := A_ (below_then HBo HBo.size hb0)
 clear HB
 have HB := n_
 clear n_
 have HSw12 := A_ hb0.size
 clear hb0 HBo
 refine hK.out _ _ ⟨cz0_ BKp0, cz1_ BKp0, cz0_ BKx0, cz1_ BKx0⟩ (fun hHeld => ?_)
 clear hK K
 refine no_ (some 25) ?_
 refine pure_ (i := 4) (N := some 26) (v := ?_) (a' := ?_) (bl_ 5 31) rfl rfl (by kernel_rfl) (fun _ _ _ h => h) (Or.inl ⟨by rfl, ?_⟩) ?_ ?_
 rotate_left
 ·intro w'
  go_simp
  with_reducible rfl
 rotate_left
 ·simp only [Act.put, sA_, sB_, sC_, i64_w, i32_w]
  rfl
 refine done_ (by kernel_rfl) ?_
 clear hHeld
 obtain ⟨hczp0_0, hczp0_1, hfzp0_0, hfzp0_1⟩ := c2_ BKp0
 obtain ⟨hczx0_0, hczx0_1, hfzx0_0, hfzx0_1⟩ := c2_ BKx0
 clear Hx3a Hx3b
 go_wp2
 go_ret
 exact ⟨rfl, HB.out⟩
end Go.Proofs.Ytcggfjpnfodbaaa.A
end
section
/- Plain mathematics: permutations as lists of numbers. No conditions. -/
namespace Go.Proofs.Ytcggfjpnfodbaaa.M
set_option linter.unusedVariables false
set_option linter.unusedSimpArgs false
def I (l : List Nat) : List Int := l.map Int.ofNat
def g (p : List Nat) (i : Nat) : Nat := p.getD i 0
def tab (n : Nat) (f : Nat → Nat) : List Nat := (List.range n).map f
theorem I_len (l : List Nat) : (I l).length = l.length := by simp [I]
theorem I_inj {a b : List Nat} (h : I a = I b) : a = b := by
 unfold I at h
 exact (List.map_inj_right (fun x y hxy => Int.ofNat.inj hxy)).mp h
theorem tab_len (n : Nat) (f : Nat → Nat) : (tab n f).length = n := by simp [tab]
theorem g_tab {n : Nat} {f : Nat → Nat} {i : Nat} (h : i < n) : g (tab n f) i = f i := by simp [g, tab, List.getD_eq_getElem?_getD, h]
theorem g_get {p : List Nat} {i : Nat} (h : i < p.length) : g p i = p[i] := by simp [g, List.getD_eq_getElem?_getD, h]
theorem g_mem {p : List Nat} {i : Nat} (h : i < p.length) : g p i ∈ p := by rw [g_get h]; exact List.getElem_mem h
theorem mem_g {p : List Nat} {x : Nat} (h : x ∈ p) : ∃ i, i < p.length ∧ g p i = x := by
 obtain ⟨i, hi, rfl⟩ := List.mem_iff_getElem.mp h
 exact ⟨i, hi, g_get hi⟩
theorem ext_g {a b : List Nat} (hl : a.length = b.length) (h : ∀ i, i < a.length → g a i = g b i) : a = b := by
 apply List.ext_getElem hl
 intro i h1 h2
 rw [← g_get h1, ← g_get h2]
 exact h i h1
theorem eq_tab {l : List Nat} {n : Nat} {f : Nat → Nat} (hl : l.length = n) (h : ∀ i, i < n → g l i = f i) : l = tab n f :=
 ext_g (by rw [tab_len, hl]) (fun i hi => by rw [hl] at hi; rw [g_tab hi, h i hi])
theorem g_set {p : List Nat} {i x j : Nat} (h : i < p.length) : g (p.set i x) j = if i = j then x else g p j := by
 unfold g
 rw [List.getD_eq_getElem?_getD, List.getD_eq_getElem?_getD, List.getElem?_set]
 by_cases e : i = j
 ·subst e
  simp [h]
 ·simp [e]
theorem I_set (p : List Nat) (i x : Nat) : (I p).set i (x : Int) = I (p.set i x) := by simp [I, List.map_set]
theorem I_snoc (p : List Nat) (x : Nat) : I p ++ [(x : Int)] = I (p ++ [x]) := by simp [I]
theorem I_rep (n x : Nat) : I (List.replicate n x) = List.replicate n (x : Int) := by simp [I]
structure IsP (p : List Nat) : Prop where
 lt : ∀ x ∈ p, x < p.length
 nd : p.Nodup
instance (p : List Nat) : Decidable (IsP p) := decidable_of_iff ((∀ x ∈ p, x < p.length) ∧ p.Nodup) ⟨fun h => ⟨h.1, h.2⟩, fun h => ⟨h.lt, h.nd⟩⟩
theorem nodup_le (n : Nat) : ∀ l : List Nat, l.Nodup → (∀ x ∈ l, x < n) → l.length ≤ n := by
 induction n with
 | zero =>
  intro l _ h
  cases l with
  | nil => simp
  | cons a l => exact absurd (h a (by simp)) (by omega)
 | succ n ih =>
  intro l hn h
  have h1 := ih (l.erase n) (hn.erase n) (fun x hx => by
   have h2 := (List.Nodup.mem_erase_iff hn).mp hx
   have h3 := h x h2.2
   have h4 := h2.1
   omega)
  have h5 := @List.length_erase _ _ _ n l
  split at h5 <;> omega
theorem mem_all {p : List Nat} (hp : IsP p) {x : Nat} (h : x < p.length) : x ∈ p := by
 apply Classical.byContradiction
 intro hx
 have := nodup_le p.length (x :: p) (List.nodup_cons.mpr ⟨hx, hp.nd⟩) (fun y hy => by
  rcases List.mem_cons.mp hy with rfl | hy
  ·exact h
  ·exact hp.lt y hy)
 simp at this
 omega
theorem g_lt {p : List Nat} (hp : IsP p) {i : Nat} (h : i < p.length) : g p i < p.length := hp.lt _ (g_mem h)
theorem g_inj {p : List Nat} (hp : IsP p) {i j : Nat} (hi : i < p.length) (hj : j < p.length) (h : g p i = g p j) : i = j := by
 rw [g_get hi, g_get hj] at h
 have hw := List.pairwise_iff_getElem.mp hp.nd
 rcases Nat.lt_trichotomy i j with hij | hij | hij
 ·exact absurd h (hw i j hi hj hij)
 ·exact hij
 ·exact absurd h.symm (hw j i hj hi hij)
def ix (p : List Nat) (x : Nat) : Nat := p.idxOf x
theorem ix_lt {p : List Nat} (hp : IsP p) {x : Nat} (h : x < p.length) : ix p x < p.length := List.idxOf_lt_length_of_mem (mem_all hp h)
theorem g_ix {p : List Nat} (hp : IsP p) {x : Nat} (h : x < p.length) : g p (ix p x) = x := by
 rw [g_get (ix_lt hp h)]
 exact List.getElem_idxOf (ix_lt hp h)
theorem ix_g {p : List Nat} (hp : IsP p) {i : Nat} (h : i < p.length) : ix p (g p i) = i :=
 g_inj hp (ix_lt hp (g_lt hp h)) h (g_ix hp (g_lt hp h))
theorem ix_eq {p : List Nat} (hp : IsP p) {i x : Nat} (h : i < p.length) (e : g p i = x) : ix p x = i := by rw [← e]; exact ix_g hp h
theorem isP_mk {p : List Nat} (h1 : ∀ i, i < p.length → g p i < p.length) (h2 : ∀ i j, i < p.length → j < p.length → g p i = g p j → i = j) : IsP p := by
 refine ⟨fun x hx => ?_, ?_⟩
 ·obtain ⟨i, hi, rfl⟩ := mem_g hx
  exact h1 i hi
 ·refine List.pairwise_iff_getElem.mpr ?_
  intro i j hi hj hij e'
  rw [← g_get hi, ← g_get hj] at e'
  have := h2 i j hi hj e'
  omega
theorem isP_tab {n : Nat} {f : Nat → Nat} (h1 : ∀ i, i < n → f i < n) (h2 : ∀ i j, i < n → j < n → f i = f j → i = j) : IsP (tab n f) := by
 refine isP_mk (fun i hi => ?_) (fun i j hi hj e => ?_)
 ·rw [tab_len] at hi ⊢; rw [g_tab hi]; exact h1 i hi
 ·rw [tab_len] at hi hj; rw [g_tab hi, g_tab hj] at e; exact h2 i j hi hj e
def inv (p : List Nat) : List Nat := tab p.length (ix p)
theorem inv_len (p : List Nat) : (inv p).length = p.length := tab_len _ _
theorem g_inv {p : List Nat} {i : Nat} (h : i < p.length) : g (inv p) i = ix p i := g_tab h
theorem isP_inv {p : List Nat} (hp : IsP p) : IsP (inv p) := isP_tab (fun i hi => ix_lt hp hi) (fun i j hi hj e => by rw [← g_ix hp hi, ← g_ix hp hj, e])
def thn (p q : List Nat) : List Nat := tab p.length (fun i => g q (g p i))
theorem thn_len (p q : List Nat) : (thn p q).length = p.length := tab_len _ _
theorem g_thn {p q : List Nat} {i : Nat} (h : i < p.length) : g (thn p q) i = g q (g p i) := g_tab h
theorem isP_thn {p q : List Nat} (hp : IsP p) (hq : IsP q) (hl : p.length = q.length) : IsP (thn p q) :=
 isP_tab (fun i hi => by have h1 := g_lt hp hi; have h2 := g_lt hq (i := g p i) (by omega); omega)
  (fun i j hi hj e => g_inj hp hi hj (g_inj hq (by have := g_lt hp hi; omega) (by have := g_lt hp hj; omega) e))
def ren (p names : List Nat) : List Nat := tab p.length (fun j => g names (g p (ix names j)))
theorem ren_len (p names : List Nat) : (ren p names).length = p.length := tab_len _ _
theorem g_ren {p names : List Nat} {j : Nat} (h : j < p.length) : g (ren p names) j = g names (g p (ix names j)) := g_tab h
theorem isP_ren {p names : List Nat} (hp : IsP p) (hn : IsP names) (hl : p.length = names.length) : IsP (ren p names) := by
 refine isP_tab (fun i hi => ?_) (fun i j hi hj e => ?_)
 ·have h1 := ix_lt hn (x := i) (by omega)
  have h2 := g_lt hp (i := ix names i) (by omega)
  have h3 := g_lt hn (i := g p (ix names i)) (by omega)
  omega
 ·have h1 := ix_lt hn (x := i) (by omega)
  have h2 := ix_lt hn (x := j) (by omega)
  have h3 := g_lt hp (i := ix names i) (by omega)
  have h4 := g_lt hp (i := ix names j) (by omega)
  have h5 := g_inj hn (by omega) (by omega) e
  have h6 := g_inj hp (by omega) (by omega) h5
  have h7 := g_ix hn (x := i) (by omega)
  have h8 := g_ix hn (x := j) (by omega)
  rw [← h7, ← h8, h6]
end Go.Proofs.Ytcggfjpnfodbaaa.M
end
section
/- Plain mathematics: permutations of whole numbers, and what is reached by two of them. No conditions. -/
namespace Go.Proofs.Ytcggfjpnfodbaaa.M
set_option linter.unusedVariables false
set_option linter.unusedSimpArgs false
open Go.RowKit Go.Proofs.YtcggfjpnfodbaaaW.PrintWords Go.Proofs.YtcggfjpnfodbaaaW.PrintLast Go.Proofs.YtcggfjpnfodbaaaW.PrintMore
theorem w64 {x : Int} (h0 : -9223372036854775808 ≤ x) (h1 : x ≤ 9223372036854775807) : wrap64 x = x := by unfold wrap64; omega
theorem w64s (i : Nat) (h : i ≤ 9000000000000000000) : wrap64 ((i : Int) + 1) = ((i + 1 : Nat) : Int) := by rw [w64 (by omega) (by omega)]; omega
theorem ev_succ {α : Type} {f : Nat → Option α} {r : α} (h : Ev (fun k => f (k + 1)) r) : Ev f r := Ev.step (fun _ => rfl) h
theorem rdI (p : List Nat) (i : Nat) : rd (I p) (i : Int) = ((g p i : Nat) : Int) := by
 unfold rd g I
 simp only [Int.toNat_natCast, List.getD_eq_getElem?_getD, List.getElem?_map]
 cases p[i]? <;> rfl
theorem rd_get (l : List Int) (i : Nat) (h : i < l.length) : rd l (i : Int) = l[i] := by
 unfold rd
 simp [List.getD_eq_getElem?_getD, h]
theorem mem_I {p : List Nat} {x : Nat} : (x : Int) ∈ I p ↔ x ∈ p := by
 unfold I
 constructor
 ·intro h
  obtain ⟨y, hy, e⟩ := List.mem_map.mp h
  have : y = x := Int.ofNat.inj e
  exact this ▸ hy
 ·intro h
  exact List.mem_map.mpr ⟨x, h, rfl⟩
def PI (l : List Int) : Prop := l.length ≤ 24 ∧ (∀ x ∈ l, 0 ≤ x ∧ x < (l.length : Int)) ∧ l.Nodup
instance : DecidablePred PI := fun l => by unfold PI; infer_instance
def permB (l : List Int) : Bool := decide (PI l)
def N (l : List Int) : List Nat := l.map Int.toNat
theorem N_I (p : List Nat) : N (I p) = p := by
 unfold N I
 rw [List.map_map]
 exact List.map_id'' (fun x => rfl) p
theorem N_len (l : List Int) : (N l).length = l.length := by simp [N]
theorem I_N {l : List Int} (h : ∀ x ∈ l, 0 ≤ x) : I (N l) = l := by
 unfold N I
 rw [List.map_map]
 conv => rhs; rw [← List.map_id l]
 apply List.map_congr_left
 intro x hx
 have := h x hx
 simp only [Function.comp, id]
 show ((x.toNat : Nat) : Int) = x
 omega
theorem PI_nat {l : List Int} (h : PI l) : ∃ p, l = I p ∧ IsP p ∧ p.length ≤ 24 := by
 obtain ⟨h1, h2, h3⟩ := h
 refine ⟨N l, (I_N (fun x hx => (h2 x hx).1)).symm, ?_, by rw [N_len]; exact h1⟩
 have e := I_N (fun x hx => (h2 x hx).1)
 refine ⟨fun x hx => ?_, ?_⟩
 ·have := (h2 (x : Int) (by rw [← e]; exact mem_I.mpr hx)).2
  rw [N_len]
  omega
 ·rw [← e] at h3
  unfold I at h3
  exact (List.pairwise_map.mp h3).imp (fun {a b} hab hh => hab (by rw [hh]))
theorem PI_I {p : List Nat} : PI (I p) ↔ IsP p ∧ p.length ≤ 24 := by
 constructor
 ·intro h
  obtain ⟨q, e, h1, h2⟩ := PI_nat h
  have := I_inj e
  subst this
  exact ⟨h1, h2⟩
 ·intro ⟨h1, h2⟩
  refine ⟨by rw [I_len]; exact h2, fun x hx => ?_, ?_⟩
  ·unfold I at hx
   obtain ⟨y, hy, rfl⟩ := List.mem_map.mp hx
   have := h1.lt y hy
   rw [I_len]
   exact ⟨Int.natCast_nonneg y, Int.ofNat_lt.mpr this⟩
  ·unfold I
   exact List.pairwise_map.mpr (h1.nd.imp (fun {a b} hab hh => hab (Int.ofNat.inj hh)))
theorem permB_I {p : List Nat} : permB (I p) = true ↔ IsP p ∧ p.length ≤ 24 := by
 unfold permB
 rw [decide_eq_true_iff]
 exact PI_I
def okFrom (l : List Int) (i : Nat) : Prop := ∀ j : Nat, i ≤ j → j < l.length → 0 ≤ rd l (j : Int) ∧ rd l (j : Int) < (l.length : Int) ∧ rd l (j : Int) ∉ l.take j
theorem okFrom_end (l : List Int) (i : Nat) (h : l.length ≤ i) : okFrom l i := fun j h1 h2 => by omega
theorem okFrom_step {l : List Int} {i : Nat} (h : 0 ≤ rd l (i : Int) ∧ rd l (i : Int) < (l.length : Int) ∧ rd l (i : Int) ∉ l.take i) : okFrom l i ↔ okFrom l (i + 1) := by
 constructor
 ·intro k j h1 h2
  exact k j (by omega) h2
 ·intro k j h1 h2
  by_cases e : j = i
  ·subst e
   exact h
  ·exact k j (by omega) h2
theorem okFrom_not {l : List Int} {i : Nat} (hi : i < l.length) (h : ¬ (0 ≤ rd l (i : Int) ∧ rd l (i : Int) < (l.length : Int) ∧ rd l (i : Int) ∉ l.take i)) : ¬ okFrom l i := fun k => h (k i (Nat.le_refl _) hi)
theorem okFrom_PI {l : List Int} (h : l.length ≤ 24) : okFrom l 0 ↔ PI l := by
 constructor
 ·intro k
  refine ⟨h, fun x hx => ?_, ?_⟩
  ·obtain ⟨i, hi, rfl⟩ := List.mem_iff_getElem.mp hx
   have := k i (Nat.zero_le _) hi
   rw [rd_get l i hi] at this
   exact ⟨this.1, this.2.1⟩
  ·refine List.pairwise_iff_getElem.mpr ?_
   intro i j hi hj hij e
   have := (k j (Nat.zero_le _) hj).2.2
   rw [rd_get l j hj, ← e] at this
   exact this (List.mem_take_iff_getElem.mpr ⟨i, by omega, rfl⟩)
 ·intro ⟨_, h2, h3⟩ j _ hj
  rw [rd_get l j hj]
  refine ⟨(h2 _ (List.getElem_mem hj)).1, (h2 _ (List.getElem_mem hj)).2, fun hm => ?_⟩
  obtain ⟨i, hi, e⟩ := List.mem_take_iff_getElem.mp hm
  exact List.pairwise_iff_getElem.mp h3 i j (by omega) hj (by omega) e
theorem permB_of {l : List Int} {b : Bool} (h : l.length ≤ 24) (hb : b = true ↔ okFrom l 0) : b = permB l := by
 rw [Bool.eq_iff_iff, hb, okFrom_PI h]
 unfold permB
 rw [decide_eq_true_iff]
theorem take_succ (l : List Int) (i : Nat) (h : i < l.length) : l.take (i + 1) = l.take i ++ [rd l (i : Int)] := by
 rw [rd_get l i h, List.take_append_getElem h]
def st1 (out : List Nat) (x : Nat) : List Nat := if x ∈ out then out else out ++ [x]
def bfs (p q : List Nat) : Nat → Nat → List Nat → List Nat
 | 0, _, out => out
 | f + 1, a, out => if a < out.length then bfs p q f (a + 1) (st1 (st1 out (g p (g out a))) (g q (g out a))) else out
def reach (p q : List Nat) (s : Nat) : List Nat := bfs p q (p.length + 1) 0 [s]
structure RInv (n : Nat) (out : List Nat) : Prop where
 nd : out.Nodup
 lt : ∀ x ∈ out, x < n
theorem RInv.le {n : Nat} {out : List Nat} (h : RInv n out) : out.length ≤ n := nodup_le n out h.nd h.lt
theorem RInv.st {n : Nat} {out : List Nat} {x : Nat} (h : RInv n out) (hx : x < n) : RInv n (st1 out x) := by
 unfold st1
 split
 ·exact h
 ·rename_i hn
  refine ⟨List.nodup_append.mpr ⟨h.nd, by simp, fun a ha b hb e => ?_⟩, fun y hy => ?_⟩
  ·have : b = x := by simpa using hb
   subst this
   exact hn (e ▸ ha)
  ·rcases List.mem_append.mp hy with hy | hy
   ·exact h.lt y hy
   ·have : y = x := by simpa using hy
    omega
theorem st1_len (out : List Nat) (x : Nat) : out.length ≤ (st1 out x).length := by
 unfold st1
 split <;> simp
theorem RInv.g {n : Nat} {out : List Nat} {a : Nat} (h : RInv n out) (ha : a < out.length) : M.g out a < n := h.lt _ (g_mem ha)
structure Sf (r u : List Nat) : Prop where
 pr : IsP r
 pu : IsP u
 le : r.length ≤ 24
 eq : u.length = r.length
 pos : 0 < r.length
 all : (reach r u 0).length = r.length
def surfB (r u : List Int) : Bool := permB r && permB u && decide (r.length = u.length) && decide (0 < r.length) && ((reach (N r) (N u) 0).length == r.length)
theorem surf_nat {r u : List Int} (h : surfB r u = true) : ∃ r' u', r = I r' ∧ u = I u' ∧ Sf r' u' := by
 unfold surfB at h
 simp only [Bool.and_eq_true, decide_eq_true_eq, beq_iff_eq] at h
 obtain ⟨⟨⟨⟨h1, h2⟩, h3⟩, h4⟩, h5⟩ := h
 obtain ⟨r', rfl, a1, a2⟩ := PI_nat (of_decide_eq_true h1)
 obtain ⟨u', rfl, b1, b2⟩ := PI_nat (of_decide_eq_true h2)
 rw [N_I, N_I, I_len] at h5
 rw [I_len, I_len] at h3
 rw [I_len] at h4
 exact ⟨r', u', rfl, rfl, a1, b1, a2, h3.symm, h4, h5⟩
theorem surfB_I {r u : List Nat} : surfB (I r) (I u) = true ↔ Sf r u := by
 constructor
 ·intro h
  obtain ⟨r', u', e1, e2, hs⟩ := surf_nat h
  have := I_inj e1
  have := I_inj e2
  subst_vars
  exact hs
 ·intro h
  unfold surfB
  simp only [Bool.and_eq_true, decide_eq_true_eq, beq_iff_eq]
  rw [N_I, N_I, I_len, I_len]
  exact ⟨⟨⟨⟨permB_I.mpr ⟨h.pr, h.le⟩, permB_I.mpr ⟨h.pu, by have := h.le; have := h.eq; omega⟩⟩, h.eq.symm⟩, h.pos⟩, h.all⟩
end Go.Proofs.Ytcggfjpnfodbaaa.M
end
section
/- Plain mathematics: going round a permutation. No conditions. -/
namespace Go.Proofs.Ytcggfjpnfodbaaa.M
set_option linter.unusedVariables false
set_option linter.unusedSimpArgs false
def itr (p : List Nat) : Nat → Nat → Nat
 | 0, s => s
 | m + 1, s => g p (itr p m s)
theorem itr_lt {p : List Nat} (hp : IsP p) (m : Nat) {s : Nat} (hs : s < p.length) : itr p m s < p.length := by
 induction m with
 | zero => exact hs
 | succ m ih => exact g_lt hp ih
theorem itr_add (p : List Nat) (a b s : Nat) : itr p (a + b) s = itr p a (itr p b s) := by
 induction a with
 | zero => simp [itr]
 | succ a ih =>
  have e : a + 1 + b = (a + b) + 1 := by omega
  rw [e, itr, itr, ih]
theorem itr_back {p : List Nat} (hp : IsP p) {s : Nat} (hs : s < p.length) (i d : Nat) (h : itr p (i + d) s = itr p i s) : itr p d s = s := by
 induction i with
 | zero =>
  have e : 0 + d = d := by omega
  rw [e] at h
  exact h
 | succ i ih =>
  have e : i + 1 + d = (i + d) + 1 := by omega
  rw [e] at h
  exact ih (g_inj hp (itr_lt hp _ hs) (itr_lt hp _ hs) h)
theorem period {p : List Nat} (hp : IsP p) {s : Nat} (hs : s < p.length) : ∃ m, 1 ≤ m ∧ m ≤ p.length ∧ itr p m s = s := by
 apply Classical.byContradiction
 intro hn
 have hd : ((List.range (p.length + 1)).map (fun m => itr p m s)).Nodup := by
  refine List.pairwise_map.mpr ?_
  refine List.pairwise_iff_getElem.mpr ?_
  intro i j hi hj hij
  rw [List.length_range] at hi hj
  rw [List.getElem_range, List.getElem_range]
  intro e
  have : itr p (j - i) s = s := itr_back hp hs i (j - i) (by
   have e2 : i + (j - i) = j := by omega
   rw [e2]
   exact e.symm)
  exact hn ⟨j - i, by omega, by omega, this⟩
 have := nodup_le p.length _ hd (fun x hx => by
  obtain ⟨m, _, rfl⟩ := List.mem_map.mp hx
  exact itr_lt hp m hs)
 simp at this
 omega
def per (p : List Nat) (s : Nat) : Nat := (((List.range p.length).find? (fun m => itr p (m + 1) s == s)).getD 0) + 1
def orbTo (p : List Nat) (s m : Nat) : List Nat := (List.range m).map (fun k => itr p k s)
def orb (p : List Nat) (s : Nat) : List Nat := orbTo p s (per p s)
end Go.Proofs.Ytcggfjpnfodbaaa.M
end
section
/- Plain mathematics: surfaces, and what the four letters make of them. No conditions. -/
namespace Go.Proofs.Ytcggfjpnfodbaaa.M
set_option linter.unusedVariables false
set_option linter.unusedSimpArgs false
theorem st1_mem {out : List Nat} {x y : Nat} : y ∈ st1 out x ↔ y ∈ out ∨ y = x := by
 unfold st1
 split
 ·rename_i h
  constructor
  ·exact Or.inl
  ·rintro (h' | rfl)
   ·exact h'
   ·exact h
 ·simp
theorem st1_g {out : List Nat} {x i : Nat} (h : i < out.length) : g (st1 out x) i = g out i := by
 unfold st1
 split
 ·rfl
 ·unfold g
  rw [List.getD_eq_getElem?_getD, List.getD_eq_getElem?_getD, List.getElem?_append_left h]
theorem st1_le (out : List Nat) (x : Nat) : out.length ≤ (st1 out x).length := by
 unfold st1
 split
 ·exact Nat.le_refl _
 ·simp
theorem bfs_ind {r u : List Nat} {n : Nat} (S : Nat → Prop) (h1 : ∀ x, x < n → S x → S (g r x) ∧ g r x < n) (h2 : ∀ x, x < n → S x → S (g u x) ∧ g u x < n) : ∀ (F a : Nat) (out : List Nat), (∀ x ∈ out, S x ∧ x < n) → ∀ x ∈ bfs r u F a out, S x ∧ x < n := by
 intro F
 induction F with
 | zero => intro a out h; exact h
 | succ F ih =>
  intro a out h
  unfold bfs
  split
  ·rename_i ha
   obtain ⟨s, l⟩ := h _ (g_mem ha)
   refine ih _ _ (fun x hx => ?_)
   rcases st1_mem.mp hx with hx | rfl
   ·rcases st1_mem.mp hx with hx | rfl
    ·exact h x hx
    ·exact h1 _ l s
   ·exact h2 _ l s
  ·exact h
theorem bfs_sub {r u : List Nat} : ∀ (F a : Nat) (out : List Nat), ∀ x ∈ out, x ∈ bfs r u F a out := by
 intro F
 induction F with
 | zero => intro a out x h; exact h
 | succ F ih =>
  intro a out x h
  unfold bfs
  split
  ·exact ih _ _ x (st1_mem.mpr (.inl (st1_mem.mpr (.inl h))))
  ·exact h
theorem bfs_rinv {r u : List Nat} {n : Nat} (h1 : ∀ x, x < n → g r x < n) (h2 : ∀ x, x < n → g u x < n) : ∀ (F a : Nat) (out : List Nat), RInv n out → RInv n (bfs r u F a out) := by
 intro F
 induction F with
 | zero => intro a out h; exact h
 | succ F ih =>
  intro a out h
  unfold bfs
  split
  ·rename_i ha
   have hx := h.g ha
   exact ih _ _ ((h.st (h1 _ hx)).st (h2 _ hx))
  ·exact h
theorem bfs_shut {r u : List Nat} {n : Nat} (h1 : ∀ x, x < n → g r x < n) (h2 : ∀ x, x < n → g u x < n) : ∀ (F a : Nat) (out : List Nat), RInv n out → a ≤ out.length → n < F + a → (∀ i, i < a → g r (g out i) ∈ out ∧ g u (g out i) ∈ out) → ∀ x ∈ bfs r u F a out, g r x ∈ bfs r u F a out ∧ g u x ∈ bfs r u F a out := by
 intro F
 induction F with
 | zero =>
  intro a out h ha hF
  have := h.le
  omega
 | succ F ih =>
  intro a out h ha hF hc
  unfold bfs
  split
  ·rename_i ha'
   have hx := h.g ha'
   have r1 := h.st (h1 _ hx)
   have l1 := st1_le out (g r (g out a))
   have l2 := st1_le (st1 out (g r (g out a))) (g u (g out a))
   refine ih _ _ (r1.st (h2 _ hx)) (by omega) (by omega) (fun i hi => ?_)
   have e : g (st1 (st1 out (g r (g out a))) (g u (g out a))) i = g out i := by
    rw [st1_g (by omega), st1_g (by omega)]
   rw [e]
   by_cases hia : i < a
   ·exact ⟨st1_mem.mpr (.inl (st1_mem.mpr (.inl (hc i hia).1))), st1_mem.mpr (.inl (st1_mem.mpr (.inl (hc i hia).2)))⟩
   ·obtain rfl : i = a := by omega
    exact ⟨st1_mem.mpr (.inl (st1_mem.mpr (.inr rfl))), st1_mem.mpr (.inr rfl)⟩
  ·intro x hx
   obtain ⟨i, hi, rfl⟩ := mem_g hx
   exact hc i (by omega)
theorem nodup_sub_len5 : ∀ (a b : List Nat), a.Nodup → (∀ x ∈ a, x ∈ b) → a.length ≤ b.length := by
 intro a
 induction a with
 | nil => intro b _ _; simp
 | cons x a ih =>
  intro b hn h
  obtain ⟨h1, h2⟩ := List.nodup_cons.mp hn
  have hx : x ∈ b := h x (by simp)
  have := ih (b.erase x) h2 (fun y hy => (List.mem_erase_of_ne (fun e => h1 (by rw [← e]; exact hy))).mpr (h y (by simp [hy])))
  rw [List.length_erase_of_mem hx] at this
  have hp := List.length_pos_of_mem hx
  simp
  omega
def Tr (r u : List Nat) : Prop := ∀ S : Nat → Prop, S 0 → (∀ x, x < r.length → S x → S (g r x)) → (∀ x, x < r.length → S x → S (g u x)) → ∀ x, x < r.length → S x
theorem sf_of_tr {r u : List Nat} (pr : IsP r) (pu : IsP u) (le : r.length ≤ 24) (eq : u.length = r.length) (pos : 0 < r.length) (h : Tr r u) : Sf r u := by
 have b1 : ∀ x, x < r.length → g r x < r.length := fun x hx => g_lt pr hx
 have b2 : ∀ x, x < r.length → g u x < r.length := fun x hx => by have := g_lt pu (i := x) (by omega); omega
 have hri : RInv r.length (reach r u 0) := bfs_rinv b1 b2 _ _ _ ⟨by simp, by simpa using pos⟩
 have hsh := bfs_shut b1 b2 (r.length + 1) 0 [0] ⟨by simp, by simpa using pos⟩ (by simp) (by omega) (fun i hi => by omega)
 have hall : ∀ x, x < r.length → x ∈ reach r u 0 := h (fun x => x ∈ reach r u 0) (bfs_sub _ _ _ 0 (by simp)) (fun x _ hx => (hsh x hx).1) (fun x _ hx => (hsh x hx).2)
 refine ⟨pr, pu, le, eq, pos, ?_⟩
 have l1 := hri.le
 have l2 := nodup_sub_len5 (List.range r.length) (reach r u 0) List.nodup_range (fun x hx => hall x (List.mem_range.mp hx))
 rw [List.length_range] at l2
 omega
theorem Sf.tr {r u : List Nat} (hs : Sf r u) : Tr r u := by
 intro S s0 h1 h2 x hx
 have b1 : ∀ x, x < r.length → g r x < r.length := fun x hx => g_lt hs.pr hx
 have b2 : ∀ x, x < r.length → g u x < r.length := fun x hx => by have := g_lt hs.pu (i := x) (by rw [hs.eq]; exact hx); rw [hs.eq] at this; exact this
 have hri : RInv r.length (reach r u 0) := bfs_rinv b1 b2 _ _ _ ⟨by simp, by simpa using hs.pos⟩
 have hp : IsP (reach r u 0) := ⟨fun x hx => by rw [hs.all]; exact hri.lt x hx, hri.nd⟩
 have hm := mem_all hp (x := x) (by rw [hs.all]; exact hx)
 have h0 : ∀ y ∈ [0], S y ∧ y < r.length := by
  intro y hy
  obtain rfl : y = 0 := by simpa using hy
  exact ⟨s0, hs.pos⟩
 exact (bfs_ind S (fun x hx h => ⟨h1 x hx h, b1 x hx⟩) (fun x hx h => ⟨h2 x hx h, b2 x hx⟩) _ _ [0] h0 x hm).1
theorem closed_back {p : List Nat} (hp : IsP p) {S : Nat → Prop} (hS : ∀ x, x < p.length → S x → S (g p x)) {x : Nat} (hx : x < p.length) (h : S (g p x)) : S x := by
 obtain ⟨m, h1, _, h3⟩ := period hp hx
 have H : ∀ k, S (itr p k (g p x)) := by
  intro k
  induction k with
  | zero => exact h
  | succ k ih => exact hS _ (itr_lt hp k (g_lt hp hx)) ih
 have e : itr p (m - 1) (g p x) = itr p m x := by
  have := itr_add p (m - 1) 1 x
  rw [show m - 1 + 1 = m by omega] at this
  exact this.symm
 have := H (m - 1)
 rw [e, h3] at this
 exact this
theorem reach_full {r u : List Nat} (hs : Sf r u) {s : Nat} (hb : s < r.length) : RInv r.length (reach r u s) ∧ ∀ x, x < r.length → x ∈ reach r u s := by
 have b1 : ∀ x, x < r.length → g r x < r.length := fun x hx => g_lt hs.pr hx
 have b2 : ∀ x, x < r.length → g u x < r.length := fun x hx => by have := g_lt hs.pu (i := x) (by rw [hs.eq]; exact hx); rw [hs.eq] at this; exact this
 have h0 : RInv r.length [s] := ⟨by simp, by simpa using hb⟩
 have hsh := bfs_shut b1 b2 (r.length + 1) 0 [s] h0 (by simp) (by omega) (fun i hi => by omega)
 have hmem : s ∈ reach r u s := bfs_sub _ _ _ s (by simp)
 refine ⟨bfs_rinv b1 b2 _ _ _ h0, ?_⟩
 have z : (0 : Nat) ∈ reach r u s := by
  apply Classical.byContradiction
  intro hz
  refine hs.tr (fun x => x ∉ reach r u s) hz (fun x hx hn hm => ?_) (fun x hx hn hm => ?_) s hb hmem
  ·exact hn (closed_back hs.pr (S := fun x => x ∈ reach r u s) (fun y _ hy => (hsh y hy).1) hx hm)
  ·exact hn (closed_back hs.pu (S := fun x => x ∈ reach r u s) (fun y _ hy => (hsh y hy).2) (by rw [hs.eq]; exact hx) hm)
 exact hs.tr (fun x => x ∈ reach r u s) z (fun x _ hx => (hsh x hx).1) (fun x _ hx => (hsh x hx).2)
theorem sf_T {r u : List Nat} (hs : Sf r u) : Sf r (thn (inv r) u) := by
 have h1 : (inv r).length = u.length := by rw [inv_len, hs.eq]
 refine sf_of_tr hs.pr (isP_thn (isP_inv hs.pr) hs.pu h1) hs.le (by rw [thn_len, inv_len]) hs.pos (fun S s0 k1 k2 => hs.tr S s0 k1 (fun x hx hsx => ?_))
 have := k2 (g r x) (g_lt hs.pr hx) (k1 x hx hsx)
 rw [g_thn (by rw [inv_len]; exact g_lt hs.pr hx), g_inv (g_lt hs.pr hx), ix_g hs.pr hx] at this
 exact this
theorem sf_t {r u : List Nat} (hs : Sf r u) : Sf r (thn r u) := by
 have h1 : r.length = u.length := hs.eq.symm
 refine sf_of_tr hs.pr (isP_thn hs.pr hs.pu h1) hs.le (by rw [thn_len]) hs.pos (fun S s0 k1 k2 => hs.tr S s0 k1 (fun y hy hsy => ?_))
 have hx : ix r y < r.length := ix_lt hs.pr hy
 have e : g r (ix r y) = y := g_ix hs.pr hy
 have hsx : S (ix r y) := closed_back hs.pr (S := S) k1 hx (by rw [e]; exact hsy)
 have := k2 _ hx hsx
 rw [g_thn hx, e] at this
 exact this
theorem sf_S {r u : List Nat} (hs : Sf r u) : Sf (inv u) r := by
 have hl : (inv u).length = r.length := by rw [inv_len, hs.eq]
 refine sf_of_tr (isP_inv hs.pu) hs.pr (by rw [hl]; exact hs.le) hl.symm (by rw [hl]; exact hs.pos) (fun S s0 k1 k2 => ?_)
 rw [hl] at k1 k2 ⊢
 refine hs.tr S s0 k2 (fun x hx hsx => ?_)
 have hx' : g u x < u.length := g_lt hs.pu (by rw [hs.eq]; exact hx)
 refine closed_back (isP_inv hs.pu) (S := S) (fun y hy => k1 y (by rw [← hl]; exact hy)) (x := g u x) (by rw [inv_len]; exact hx') ?_
 rw [g_inv hx', ix_g hs.pu (by rw [hs.eq]; exact hx)]
 exact hsx
theorem sf_s {r u : List Nat} (hs : Sf r u) : Sf u (inv r) := by
 refine sf_of_tr hs.pu (isP_inv hs.pr) (by rw [hs.eq]; exact hs.le) (by rw [inv_len, hs.eq]) (by rw [hs.eq]; exact hs.pos) (fun S s0 k1 k2 => ?_)
 rw [hs.eq] at k1 k2 ⊢
 refine hs.tr S s0 (fun x hx hsx => ?_) k1
 have hx' : g r x < r.length := g_lt hs.pr hx
 refine closed_back (isP_inv hs.pr) (S := S) (fun y hy => k2 y (by rw [inv_len] at hy; exact hy)) (x := g r x) (by rw [inv_len]; exact hx') ?_
 rw [g_inv hx', ix_g hs.pr hx]
 exact hsx
end Go.Proofs.Ytcggfjpnfodbaaa.M
end
section
/- Plain mathematics: surfaces that are alike by renaming. No conditions. -/
namespace Go.Proofs.Ytcggfjpnfodbaaa.M
set_option linter.unusedVariables false
set_option linter.unusedSimpArgs false
structure Is (s t : List Nat × List Nat) (f : Nat → Nat) : Prop where
 len : t.1.length = s.1.length
 lt : ∀ x, x < s.1.length → f x < s.1.length
 inj : ∀ x y, x < s.1.length → y < s.1.length → f x = f y → x = y
 r : ∀ x, x < s.1.length → f (g s.1 x) = g t.1 (f x)
 u : ∀ x, x < s.1.length → f (g s.2 x) = g t.2 (f x)
theorem Sf.gr {r u : List Nat} (hs : Sf r u) {x : Nat} (h : x < r.length) : g r x < r.length := g_lt hs.pr h
theorem Sf.gu {r u : List Nat} (hs : Sf r u) {x : Nat} (h : x < r.length) : g u x < r.length := by
 have := g_lt hs.pu (i := x) (by rw [hs.eq]; exact h)
 rw [hs.eq] at this
 exact this
theorem Sf.ir {r u : List Nat} (hs : Sf r u) {x : Nat} (h : x < r.length) : ix r x < r.length := ix_lt hs.pr h
theorem Sf.iu {r u : List Nat} (hs : Sf r u) {x : Nat} (h : x < r.length) : ix u x < r.length := by
 have := ix_lt hs.pu (x := x) (by rw [hs.eq]; exact h)
 rw [hs.eq] at this
 exact this
theorem Is.refl (s : List Nat × List Nat) : Is s s (fun x => x) := ⟨rfl, fun _ h => h, fun _ _ _ _ h => h, fun _ _ => rfl, fun _ _ => rfl⟩
theorem Is.trans {s t v : List Nat × List Nat} {f h : Nat → Nat} (a : Is s t f) (b : Is t v h) : Is s v (fun x => h (f x)) where
 len := b.len.trans a.len
 lt x hx := by have := b.lt (f x) (by rw [a.len]; exact a.lt x hx); rw [a.len] at this; exact this
 inj x y hx hy e := a.inj x y hx hy (b.inj _ _ (by rw [a.len]; exact a.lt x hx) (by rw [a.len]; exact a.lt y hy) e)
 r x hx := by show h (f (g s.1 x)) = _; rw [a.r x hx, b.r _ (by rw [a.len]; exact a.lt x hx)]
 u x hx := by show h (f (g s.2 x)) = _; rw [a.u x hx, b.u _ (by rw [a.len]; exact a.lt x hx)]
def bk (n : Nat) (f : Nat → Nat) (y : Nat) : Nat := ix (tab n f) y
theorem bk_lt {n : Nat} {f : Nat → Nat} (h1 : ∀ x, x < n → f x < n) (h2 : ∀ x y, x < n → y < n → f x = f y → x = y) {y : Nat} (hy : y < n) : bk n f y < n := by
 have := ix_lt (isP_tab h1 h2) (x := y) (by rw [tab_len]; exact hy)
 rw [tab_len] at this
 exact this
theorem f_bk {n : Nat} {f : Nat → Nat} (h1 : ∀ x, x < n → f x < n) (h2 : ∀ x y, x < n → y < n → f x = f y → x = y) {y : Nat} (hy : y < n) : f (bk n f y) = y := by
 have h := g_ix (isP_tab h1 h2) (x := y) (by rw [tab_len]; exact hy)
 have hb : ix (tab n f) y < n := bk_lt h1 h2 hy
 rw [g_tab hb] at h
 exact h
theorem bk_f {n : Nat} {f : Nat → Nat} (h1 : ∀ x, x < n → f x < n) (h2 : ∀ x y, x < n → y < n → f x = f y → x = y) {x : Nat} (hx : x < n) : bk n f (f x) = x :=
 h2 _ _ (bk_lt h1 h2 (h1 x hx)) hx (f_bk h1 h2 (h1 x hx))
theorem Is.symm {s t : List Nat × List Nat} {f : Nat → Nat} (hs : Sf s.1 s.2) (a : Is s t f) : Is t s (bk s.1.length f) where
 len := a.len.symm
 lt y hy := by rw [a.len] at hy ⊢; exact bk_lt a.lt a.inj hy
 inj y z hy hz e := by
  rw [a.len] at hy hz
  rw [← f_bk a.lt a.inj hy, ← f_bk a.lt a.inj hz, e]
 r y hy := by
  rw [a.len] at hy
  have hb := bk_lt a.lt a.inj hy
  have e : g t.1 y = f (g s.1 (bk s.1.length f y)) := by rw [a.r _ hb, f_bk a.lt a.inj hy]
  rw [e, bk_f a.lt a.inj (hs.gr hb)]
 u y hy := by
  rw [a.len] at hy
  have hb := bk_lt a.lt a.inj hy
  have e : g t.2 y = f (g s.2 (bk s.1.length f y)) := by rw [a.u _ hb, f_bk a.lt a.inj hy]
  rw [e, bk_f a.lt a.inj (hs.gu hb)]
theorem Sf.of_is {s t : List Nat × List Nat} {f : Nat → Nat} (hs : Sf s.1 s.2) (a : Is s t f) (p1 : IsP t.1) (p2 : IsP t.2) (hl : t.2.length = t.1.length) : Sf t.1 t.2 := by
 refine sf_of_tr p1 p2 (by rw [a.len]; exact hs.le) hl (by rw [a.len]; exact hs.pos) (fun S s0 k1 k2 y hy => ?_)
 rw [a.len] at k1 k2 hy
 have i0 := bk_lt a.lt a.inj hs.pos
 have h0 : S (f (bk s.1.length f 0)) := by rw [f_bk a.lt a.inj hs.pos]; exact s0
 have hm := (reach_full hs i0).2 (bk s.1.length f y) (bk_lt a.lt a.inj hy)
 have := (bfs_ind (fun x => S (f x)) (n := s.1.length) (fun x hx h => ⟨by rw [a.r x hx]; exact k1 _ (a.lt x hx) h, hs.gr hx⟩) (fun x hx h => ⟨by rw [a.u x hx]; exact k2 _ (a.lt x hx) h, hs.gu hx⟩) _ _ [bk s.1.length f 0] (by intro x hx; obtain rfl : x = bk s.1.length f 0 := (by simpa using hx); exact ⟨h0, i0⟩) _ hm).1
 rw [f_bk a.lt a.inj hy] at this
 exact this
theorem Sf.all_of {r u : List Nat} (hs : Sf r u) {S : Nat → Prop} {i : Nat} (hi : i < r.length) (h0 : S i) (h1 : ∀ x, x < r.length → S x → S (g r x)) (h2 : ∀ x, x < r.length → S x → S (g u x)) : ∀ y, y < r.length → S y := by
 intro y hy
 have hm := (reach_full hs hi).2 y hy
 exact (bfs_ind S (n := r.length) (fun x hx h => ⟨h1 x hx h, hs.gr hx⟩) (fun x hx h => ⟨h2 x hx h, hs.gu hx⟩) _ _ [i] (by intro x hx; obtain rfl : x = i := (by simpa using hx); exact ⟨h0, hi⟩) _ hm).1
theorem Is.ir {s t : List Nat × List Nat} {f : Nat → Nat} (hs : Sf s.1 s.2) (ht : Sf t.1 t.2) (a : Is s t f) {x : Nat} (hx : x < s.1.length) : f (ix s.1 x) = ix t.1 (f x) := by
 have h1 := hs.ir hx
 refine (ix_eq ht.pr (by rw [a.len]; exact a.lt _ h1) ?_).symm
 rw [← a.r _ h1, g_ix hs.pr hx]
theorem Is.iu {s t : List Nat × List Nat} {f : Nat → Nat} (hs : Sf s.1 s.2) (ht : Sf t.1 t.2) (a : Is s t f) {x : Nat} (hx : x < s.1.length) : f (ix s.2 x) = ix t.2 (f x) := by
 have h1 := hs.iu hx
 refine (ix_eq ht.pu (by rw [ht.eq, a.len]; exact a.lt _ h1) ?_).symm
 rw [← a.u _ h1, g_ix hs.pu (by rw [hs.eq]; exact hx)]
end Go.Proofs.Ytcggfjpnfodbaaa.M
end
section
/- The tests of permutations, program and reference, come to one plain test. No conditions. -/
namespace Go.Proofs.Ytcggfjpnfodbaaa.M
set_option linter.unusedVariables false
set_option linter.unusedSimpArgs false
open Go.RowKit Go.Proofs.YtcggfjpnfodbaaaW.PrintWords Go.Proofs.YtcggfjpnfodbaaaW.PrintLast Go.Proofs.YtcggfjpnfodbaaaW.PrintMore Go.Proofs.Ytcggfjpnfodbaaa.A
theorem has_ev (l : List Int) (a : Int) (hl : l.length ≤ 1000000000) : Ev (fun k => Z69.f k l a) (decide (a ∈ l)) := by
 have H : ∀ d i : Nat, i + d = l.length → Ev (fun k => Z69.l0 k a l (l.length : Int) (i : Int)) (decide (a ∈ l.drop i)) := by
  intro d
  induction d with
  | zero =>
   intro i h
   refine ev_succ ?_
   have h1 : ¬ ((i : Int) < (l.length : Int)) := by omega
   have e : decide (a ∈ l.drop i) = false := by
    rw [List.drop_of_length_le (by omega)]
    simp
   simp only [Z69.l0, h1, if_false]
   rw [e]
   exact Ev.now _
  | succ d ih =>
   intro i h
   refine ev_succ ?_
   have hi : i < l.length := by omega
   have h1 : (i : Int) < (l.length : Int) := by omega
   have h2 : (0 : Int) ≤ (i : Int) := by omega
   have h3 := w64s i (by omega)
   have e := List.drop_eq_getElem_cons hi
   rw [← rd_get l i hi] at e
   by_cases hr : rd l (i : Int) = a
   ·have e2 : decide (a ∈ l.drop i) = true := by rw [e, hr]; simp
    simp only [Z69.l0, h1, h2, hr, if_true]
    rw [e2]
    exact Ev.now _
   ·have e2 : decide (a ∈ l.drop i) = decide (a ∈ l.drop (i + 1)) := by
     rw [e]
     have : ¬ a = rd l (i : Int) := fun h => hr h.symm
     simp [this]
    simp only [Z69.l0, h1, h2, h3, hr, if_true, if_false]
    rw [e2]
    exact ih (i + 1) (by omega)
 have := H l.length 0 (by omega)
 simpa [Z69.f] using this
theorem in_f (x : Int) (n : Nat) (hn : n ≤ 24) : Z71.f x 0 (wrap64 ((n : Int) - 1)) = some (decide (0 ≤ x ∧ x < (n : Int))) := by
 unfold Z71.f
 rw [w64 (by omega) (by omega)]
 by_cases h : x ≥ 0
 ·rw [if_pos h]
  congr 1
  rw [Bool.eq_iff_iff, decide_eq_true_iff, decide_eq_true_iff]
  omega
 ·rw [if_neg h]
  congr 1
  symm
  rw [decide_eq_false_iff_not]
  omega
theorem spec_permOk (l : List Int) : Ev (fun k => Z67.f k l) (permB l) := by
 unfold Z67.f
 by_cases h24 : (l.length : Int) > 24
 ·simp only [h24, if_true]
  have : permB l = false := by
   unfold permB
   rw [decide_eq_false_iff_not]
   intro h
   have := h.1
   omega
  rw [this]
  exact Ev.now _
 ·simp only [h24, if_false]
  have H : ∀ d i : Nat, i + d = l.length → ∃ b, Ev (fun k => Z67.l0 k l l (l.length : Int) (i : Int)) b ∧ (b = true ↔ okFrom l i) := by
   intro d
   induction d with
   | zero =>
    intro i h
    refine ⟨true, ev_succ ?_, by simp [okFrom_end l i (by omega)]⟩
    have h1 : ¬ ((i : Int) < (l.length : Int)) := by omega
    simp only [Z67.l0, h1, if_false]
    exact Ev.now _
   | succ d ih =>
    intro i h
    have hi : i < l.length := by omega
    have h1 : (i : Int) < (l.length : Int) := by omega
    have h1' : (i : Int) ≤ (l.length : Int) := by omega
    have h2 : (0 : Int) ≤ (i : Int) := by omega
    have h3 := w64s i (by omega)
    have hin := in_f (rd l (i : Int)) l.length (by omega)
    by_cases c1 : 0 ≤ rd l (i : Int) ∧ rd l (i : Int) < (l.length : Int)
    ·have hh := has_ev (l.take i) (rd l (i : Int)) (by rw [List.length_take]; omega)
     by_cases c2 : rd l (i : Int) ∈ l.take i
     ·refine ⟨false, ev_succ ?_, by simpa using okFrom_not hi (fun h => h.2.2 c2)⟩
      simp only [Z67.l0, h1, h1', h2, hin, c1, if_true, Option.bind_some, decide_true, Int.toNat_natCast, and_self]
      refine Ev.bind hh ?_
      simp only [c2, decide_true, if_true]
      exact Ev.now _
     ·obtain ⟨b, i1, i2⟩ := ih (i + 1) (by omega)
      refine ⟨b, ev_succ ?_, by rw [i2]; exact (okFrom_step ⟨c1.1, c1.2, c2⟩).symm⟩
      simp only [Z67.l0, h1, h1', h2, h3, hin, c1, if_true, Option.bind_some, decide_true, Int.toNat_natCast, and_self]
      refine Ev.bind hh ?_
      simp only [c2, decide_false, Bool.false_eq_true, if_false]
      exact i1
    ·refine ⟨false, ev_succ ?_, by simpa using okFrom_not hi (fun h => c1 ⟨h.1, h.2.1⟩)⟩
     simp only [Z67.l0, h1, h2, hin, c1, if_true, if_false, Option.bind_some, decide_false, Bool.false_eq_true]
     exact Ev.now _
  obtain ⟨b, i1, i2⟩ := H l.length 0 (by omega)
  rw [← permB_of (by omega) i2]
  exact i1
theorem rdOf_nat (s : List Bool) (x : Nat) : rdOf false s (x : Int) = s.getD x false := rfl
theorem getD_set (s : List Bool) (x y : Nat) (h : x < s.length) : (s.set x true).getD y false = if x = y then true else s.getD y false := by
 rw [List.getD_eq_getElem?_getD, List.getD_eq_getElem?_getD, List.getElem?_set]
 by_cases e : x = y
 ·subst e
  simp [h]
 ·simp [e]
theorem impl_permOk (l : List Int) : Ev (fun k => Z62.f k l) (permB l) := by
 unfold Z62.f
 by_cases h24 : (l.length : Int) > 24
 ·simp only [h24, if_true]
  have : permB l = false := by
   unfold permB
   rw [decide_eq_false_iff_not]
   intro h
   have := h.1
   omega
  rw [this]
  exact Ev.now _
 ·simp only [h24, if_false]
  have H : ∀ (d i : Nat) (s : List Bool), i + d = l.length → s.length = 24 → (∀ x : Nat, x < 24 → (s.getD x false = true ↔ (x : Int) ∈ l.take i)) → ∃ b, Ev (fun k => Z62.l0 k l s (i : Int)) b ∧ (b = true ↔ okFrom l i) := by
   intro d
   induction d with
   | zero =>
    intro i s h hs hx
    refine ⟨true, ev_succ ?_, by simp [okFrom_end l i (by omega)]⟩
    have h1 : ¬ ((i : Int) < (l.length : Int)) := by omega
    simp only [Z62.l0, h1, if_false]
    exact Ev.now _
   | succ d ih =>
    intro i s h hs hx
    have hi : i < l.length := by omega
    have h1 : (i : Int) < (l.length : Int) := by omega
    have h2 : (0 : Int) ≤ (i : Int) := by omega
    have h3 := w64s i (by omega)
    by_cases c1 : rd l (i : Int) < 0
    ·refine ⟨false, ev_succ ?_, by simpa using okFrom_not hi (fun h => by omega)⟩
     simp only [Z62.l0, h1, h2, c1, if_true]
     exact Ev.now _
    ·by_cases c2 : rd l (i : Int) ≥ (l.length : Int)
     ·refine ⟨false, ev_succ ?_, by simpa using okFrom_not hi (fun h => by omega)⟩
      simp only [Z62.l0, h1, h2, c1, c2, if_true, if_false]
      exact Ev.now _
     ·obtain ⟨x, ex⟩ : ∃ x : Nat, rd l (i : Int) = (x : Int) := ⟨(rd l (i : Int)).toNat, by omega⟩
      have hx24 : x < 24 := by omega
      by_cases c3 : s.getD x false = true
      ·have hm := (hx x hx24).mp c3
       refine ⟨false, ev_succ ?_, by simpa using okFrom_not hi (fun h => h.2.2 (by rw [ex]; exact hm))⟩
       rw [ex] at c1 c2
       simp only [Z62.l0, h1, h2, ex, c1, c2, rdOf_nat, c3, if_true, if_false]
       exact Ev.now _
      ·have hm : (x : Int) ∉ l.take i := fun h => c3 ((hx x hx24).mpr h)
       obtain ⟨b, i1, i2⟩ := ih (i + 1) (s.set x true) (by omega) (by rw [List.length_set]; exact hs) (fun y hy => by
        rw [getD_set s x y (by omega), take_succ l i hi, ex]
        by_cases e : x = y
        ·subst e
         simp
        ·rw [if_neg e, hx y hy]
         have : ¬ (y : Int) = (x : Int) := by omega
         simp [this])
       refine ⟨b, ev_succ ?_, by rw [i2]; exact (okFrom_step ⟨by omega, by omega, by rw [ex]; exact hm⟩).symm⟩
       rw [ex] at c1 c2
       simp only [Z62.l0, h1, h2, h3, ex, c1, c2, rdOf_nat, c3, if_true, if_false, Int.toNat_natCast]
       exact i1
  obtain ⟨b, i1, i2⟩ := H l.length 0 (List.replicate 24 false) (by omega) rfl (fun x hx => by
   have : (List.replicate 24 false).getD x false = false := by
    rw [List.getD_eq_getElem?_getD, List.getElem?_replicate]
    simp [hx]
   rw [this]
   simp)
  rw [← permB_of (by omega) i2]
  exact i1
end Go.Proofs.Ytcggfjpnfodbaaa.M
end
section
/- The tests of surfaces, program and reference, come to one plain test. No conditions. -/
namespace Go.Proofs.Ytcggfjpnfodbaaa.M
set_option linter.unusedVariables false
set_option linter.unusedSimpArgs false
open Go.RowKit Go.Proofs.YtcggfjpnfodbaaaW.PrintWords Go.Proofs.YtcggfjpnfodbaaaW.PrintLast Go.Proofs.YtcggfjpnfodbaaaW.PrintMore Go.Proofs.Ytcggfjpnfodbaaa.A
theorem I_pair (a b : Nat) : ([(a : Int), (b : Int)] : List Int) = I [a, b] := rfl
theorem I_len' (l : List Nat) : ((I l).length : Int) = (l.length : Int) := by rw [I_len]
theorem st1_I (out : List Nat) (x : Nat) : I (st1 out x) = if (x : Int) ∈ I out then I out else I out ++ [(x : Int)] := by
 unfold st1
 by_cases h : x ∈ out
 ·rw [if_pos h, if_pos (mem_I.mpr h)]
 ·rw [if_neg h, if_neg (fun k => h (mem_I.mp k)), I_snoc]
theorem reach_one (p q out pr : List Nat) (a : Nat) (j : Nat) (hj : j < pr.length) (hp : pr.length ≤ 2) (hl : out.length ≤ 1000) (r : List Int)
  (H : Ev (fun k => Z48.l1 k (I p) (I q) (I (st1 out (g pr j))) (a : Int) (I pr) (pr.length : Int) ((j + 1 : Nat) : Int)) r) :
  Ev (fun k => Z48.l1 k (I p) (I q) (I out) (a : Int) (I pr) (pr.length : Int) (j : Int)) r := by
 refine ev_succ ?_
 have h1 : (j : Int) < (pr.length : Int) := by omega
 have h2 : (0 : Int) ≤ (j : Int) := by omega
 have h3 := w64s j (by omega)
 have h4 : (I out).length < 17592186044416 := by rw [I_len]; omega
 have hh := has_ev (I out) ((g pr j : Nat) : Int) (by rw [I_len]; omega)
 simp only [Z48.l1, h1, h2, h3, h4, rdI, I_len', if_true]
 refine Ev.bind hh ?_
 rw [st1_I] at H
 by_cases hm : ((g pr j : Nat) : Int) ∈ I out
 ·rw [if_pos hm] at H
  simp only [hm, decide_true, if_true]
  exact H
 ·rw [if_neg hm] at H
  simp only [hm, decide_false, Bool.false_eq_true, if_false]
  exact H
theorem reach_loop {p q : List Nat} (hp : IsP p) (hq : IsP q) (hl : q.length = p.length) (h24 : p.length ≤ 24) (f : Nat) : ∀ (a : Nat) (out : List Nat), RInv p.length out → a ≤ out.length → p.length < f + a →
  Ev (fun k => Z48.l0 k (I p) (I q) (I out) (a : Int)) (I (bfs p q f a out)) := by
 induction f with
 | zero =>
  intro a out hr ha hf
  have := hr.le
  omega
 | succ f ih =>
  intro a out hr ha hf
  have hle := hr.le
  refine ev_succ ?_
  by_cases h : a < out.length
  ·have h1 : (a : Int) < (out.length : Int) := by omega
   have h2 : (0 : Int) ≤ (a : Int) := by omega
   have hx := hr.g h
   have h3 : ((g out a : Nat) : Int) < (p.length : Int) := by omega
   have h4 : (0 : Int) ≤ ((g out a : Nat) : Int) := by omega
   have h5 : ((g out a : Nat) : Int) < (q.length : Int) := by omega
   have h6 := w64s a (by omega)
   simp only [Z48.l0, h1, h2, h3, h4, h5, rdI, I_len', if_true, Option.bind_some, I_pair]
   have r1 := hr.st (g_lt hp hx)
   have r2 := r1.st (x := g q (g out a)) (by have := g_lt hq (i := g out a) (by omega); omega)
   have hb : bfs p q (f + 1) a out = bfs p q f (a + 1) (st1 (st1 out (g p (g out a))) (g q (g out a))) := by
    rw [bfs, if_pos h]
   rw [hb]
   have i1 := ih (a + 1) _ r2 (by have := st1_len out (g p (g out a)); have := st1_len (st1 out (g p (g out a))) (g q (g out a)); omega) (by omega)
   refine reach_one p q out [g p (g out a), g q (g out a)] a 0 (by simp) (by simp) (by omega) _ ?_
   refine reach_one p q _ [g p (g out a), g q (g out a)] a 1 (by simp) (by simp) (by have := r1.le; simp only [g, List.getD_cons_zero] at this ⊢; omega) _ ?_
   refine ev_succ ?_
   have h7 : ¬ (((1 + 1 : Nat) : Int) < (([g p (g out a), g q (g out a)] : List Nat).length : Int)) := by simp
   simp only [Z48.l1, h7, h6, if_false]
   exact i1
  ·have h1 : ¬ ((a : Int) < (out.length : Int)) := by omega
   have hb : bfs p q (f + 1) a out = out := by rw [bfs, if_neg h]
   rw [hb]
   simp only [Z48.l0, h1, I_len', if_false]
   exact Ev.now _
theorem reach_ev {p q : List Nat} (hp : IsP p) (hq : IsP q) (hl : q.length = p.length) (h24 : p.length ≤ 24) (s : Nat) (hs : s < p.length) : Ev (fun k => Z48.f k (I p) (I q) (s : Int)) (I (reach p q s)) := by
 unfold Z48.f reach
 exact reach_loop hp hq hl h24 (p.length + 1) 0 [s] ⟨by simp, by simpa using hs⟩ (by simp) (by omega)
theorem len_ne_false {r u : List Int} (h : r.length ≠ u.length) : surfB r u = false := by
 unfold surfB
 simp [h]
theorem surfB_mk {r u : List Int} (h1 : permB r = true) (h2 : permB u = true) (h3 : r.length = u.length) (h4 : 0 < r.length) : surfB r u = ((reach (N r) (N u) 0).length == r.length) := by
 unfold surfB
 simp [h1, h2, h3, h4]
 intro _
 omega
theorem spec_trans (r u : List Int) : Ev (fun k => Z17.f k r u) (surfB r u) := by
 unfold Z17.f
 refine Ev.bind (spec_permOk r) ?_
 by_cases h1 : permB r = true
 ·simp only [h1, if_true]
  refine Ev.bind (spec_permOk u) ?_
  by_cases h2 : permB u = true
  ·simp only [h2, if_true]
   by_cases h3 : (r.length : Int) = (u.length : Int)
   ·have h3' : r.length = u.length := by omega
    by_cases h4 : (r.length : Int) > 0
    ·have h4' : 0 < r.length := by omega
     rw [surfB_mk h1 h2 h3' h4']
     obtain ⟨p, rfl, a1, a2⟩ := PI_nat (of_decide_eq_true h1)
     obtain ⟨q, rfl, b1, b2⟩ := PI_nat (of_decide_eq_true h2)
     rw [I_len, I_len] at h3'
     rw [I_len] at h4'
     have := reach_ev a1 b1 h3'.symm a2 0 h4'
     simp only [h3, h4, if_true]
     rw [h3] at h4
     simp only [h4, if_true]
     refine Ev.bind this ?_
     rw [N_I, N_I]
     have e : (((I (reach p q 0)).length : Int) == ((I q).length : Int)) = ((reach p q 0).length == (I p).length) := by
      rw [I_len, I_len, I_len, Bool.eq_iff_iff, beq_iff_eq, beq_iff_eq]
      omega
     rw [← h3] at e
     simp only [h3] at e
     rw [← e]
     exact Ev.now _
    ·simp only [h3, if_true]
     rw [h3] at h4
     simp only [h4, if_false]
     have : surfB r u = false := by
      unfold surfB
      have : ¬ 0 < r.length := by omega
      simp [this]
     rw [this]
     exact Ev.now _
   ·simp only [h3, if_false]
    rw [len_ne_false (by omega)]
    exact Ev.now _
  ·have h2' := Bool.eq_false_iff.mpr h2
   simp only [h2', Bool.false_eq_true, if_false]
   have : surfB r u = false := by unfold surfB; simp [h2']
   rw [this]
   exact Ev.now _
 ·have h1' := Bool.eq_false_iff.mpr h1
  simp only [h1', Bool.false_eq_true, if_false]
  have : surfB r u = false := by unfold surfB; simp [h1']
  rw [this]
  exact Ev.now _
theorem spec_surf (r u : List Int) : Ev (fun k => Z37.f k r u) (surfB r u) := by
 unfold Z37.f
 exact Ev.bind (spec_trans r u) (Ev.now _)
def Marks (n : Nat) (s : List Bool) (out : List Nat) : Prop := s.length = n ∧ ∀ x, x < n → (s.getD x false = true ↔ x ∈ out)
theorem Marks.add {n : Nat} {s : List Bool} {out : List Nat} {x : Nat} (h : Marks n s out) (hx : x < n) : Marks n (s.set x true) (out ++ [x]) := by
 refine ⟨by rw [List.length_set]; exact h.1, fun y hy => ?_⟩
 rw [getD_set s x y (by rw [h.1]; exact hx)]
 by_cases e : x = y
 ·subst e
  simp
 ·rw [if_neg e, h.2 y hy]
  have : ¬ y = x := fun k => e k.symm
  simp [this]
theorem trans_one (p q out pr : List Nat) (s : List Bool) (a : Nat) (j : Nat) (hj : j < pr.length) (hp : pr.length ≤ 2) (hl : out.length ≤ 1000) (hm : Marks p.length s out) (hx : g pr j < p.length) (r : Bool)
  (H : ∀ s', Marks p.length s' (st1 out (g pr j)) → Ev (fun k => Z14.l1 k (I p) (I q) s' (I (st1 out (g pr j))) (a : Int) (I pr) (pr.length : Int) ((j + 1 : Nat) : Int)) r) :
  Ev (fun k => Z14.l1 k (I p) (I q) s (I out) (a : Int) (I pr) (pr.length : Int) (j : Int)) r := by
 refine ev_succ ?_
 have h1 : (j : Int) < (pr.length : Int) := by omega
 have h2 : (0 : Int) ≤ (j : Int) := by omega
 have h3 := w64s j (by omega)
 have h4 : (I out).length < 17592186044416 := by rw [I_len]; omega
 have h5 : (0 : Int) ≤ ((g pr j : Nat) : Int) := by omega
 have h6 : ((g pr j : Nat) : Int) < (s.length : Int) := by rw [hm.1]; omega
 simp only [Z14.l1, h1, h2, h3, h4, h5, h6, rdI, I_len', rdOf_nat, if_true, Int.toNat_natCast]
 by_cases hin : g pr j ∈ out
 ·have hs := (hm.2 _ hx).mpr hin
  have e : st1 out (g pr j) = out := by unfold st1; rw [if_pos hin]
  have := H s (by rw [e]; exact hm)
  rw [e] at this
  simp only [hs, if_true]
  exact this
 ·have hs : s.getD (g pr j) false = false := Bool.eq_false_iff.mpr (fun h => hin ((hm.2 _ hx).mp h))
  have e : st1 out (g pr j) = out ++ [g pr j] := by unfold st1; rw [if_neg hin]
  have := H (s.set (g pr j) true) (by rw [e]; exact hm.add hx)
  rw [e, ← I_snoc] at this
  simp only [hs, Bool.false_eq_true, if_false]
  exact this
theorem trans_loop {p q : List Nat} (hp : IsP p) (hq : IsP q) (hl : q.length = p.length) (h24 : p.length ≤ 24) (f : Nat) : ∀ (a : Nat) (out : List Nat) (s : List Bool), RInv p.length out → Marks p.length s out → a ≤ out.length → p.length < f + a →
  Ev (fun k => Z14.l0 k (I p) (I q) s (I out) (a : Int)) ((bfs p q f a out).length == p.length) := by
 induction f with
 | zero =>
  intro a out s hr hm ha hf
  have := hr.le
  omega
 | succ f ih =>
  intro a out s hr hm ha hf
  have hle := hr.le
  refine ev_succ ?_
  by_cases h : a < out.length
  ·have h1 : (a : Int) < (out.length : Int) := by omega
   have h2 : (0 : Int) ≤ (a : Int) := by omega
   have hx := hr.g h
   have h3 : ((g out a : Nat) : Int) < (p.length : Int) := by omega
   have h4 : (0 : Int) ≤ ((g out a : Nat) : Int) := by omega
   have h5 : ((g out a : Nat) : Int) < (q.length : Int) := by omega
   have h6 := w64s a (by omega)
   simp only [Z14.l0, h1, h2, h3, h4, h5, rdI, I_len', if_true, Option.bind_some, I_pair]
   have hg1 := g_lt hp hx
   have hg2 : g q (g out a) < p.length := by have := g_lt hq (i := g out a) (by omega); omega
   have r1 := hr.st hg1
   have r2 := r1.st hg2
   have hb : bfs p q (f + 1) a out = bfs p q f (a + 1) (st1 (st1 out (g p (g out a))) (g q (g out a))) := by
    rw [bfs, if_pos h]
   rw [hb]
   refine trans_one p q out [g p (g out a), g q (g out a)] s a 0 (by simp) (by simp) (by omega) hm hg1 _ (fun s1 hm1 => ?_)
   refine trans_one p q _ [g p (g out a), g q (g out a)] s1 a 1 (by simp) (by simp) (by have := r1.le; simp only [g, List.getD_cons_zero] at this ⊢; omega) hm1 hg2 _ (fun s2 hm2 => ?_)
   refine ev_succ ?_
   have h7 : ¬ (((1 + 1 : Nat) : Int) < (([g p (g out a), g q (g out a)] : List Nat).length : Int)) := by simp
   simp only [Z14.l1, h7, h6, if_false]
   exact ih (a + 1) _ s2 r2 hm2 (Nat.le_trans (by omega : a + 1 ≤ out.length) (Nat.le_trans (st1_len _ _) (st1_len _ _))) (by omega)
  ·have h1 : ¬ ((a : Int) < (out.length : Int)) := by omega
   have hb : bfs p q (f + 1) a out = out := by rw [bfs, if_neg h]
   rw [hb]
   simp only [Z14.l0, h1, I_len', if_false]
   have e : ((out.length : Int) == (p.length : Int)) = (out.length == p.length) := by
    rw [Bool.eq_iff_iff, beq_iff_eq, beq_iff_eq]
    omega
   rw [e]
   exact Ev.now _
theorem j0_true (r u : List Int) : Ev (fun k => Z14.j0 k r u true) false := by
 refine ev_succ ?_
 simp only [Z14.j0, if_true]
 exact Ev.now _
theorem impl_trans (r u : List Int) : Ev (fun k => Z14.f k r u) (surfB r u) := by
 unfold Z14.f
 refine Ev.bind (impl_permOk r) ?_
 by_cases h1 : permB r = true
 ·simp only [h1, if_true]
  refine Ev.bind (impl_permOk u) ?_
  by_cases h2 : permB u = true
  ·simp only [h2, if_true]
   by_cases h3 : (r.length : Int) = (u.length : Int)
   ·have h3' : r.length = u.length := by omega
    simp only [h3, if_true]
    by_cases h4 : 0 < r.length
    ·rw [surfB_mk h1 h2 h3' h4]
     obtain ⟨p, rfl, a1, a2⟩ := PI_nat (of_decide_eq_true h1)
     obtain ⟨q, rfl, b1, b2⟩ := PI_nat (of_decide_eq_true h2)
     rw [I_len, I_len] at h3'
     rw [I_len] at h4
     refine ev_succ ?_
     have e0 : ((q.length : Int) == 0) = false := by rw [beq_eq_false_iff_ne]; omega
     have e1 : (0 : Int) ≤ (p.length : Int) := by omega
     have e2 : ((p.length : Int)).toNat ≤ 281474976710656 := by omega
     have e3 : (0 : Int) < ((List.replicate p.length false).length : Int) := by rw [List.length_replicate]; omega
     simp only [Z14.j0, e0, I_len', e1, e2, Bool.false_eq_true, if_true, if_false, Option.bind_some, Int.toNat_natCast, e3]
     simp only [Int.toNat_natCast] at e2
     simp only [e2, if_true]
     rw [N_I, N_I, I_len]
     refine trans_loop a1 b1 h3'.symm a2 (p.length + 1) 0 [0] _ ⟨by simp, by simpa using h4⟩ ?_ (by simp) (by omega)
     refine ⟨by simp, fun x hx => ?_⟩
     have : (0 : Int).toNat = 0 := rfl
     rw [this, getD_set _ 0 x (by simp; omega)]
     by_cases e : 0 = x
     ·subst e
      simp
     ·rw [if_neg e]
      have h0 : ¬ x = 0 := fun h => e h.symm
      have : (List.replicate p.length false).getD x false = false := by
       rw [List.getD_eq_getElem?_getD, List.getElem?_replicate]
       simp [hx]
      rw [this]
      simp [h0]
    ·have e0 : ((u.length : Int) == 0) = true := by rw [beq_iff_eq]; omega
     have : surfB r u = false := by unfold surfB; simp [h4]
     rw [this]
     simp only [e0]
     exact j0_true r u
   ·simp only [h3, if_false]
    rw [len_ne_false (by omega)]
    exact j0_true r u
  ·have h2' := Bool.eq_false_iff.mpr h2
   simp only [h2', Bool.false_eq_true, if_false]
   have : surfB r u = false := by unfold surfB; simp [h2']
   rw [this]
   exact j0_true r u
 ·have h1' := Bool.eq_false_iff.mpr h1
  simp only [h1', Bool.false_eq_true, if_false]
  have : surfB r u = false := by unfold surfB; simp [h1']
  rw [this]
  exact j0_true r u
theorem impl_surf (r u : List Int) : Ev (fun k => Z31.f k r u) (surfB r u) := by
 unfold Z31.f
 exact Ev.bind (impl_trans r u) (Ev.now _)
end Go.Proofs.Ytcggfjpnfodbaaa.M
end
